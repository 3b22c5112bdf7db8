/- By a program of mine (gen.py): for each function a plain function and the proof that the code computes it. -/
import Derived.Test.YtbajldmfbhaaoaaGreatDoorA2
import Derived.Test.YtbajldmfbhaaoaaGreatDoorFw38
open Option renaming bind_some → jd
open Nat renaming le_refl → je, lt_of_lt_of_le → jp, mul_le_mul_right → jq, le_of_ble_eq_true → jr, succ_mul → jx
open Go.Result renaming andThen_ok → jf
open Bool renaming and_eq_true → jg, eq_iff_iff → ji, true_and → jy, not_eq_true' → jA
open List renaming getElem?_eq_getElem → jh, length_append → jm, getElem_mem → jn, mem_cons_of_mem → jo, getElem?_append_left → js, mem_cons_self → jt, getElem?_append_right → ju, eq_nil_of_length_eq_zero → jv, getElem?_take → jw, getElem?_toArray → jz, size_toArray → jB, append_assoc → jC, map_cons → jD
open Go.Sem renaming run_bind → jj, run_pure → jk

namespace Go.Fw
open Go Go.Proofs
open Go.RowKit (Below)
set_option maxRecDepth 100000
set_option maxHeartbeats 1600000
variable {n:Nat} {w:World} {cs1 cs2 cs3 cs4 cs5 cs6 cs7 cs8 cs9:List Value}
def qbR (a_1:qc) (y1:qd):Nat→Int→Option (Flow Bool Int)
 | 0,_=>none
 | n+1,i2 =>
  bif decide (i2<(y1.Ah.length:Int)) then
   (idx y1.Ah i2).bind fun y2 =>
   (qU n y2 0 (W64 ((a_1.Ah.length:Int)-1))).bind fun r1 =>
   bif (!r1) then some (.ret false) else
   qbR a_1 y1 n (W64 (i2+1))
  else
   some (.nxt i2)
def qbS (a_1:qc):Nat→Int→Option (Flow Bool Int)
 | 0,_=>none
 | n+1,i3 =>
  bif decide (i3<(a_1.Ac.length:Int)) then
   (idx a_1.Ac i3).bind fun y4 =>
   (qU n y4.Bf 1 2).bind fun r3 =>
   bif (!r3) then some (.ret false) else
   (idx a_1.Ac i3).bind fun y5 =>
   (qU n y5.Bi 0 (W64 ((a_1.Ah.length:Int)-1))).bind fun r4 =>
   bif (!r4) then some (.ret false) else
   qbS a_1 n (W64 (i3+1))
  else
   some (.nxt i3)
def qbY (a_0:qm) (a_1:qc):Nat→Int→Option (Flow Bool Int)
 | 0,_=>none
 | n+1,i1 =>
  bif decide (i1<(a_1.Aa.length:Int)) then
   (idx a_1.Aa i1).bind fun y1 =>
   (
    (qU n y1.Bh 0 (W64 ((a_0.Ai.length:Int)-1))).bind fun r2 =>
    bif (!r2) then some true else
    (idx a_0.Ai y1.Bh).bind fun y3 =>
    some ((y1.Ah.length:Int) != (y3.Am.length:Int))).bind fun b2 =>
   bif b2 then some (.ret false) else
   (qbR a_1 y1 n 0).bind fun o=>match o with
   | .ret r=>some (.ret r)
   | .nxt _ =>
    qbY a_0 a_1 n (W64 (i1+1))
  else
   some (.nxt i1)
def qeJ (n:Nat) (a_0:qm) (a_1:qc):Option Bool :=
 (qbY a_0 a_1 n 0).bind fun o=>match o with
 | .ret r=>some r
 | .nxt _ =>
  (qbS a_1 n 0).bind fun o=>match o with
  | .ret r=>some r
  | .nxt _ =>
   some true
theorem qic {a_0:qm} {a_1:qc} (ha1:GoT.R w (old w) a_0 cs1) (ha2:GoT.R w (old w) a_1 cs2) {r:Bool} (hF:qeJ n a_0 a_1=some r):RetV Tryz.prog 189 [GoT.v qm cs1,GoT.v qc cs2] w r:=by
 obtain ⟨p1,k1,rfl,s1⟩:=qaK ha1
 obtain ⟨p2,k2,p3,k3,p4,k4,rfl,s2,s3,s4⟩:=qX ha2
 refine zV 90 Tryz.func189 rfl fun h=>zSR (qy h rfl rfl fun w1 bb1 h=>qy h rfl rfl fun w2 bb2 h=>X1 14 0 h rfl ?_)
 obtain ⟨o1,hF,hK1⟩:=qi hF
 refine qj (rL (fun m e w'=>∃ (i1:Int),qbY a_0 a_1 m i1=some o1∧e=[(2,.pointer (some ⟨bb1,0,none⟩)),(3,.pointer (some ⟨bb2,0,none⟩)),(5,.int .i64 (a_1.Ah.length:Int)),(6,.int .i64 i1)]∧SH w w' [Ch.box bb2 (qaf a_1 p2 p3 p4 k2 k3 k4) 54,Ch.box bb1 [.slice p1 a_0.Ai.length k1] 50]) n ⟨_,hF,rfl,h⟩ rfl ?_)
 rintro m1 e1 w3 ⟨i1,hF,rfl,h⟩
 rcases m1 with _|m1
 ·cases hF
 refine X1 9 0 h rfl (qf rfl hF ?_ ?_)<;>intro hF
 ·refine X1 8 0 h rfl ?_
  obtain ⟨y1,hy1,hF,he1,b1,_,q1,cs3,hp1,hq1,hr1,hc2⟩:=s2.ix hF
  obtain ⟨p5,k5,rfl,s5⟩:=qH hr1
  refine zxe hp1 hq1 he1 rfl (zc 0 (hc2.below h.below) rfl (qJ qk h rfl rfl rfl fun w4 bb3 h=>zs 0 h rfl fun w5 h=>zNSS ?_))
  obtain ⟨KF1,hKF1,o3,hF,hK3⟩:=bindE hF
  refine qc3 (fun e w'=>∃ (b2:Bool),KF1 b2=some o1∧e=[(2,.pointer (some ⟨bb1,0,none⟩)),(3,.pointer (some ⟨bb2,0,none⟩)),(5,.int .i64 (a_1.Ah.length:Int)),(6,.int .i64 i1),(7,.pointer (some ⟨bb3,0,none⟩)),(46,.bool b2)]∧SH w w' [Ch.box bb3 (qeX y1 p5 k5) 217,Ch.box bb2 (qaf a_1 p2 p3 p4 k2 k3 k4) 54,Ch.box bb1 [.slice p1 a_0.Ai.length k1] 50]) ?_ ?_
  ·refine rD (Y1 2 0 h rfl ?_)
   refine Y1 2 2 h rfl ?_
   refine zd2 rfl ?_
   obtain ⟨r2,hr4,hF⟩:=qi hF
   refine qbA r2 (vsB _) (cB 130 rfl) (fun _ hb=>qM  hr4) rfl rfl rfl rfl (zd2 rfl (qaA (t:=33) hF rfl ?_ ?_))<;>intro hF
   ·refine Y0 13 rfl (dN h fun w8 h=>?_)
    obtain rfl:=qa hF
    exact rG ⟨_,hK3,rfl,h⟩ rfl
   refine Y1 4 0 h rfl ?_
   refine Y1 6 2 h rfl ?_
   refine Y1 4 0 h rfl ?_
   refine Y0 1 rfl ?_
   obtain ⟨y3,hy3,hF,he3,b4,_,q3,cs5,hp3,hq3,hr5,hc7⟩:=s1.ix hF
   obtain ⟨p6,k6,p7,k7,p8,k8,rfl,s6,s7,s8⟩:=qD hr5
   refine zdxe hp3 hq3 he3 rfl (Y0 3 rfl (zdc 2 (hc7.below h.below) rfl (Y0 5 rfl (dN h fun w9 h=>?_))))
   obtain rfl:=qa hF
   exact rG ⟨_,hK3,rfl,h⟩ rfl
  rintro e3 w10 ⟨b2,hF,rfl,h⟩
  subst hKF1
  refine qf rfl hF ?_ ?_<;>intro hF
  ·refine X0 4 rfl ?_
   obtain rfl:=qa hF;replace hF:=hK1
   exact rb h hF rfl
  refine X0 5 rfl ?_
  obtain ⟨o2,hF,hK2⟩:=qi hF
  refine qj (rL (fun m e w'=>∃ (i2:Int),qbR a_1 y1 m i2=some o2∧e=[(2,.pointer (some ⟨bb1,0,none⟩)),(3,.pointer (some ⟨bb2,0,none⟩)),(5,.int .i64 (a_1.Ah.length:Int)),(6,.int .i64 i1),(7,.pointer (some ⟨bb3,0,none⟩)),(8,.int .i64 i2)]∧SH w w' [Ch.box bb3 (qeX y1 p5 k5) 217,Ch.box bb2 (qaf a_1 p2 p3 p4 k2 k3 k4) 54,Ch.box bb1 [.slice p1 a_0.Ai.length k1] 50]) m1 ⟨_,hF,rfl,h⟩ rfl ?_)
  rintro m2 e2 w6 ⟨i2,hF,rfl,h⟩
  rcases m2 with _|m2
  ·cases hF
  refine X1 9 0 h rfl (qf rfl hF ?_ ?_)<;>intro hF
  ·refine X1 8 0 h rfl ?_
   obtain ⟨y2,hy2,hF,he2,b3,_,q2,cs4,hp2,hq2,rfl,hc5⟩:=s5.ix hF
   refine zxe hp2 hq2 he2 rfl (zc 0 (hc5.below h.below) rfl (zp2 rfl (zcB h hF qM rfl fun r1 w7 h hF=>X0 2 rfl (qf rfl hF ?_ ?_))))<;>intro hF
   ·refine X0 4 rfl ?_
    obtain rfl:=qa hF;replace hF:=hK2
    obtain rfl:=qa hF;replace hF:=hK1
    exact rb h hF rfl
   exact X0 7 rfl (rK ⟨_,hF,rfl,h⟩ rfl)
  refine qn rfl ?_
  obtain rfl:=qa hF;replace hF:=hK2
  refine X0 6 rfl ?_
  replace h:=h.pick [1,2] rfl
  exact rK ⟨_,hF,rfl,h⟩ rfl
 refine qn rfl ?_
 obtain rfl:=qa hF;replace hF:=hK1
 refine X0 5 rfl ?_
 obtain ⟨o4,hF,hK4⟩:=qi hF
 refine qj ?_
 replace h:=h.pick [0] rfl
 refine rL (fun m e w'=>∃ (i3:Int),qbS a_1 m i3=some o4∧e=[(3,.pointer (some ⟨bb2,0,none⟩)),(5,.int .i64 (a_1.Ah.length:Int)),(9,.int .i64 i3)]∧SH w w' [Ch.box bb2 (qaf a_1 p2 p3 p4 k2 k3 k4) 54]) n ⟨_,hF,rfl,h⟩ rfl ?_
 rintro m3 e4 w11 ⟨i3,hF,rfl,h⟩
 rcases m3 with _|m3
 ·cases hF
 refine X1 9 0 h rfl (qf rfl hF ?_ ?_)<;>intro hF
 ·refine X1 8 0 h rfl ?_
  obtain ⟨y4,hy4,hF,he4,b5,_,q4,cs6,hp4,hq4,hr6,hc9⟩:=s4.ix hF
  obtain rfl:=qae hr6
  refine zxe hp4 hq4 he4 rfl (zp1 rfl (zc 1 (hc9.below h.below) rfl (zcB h hF qM rfl fun r3 w12 h hF=>zp2 rfl (qe (t:=78) hF rfl ?_ ?_))))<;>intro hF
  ·refine X0 12 rfl (qcv rfl rfl (X0 4 rfl ?_))
   obtain rfl:=qa hF;replace hF:=hK4
   exact rb h hF rfl
  refine X1 7 0 h rfl ?_
  obtain ⟨y5,hy5,hF,he5,b6,_,q5,cs7,hp5,hq5,hr8,hc10⟩:=s4.ix hF
  obtain rfl:=qae hr8
  refine zxe hp5 hq5 he5 rfl (X0 3 rfl (zc 2 (hc10.below h.below) rfl (X0 5 rfl (zcB h hF qM rfl fun r4 w13 h hF=>X0 4 rfl (qf rfl hF ?_ ?_)))))<;>intro hF
  ·refine X0 4 rfl ?_
   obtain rfl:=qa hF;replace hF:=hK4
   exact rb h hF rfl
  exact X0 7 rfl (rK ⟨_,hF,rfl,h⟩ rfl)
 refine qn rfl ?_
 obtain rfl:=qa hF;replace hF:=hK4
 exact X0 4 rfl (rb h hF rfl)
def qbU (list:(List ByteArray)) (i1:Int):Nat→Int→Option (Flow Bool Int)
 | 0,_=>none
 | n+1,i2 =>
  bif decide (i2<i1) then
   (idx list i2).bind fun y2 =>
   (idx list i1).bind fun y3 =>
   bif (y2.toList==y3.toList) then some (.ret false) else
   qbU list i1 n (W64 (i2+1))
  else
   some (.nxt i2)
def qbQ (list:(List ByteArray)):Nat→Int→Option (Flow Bool Int)
 | 0,_=>none
 | n+1,i1 =>
  bif decide (i1<(list.length:Int)) then
   (idx list i1).bind fun y1 =>
   (qdv n y1).bind fun r1 =>
   bif (!r1) then some (.ret false) else
   (qbU list i1 n 0).bind fun o=>match o with
   | .ret r=>some (.ret r)
   | .nxt _ =>
    qbQ list n (W64 (i1+1))
  else
   some (.nxt i1)
def qc8 (n:Nat) (list:(List ByteArray)):Option Bool :=
 (qbQ list n 0).bind fun o=>match o with
 | .ret r=>some r
 | .nxt _ =>
  some true
theorem qeB {list:(List ByteArray)} (ha1:GoT.R w (old w) list cs1) {r:Bool} (hF:qc8 n list=some r):RetV Tryz.prog 190 [GoT.v (List ByteArray) cs1] w r:=by
 obtain ⟨p1,k1,rfl,s1⟩:=ha1
 refine zV 31 Tryz.func190 rfl fun h=>X0 9 rfl ?_
 obtain ⟨o1,hF,hK1⟩:=qi hF
 refine qj (rL (fun m e w'=>∃ (i1:Int),qbQ list m i1=some o1∧e=[(0,.slice p1 list.length k1),(3,.int .i64 i1)]∧SH w w' []) n ⟨_,hF,rfl,h⟩ rfl ?_)
 rintro m1 e1 w1 ⟨i1,hF,rfl,h⟩
 rcases m1 with _|m1
 ·cases hF
 refine X0 8 rfl (qf rfl hF ?_ ?_)<;>intro hF
 ·refine X0 8 rfl ?_
  obtain ⟨y1,hy1,hF,he1,b1,_,q1,cs2,hp1,hq1,rfl,hc2⟩:=s1.ix hF
  refine zxe hp1 hq1 he1 rfl (zc 0 (hc2.below h.below) rfl (zcB h hF qe9 rfl fun r1 w2 h hF=>X0 2 rfl (qf rfl hF ?_ ?_)))<;>intro hF
  ·refine X0 4 rfl ?_
   obtain rfl:=qa hF;replace hF:=hK1
   exact rb h hF rfl
  refine X0 5 rfl ?_
  obtain ⟨o2,hF,hK2⟩:=qi hF
  refine qj (rL (fun m e w'=>∃ (i2:Int),qbU list i1 m i2=some o2∧e=[(0,.slice p1 list.length k1),(3,.int .i64 i1),(4,.int .i64 i2)]∧SH w w' []) m1 ⟨_,hF,rfl,h⟩ rfl ?_)
  rintro m2 e2 w3 ⟨i2,hF,rfl,h⟩
  rcases m2 with _|m2
  ·cases hF
  refine X0 7 rfl (qf rfl hF ?_ ?_)<;>intro hF
  ·refine X0 4 rfl (rD (zd2 rfl ?_))
   obtain ⟨y2,hy2,hF,he2,b2,_,q2,cs3,hp2,hq2,rfl,hc5⟩:=s1.ix hF
   refine zdxe hp2 hq2 he2 rfl (zdc 0 (hc5.below h.below) rfl (zd2 rfl ?_))
   obtain ⟨y3,hy3,hF,he3,b3,_,q3,cs4,hp3,hq3,rfl,hc6⟩:=s1.ix hF
   refine zdxe hp3 hq3 he3 rfl (zdc 0 (hc6.below h.below) rfl (zd1 rfl (dN h fun w4 h=>qf rfl hF ?_ ?_)))<;>intro hF
   ·refine X0 4 rfl ?_
    obtain rfl:=qa hF;replace hF:=hK2
    obtain rfl:=qa hF;replace hF:=hK1
    exact rb h hF rfl
   exact X0 7 rfl (rK ⟨_,hF,rfl,h⟩ rfl)
  refine qn rfl ?_
  obtain rfl:=qa hF;replace hF:=hK2
  exact X0 6 rfl (rK ⟨_,hF,rfl,h⟩ rfl)
 refine qn rfl ?_
 obtain rfl:=qa hF;replace hF:=hK1
 exact X0 4 rfl (rb h hF rfl)
def qbP (x5:(List Int)) (x7:(List Int)):Nat→Int→Option (Flow Bool Int)
 | 0,_=>none
 | n+1,i5 =>
  bif decide (i5<(x5.length:Int)) then
   (idx x7 i5).bind fun y11 =>
   bif (y11 != 1) then some (.ret false) else
   qbP x5 x7 n (W64 (i5+1))
  else
   some (.nxt i5)
def qaT (a_1:qc):Nat→(List Int)→Int→Option ((List Int) × Int)
 | 0,_,_=>none
 | n+1,x7,i4 =>
  bif decide (i4<(a_1.Ac.length:Int)) then
   (idx a_1.Ac i4).bind fun y7 =>
   bif (y7.Bf==1) then
    (idx a_1.Ac i4).bind fun y8 =>
    (idx x7 y8.Bi).bind fun y9 =>
    (idx x7 y8.Bi).bind fun _ =>
    qaT a_1 n (setS x7 y8.Bi (W64 (y9+1))) (W64 (i4+1))
   else
    qaT a_1 n x7 (W64 (i4+1))
  else
   some (x7,i4)
def qbh (a_1:qc):Nat→(List Int)→Int→Option ((List Int) × Int)
 | 0,_,_=>none
 | n+1,x6,i3 =>
  bif decide (i3<(a_1.Aa.length:Int)) then
   (idx a_1.Aa i3).bind fun y3 =>
   (idx y3.Ah (W64 ((y3.Ah.length:Int)-1))).bind fun y4 =>
   (idx x6 y4).bind fun y5 =>
   (idx x6 y4).bind fun _ =>
   qbh a_1 n (setS x6 y4 (W64 (y5+1))) (W64 (i3+1))
  else
   some (x6,i3)
def qbe (a_1:qc):Nat→(List ByteArray)→Int→Option ((List ByteArray) × Int)
 | 0,_,_=>none
 | n+1,x3,i2 =>
  bif decide (i2<(a_1.Ac.length:Int)) then
   (idx a_1.Ac i2).bind fun y2 =>
   (appS x3 ([y2.Ap]:List ByteArray)).bind fun x4 =>
   qbe a_1 n x4 (W64 (i2+1))
  else
   some (x3,i2)
def qbf (a_1:qc):Nat→(List ByteArray)→Int→Option ((List ByteArray) × Int)
 | 0,_,_=>none
 | n+1,x1,i1 =>
  bif decide (i1<(a_1.Aa.length:Int)) then
   (idx a_1.Aa i1).bind fun y1 =>
   (appS x1 ([y1.Ap]:List ByteArray)).bind fun x2 =>
   qbf a_1 n x2 (W64 (i1+1))
  else
   some (x1,i1)
def qeI (n:Nat) (a_0:qm) (a_1:qc):Option Bool :=
 (
  (qen n a_0).bind fun r4 =>
  bif (!r4) then some true else
  bif decide ((a_1.Aa.length:Int) > 14) then some true else
  bif decide ((a_1.Ah.length:Int) > 30) then some true else
  bif decide ((a_1.Ac.length:Int) > 8) then some true else
  (qeJ n a_0 a_1).bind fun r5 =>
  some (!r5)).bind fun b1 =>
 bif b1 then some false else
 (qbf a_1 n ([]:List ByteArray) 0).bind fun o=>match o with
 | (x1,_) =>
  (qbe a_1 n ([]:List ByteArray) 0).bind fun o=>match o with
  | (x3,_) =>
   (
    (qc8 n x1).bind fun r1 =>
    bif (!r1) then some true else
    (qc8 n x3).bind fun r2 =>
    bif (!r2) then some true else
    (qc8 n a_1.Ah).bind fun r3 =>
    some (!r3)).bind fun b4 =>
   bif b4 then some false else
   (mkS (a_1.Ah.length:Int) (0:Int)).bind fun x5 =>
   (qbh a_1 n x5 0).bind fun o=>match o with
   | (x6,_) =>
    (qaT a_1 n x6 0).bind fun o=>match o with
    | (x7,_) =>
     (qbP x5 x7 n 0).bind fun o=>match o with
     | .ret r=>some r
     | .nxt _ =>
      some true
theorem qip {a_0:qm} {a_1:qc} (ha1:GoT.R w (old w) a_0 cs1) (ha2:GoT.R w (old w) a_1 cs2) {r:Bool} (hF:qeI n a_0 a_1=some r):RetV Tryz.prog 116 [GoT.v qm cs1,GoT.v qc cs2] w r:=by
 obtain ⟨p1,k1,rfl,s1⟩:=qaK ha1
 obtain ⟨p2,k2,p3,k3,p4,k4,rfl,s2,s3,s4⟩:=qX ha2
 refine zV 153 Tryz.func116 rfl fun h=>zSR (qy h rfl rfl fun w1 bb1 h=>qy h rfl rfl fun w2 bb2 h=>X0 4 rfl ?_)
 obtain ⟨KF2,hKF2,o7,hF,hK7⟩:=bindE hF
 refine qc3 (fun e w'=>∃ (b1:Bool),KF2 b1=some r∧e=[(3,.pointer (some ⟨bb2,0,none⟩)),(40,.bool b1)]∧SH w w' [Ch.box bb2 (qaf a_1 p2 p3 p4 k2 k3 k4) 54]) ?_ ?_
 ·refine X1 2 1 h rfl (zcB h hF (qh7 (h.old ha1)) rfl fun r4 w21 h hF=>zp2 rfl (qe (t:=17) hF rfl ?_ ?_))<;>intro hF
  ·refine X0 24 rfl ?_
   replace h:=h.pick [0] rfl
   obtain rfl:=qa hF
   exact rG ⟨_,hK7,rfl,h⟩ rfl
  refine X1 10 0 h rfl (qe (t:=23) hF rfl ?_ ?_)<;>intro hF
  ·refine X0 18 rfl ?_
   replace h:=h.pick [0] rfl
   obtain rfl:=qa hF
   exact rG ⟨_,hK7,rfl,h⟩ rfl
  refine X1 10 0 h rfl (qe (t:=29) hF rfl ?_ ?_)<;>intro hF
  ·refine X0 12 rfl ?_
   replace h:=h.pick [0] rfl
   obtain rfl:=qa hF
   exact rG ⟨_,hK7,rfl,h⟩ rfl
  refine X1 10 0 h rfl (qe (t:=35) hF rfl ?_ ?_)<;>intro hF
  ·refine X0 6 rfl ?_
   replace h:=h.pick [0] rfl
   obtain rfl:=qa hF
   exact rG ⟨_,hK7,rfl,h⟩ rfl
  refine X2 5 1 0 h rfl (zcB h hF (qic (h.old ha1) (h.old ha2)) rfl fun r5 w22 h hF=>X0 4 rfl ?_)
  replace h:=h.pick [0] rfl
  obtain rfl:=qa hF
  exact rG ⟨_,hK7,rfl,h⟩ rfl
 rintro e7 w23 ⟨b1,hF,rfl,h⟩
 subst hKF2
 refine qf rfl hF ?_ ?_<;>intro hF
 ·exact X0 4 rfl (rb h hF rfl)
 refine zKSR (qb0 qk [] _ ([]:List ByteArray) h rfl rfl rfl rfl rfl rfl rfl rfl rfl trivial rfl fun w3 p5 S1 h=>X0 7 rfl ?_)
 obtain ⟨o1,hF,hK1⟩:=qi hF
 refine qj (rL (fun m e w'=>∃ (S2:Nat→Prop) (p6:Option Addr) (ln1:Nat) (k5:Nat) (x1:(List ByteArray)) (i1:Int),qbf a_1 m x1 i1=some o1∧e=[(3,.pointer (some ⟨bb2,0,none⟩)),(5,.slice p6 ln1 k5),(6,.int .i64 i1)]∧SH w w' [Ch.own S2 (x1:List ByteArray) [.slice p6 ln1 k5],Ch.box bb2 (qaf a_1 p2 p3 p4 k2 k3 k4) 54]) n ⟨_,_,_,_,_,_,hF,rfl,h⟩ rfl ?_)
 rintro m1 e1 w4 ⟨S2,p6,ln1,k5,x1,i1,hF,rfl,h⟩
 obtain rfl:=(h.sl 0 rfl).2
 rcases m1 with _|m1
 ·cases hF
 refine X1 9 1 h rfl (qf rfl hF ?_ ?_)<;>intro hF
 ·refine X1 8 1 h rfl ?_
  obtain ⟨y1,hy1,hF,he1,b2,_,q1,cs3,hp1,hq1,hr1,hc3⟩:=s2.ix hF
  obtain ⟨p7,k6,rfl,s5⟩:=qH hr1
  refine zxe hp1 hq1 he1 rfl (zp1 rfl (zc 0 (hc3.below h.below) rfl (qb0 qk [.tmp 55] _ ([y1.Ap]:List ByteArray) h rfl rfl rfl rfl rfl rfl rfl rfl rfl ⟨rfl,trivial⟩ rfl fun w5 p8 S3 h=>?_)))
  obtain ⟨x2,hx1,hF⟩:=qi hF
  obtain ⟨g1,hx1⟩:=qcb hx1
  refine qfM qk 1 h rfl (h.sl 0 rfl).1 (h.sl 0 rfl).2 rfl rfl rfl rfl rfl rfl rfl rfl rfl g1 hx1 rfl fun w6 p9 k7 S4 h=>X0 8 rfl ?_
  replace h:=h.pick [1,2] rfl
  exact rK ⟨_,_,_,_,_,_,hF,rfl,h⟩ rfl
 refine qn rfl ?_
 obtain rfl:=qa hF;replace hF:=hK1
 refine zSR (qb0 qk [] _ ([]:List ByteArray) h rfl rfl rfl rfl rfl rfl rfl rfl rfl trivial rfl fun w7 p10 S5 h=>X0 7 rfl ?_)
 obtain ⟨o2,hF,hK2⟩:=qi hF
 refine qj (rL (fun m e w'=>∃ (S6:Nat→Prop) (p11:Option Addr) (ln2:Nat) (k8:Nat) (x3:(List ByteArray)) (i2:Int),qbe a_1 m x3 i2=some o2∧e=[(3,.pointer (some ⟨bb2,0,none⟩)),(5,.slice p6 x1.length k5),(7,.slice p11 ln2 k8),(8,.int .i64 i2)]∧SH w w' [Ch.own S6 (x3:List ByteArray) [.slice p11 ln2 k8],Ch.own S2 (x1:List ByteArray) [.slice p6 x1.length k5],Ch.box bb2 (qaf a_1 p2 p3 p4 k2 k3 k4) 54]) n ⟨_,_,_,_,_,_,hF,rfl,h⟩ rfl ?_)
 rintro m2 e2 w8 ⟨S6,p11,ln2,k8,x3,i2,hF,rfl,h⟩
 obtain rfl:=(h.sl 0 rfl).2
 rcases m2 with _|m2
 ·cases hF
 refine X1 9 2 h rfl (qf rfl hF ?_ ?_)<;>intro hF
 ·refine X1 8 2 h rfl ?_
  obtain ⟨y2,hy2,hF,he2,b3,_,q2,cs4,hp2,hq2,hr2,hc5⟩:=s4.ix hF
  obtain rfl:=qae hr2
  refine zxe hp2 hq2 he2 rfl (zp1 rfl (zc 0 (hc5.below h.below) rfl (qb0 qk [.tmp 72] _ ([y2.Ap]:List ByteArray) h rfl rfl rfl rfl rfl rfl rfl rfl rfl ⟨rfl,trivial⟩ rfl fun w9 p12 S7 h=>?_)))
  obtain ⟨x4,hx2,hF⟩:=qi hF
  obtain ⟨g2,hx2⟩:=qcb hx2
  refine qfM qk 1 h rfl (h.sl 0 rfl).1 (h.sl 0 rfl).2 rfl rfl rfl rfl rfl rfl rfl rfl rfl g2 hx2 rfl fun w10 p13 k9 S8 h=>X0 8 rfl ?_
  replace h:=h.pick [1,2,3] rfl
  exact rK ⟨_,_,_,_,_,_,hF,rfl,h⟩ rfl
 refine qn rfl ?_
 obtain rfl:=qa hF;replace hF:=hK2
 refine zSS ?_
 obtain ⟨KF1,hKF1,o6,hF,hK6⟩:=bindE hF
 refine qc3 (fun e w'=>∃ (b4:Bool),KF1 b4=some r∧e=[(3,.pointer (some ⟨bb2,0,none⟩)),(88,.bool b4)]∧SH w w' [Ch.box bb2 (qaf a_1 p2 p3 p4 k2 k3 k4) 54]) ?_ ?_
 ·refine X0 2 rfl (zcB h hF (qeB (h.own 1 rfl)) rfl fun r1 w17 h hF=>zp2 rfl (qe (t:=78) hF rfl ?_ ?_))<;>intro hF
  ·refine X0 11 rfl ?_
   replace h:=h.pick [2] rfl
   obtain rfl:=qa hF
   exact rG ⟨_,hK6,rfl,h⟩ rfl
  refine X0 3 rfl (zcB h hF (qeB (h.own 0 rfl)) rfl fun r2 w18 h hF=>X0 4 rfl (qe (t:=83) hF rfl ?_ ?_))<;>intro hF
  ·refine X0 6 rfl ?_
   replace h:=h.pick [2] rfl
   obtain rfl:=qa hF
   exact rG ⟨_,hK6,rfl,h⟩ rfl
  refine X1 5 2 h rfl (zcB h hF (qeB ⟨_,_,rfl,(h.oldS s3)⟩) rfl fun r3 w19 h hF=>X0 4 rfl ?_)
  replace h:=h.pick [2] rfl
  obtain rfl:=qa hF
  exact rG ⟨_,hK6,rfl,h⟩ rfl
 rintro e6 w20 ⟨b4,hF,rfl,h⟩
 subst hKF1
 refine qf rfl hF ?_ ?_<;>intro hF
 ·exact X0 4 rfl (rb h hF rfl)
 refine X1 6 0 h rfl ?_
 obtain ⟨x5,hx3,hF⟩:=qi hF
 obtain ⟨g3,g4,hx3⟩:=qcj hx3
 refine qdF qk Int h rfl rfl rfl rfl rfl rfl rfl rfl rfl g3 g4 hx3 rfl fun w11 S9 p14 h=>X0 7 rfl ?_
 obtain ⟨o3,hF,hK3⟩:=qi hF
 refine qj (rL (fun m e w'=>∃ (x6:(List Int)) (i3:Int),qbh a_1 m x6 i3=some o3∧e=[(3,.pointer (some ⟨bb2,0,none⟩)),(9,.slice p14 x5.length x5.length),(10,.int .i64 i3)]∧SH w w' [Ch.own S9 (x6:List Int) [.slice p14 x5.length x5.length],Ch.box bb2 (qaf a_1 p2 p3 p4 k2 k3 k4) 54]) n ⟨_,_,hF,rfl,h⟩ rfl ?_)
 rintro m3 e3 w12 ⟨x6,i3,hF,rfl,h⟩
 rcases m3 with _|m3
 ·cases hF
 refine X1 9 1 h rfl (qf rfl hF ?_ ?_)<;>intro hF
 ·refine X1 8 1 h rfl ?_
  obtain ⟨y3,hy3,hF,he3,b5,_,q3,cs5,hp3,hq3,hr3,hc8⟩:=s2.ix hF
  obtain ⟨p15,k10,rfl,s6⟩:=qH hr3
  refine zxe hp3 hq3 he3 rfl (zp1 rfl (zc 2 (hc8.below h.below) rfl (X0 8 rfl ?_)))
  obtain ⟨y4,hy4,hF,he4,b6,_,q4,cs6,hp4,hq4,rfl,hc9⟩:=s6.ix hF
  refine zxe hp4 hq4 he4 rfl (zc 0 (hc9.below h.below) rfl ?_)
  obtain ⟨y5,hy5,hF,he5,b7,_,q5,cs7,hp5,hq5,rfl,hc10⟩:=(h.sl 0 rfl).1.ix hF
  refine zx hp5 hq5 ⟨he5.1,qbO he5.2.1 (h.sl 0 rfl).2⟩ rfl (zc 0 hc10 rfl (zp1 rfl ?_))
  obtain ⟨y6,hy6,hF,he6,b8,_,q6,cs8,hp6,hq6,rfl,hc11⟩:=(h.sl 0 rfl).1.ix hF
  exact zx hp6 hq6 ⟨he6.1,qbO he6.2.1 (h.sl 0 rfl).2⟩ rfl (qeL qk 0 0 (W64 (y5+1)) h rfl hy6 hp6 hq6 rfl hc11 rfl rfl rfl rfl rfl rfl rfl fun w13 h=>X0 7 rfl (rK ⟨_,_,hF,rfl,h⟩ rfl))
 refine qn rfl ?_
 obtain rfl:=qa hF;replace hF:=hK3
 refine X0 5 rfl ?_
 obtain ⟨o4,hF,hK4⟩:=qi hF
 refine qj (rL (fun m e w'=>∃ (x7:(List Int)) (i4:Int),qaT a_1 m x7 i4=some o4∧e=[(3,.pointer (some ⟨bb2,0,none⟩)),(9,.slice p14 x5.length x5.length),(12,.int .i64 i4)]∧SH w w' [Ch.own S9 (x7:List Int) [.slice p14 x5.length x5.length],Ch.box bb2 (qaf a_1 p2 p3 p4 k2 k3 k4) 54]) n ⟨_,_,hF,rfl,h⟩ rfl ?_)
 rintro m4 e4 w14 ⟨x7,i4,hF,rfl,h⟩
 rcases m4 with _|m4
 ·cases hF
 refine X1 9 1 h rfl (qf rfl hF ?_ ?_)<;>intro hF
 ·refine X1 8 1 h rfl ?_
  obtain ⟨y7,hy7,hF,he7,b9,_,q7,cs9,hp7,hq7,hr7,hc13⟩:=s4.ix hF
  obtain rfl:=qae hr7
  refine zxe hp7 hq7 he7 rfl (zp1 rfl (zc 1 (hc13.below h.below) rfl (X0 2 rfl (qf rfl hF ?_ ?_))))<;>intro hF
  ·refine X1 5 1 h rfl ?_
   obtain ⟨y8,hy8,hF,he8,b10,_,q8,cs10,hp8,hq8,hr8,hc15⟩:=s4.ix hF
   obtain rfl:=qae hr8
   refine zxe hp8 hq8 he8 rfl (zp1 rfl (zc 2 (hc15.below h.below) rfl ?_))
   obtain ⟨y9,hy9,hF,he9,b11,_,q9,cs11,hp9,hq9,rfl,hc16⟩:=(h.sl 0 rfl).1.ix hF
   refine zx hp9 hq9 ⟨he9.1,qbO he9.2.1 (h.sl 0 rfl).2⟩ rfl (zc 0 hc16 rfl (zp1 rfl ?_))
   obtain ⟨y10,hy10,hF,he10,b12,_,q10,cs12,hp10,hq10,rfl,hc17⟩:=(h.sl 0 rfl).1.ix hF
   exact zx hp10 hq10 ⟨he10.1,qbO he10.2.1 (h.sl 0 rfl).2⟩ rfl (qeL qk 0 0 (W64 (y9+1)) h rfl hy10 hp10 hq10 rfl hc17 rfl rfl rfl rfl rfl rfl rfl fun w15 h=>X0 7 rfl (rK ⟨_,_,hF,rfl,h⟩ rfl))
  exact X0 7 rfl (rK ⟨_,_,hF,rfl,h⟩ rfl)
 refine qn rfl ?_
 obtain rfl:=qa hF;replace hF:=hK4
 refine X0 5 rfl ?_
 obtain ⟨o5,hF,hK5⟩:=qi hF
 refine qj ?_
 replace h:=h.pick [0] rfl
 refine rL (fun m e w'=>∃ (i5:Int),qbP x5 x7 m i5=some o5∧e=[(9,.slice p14 x5.length x5.length),(13,.int .i64 i5)]∧SH w w' [Ch.own S9 (x7:List Int) [.slice p14 x5.length x5.length]]) n ⟨_,hF,rfl,h⟩ rfl ?_
 rintro m5 e5 w16 ⟨i5,hF,rfl,h⟩
 rcases m5 with _|m5
 ·cases hF
 refine X0 8 rfl (qf rfl hF ?_ ?_)<;>intro hF
 ·refine X0 7 rfl ?_
  obtain ⟨y11,hy11,hF,he11,b13,_,q11,cs13,hp11,hq11,rfl,hc19⟩:=(h.sl 0 rfl).1.ix hF
  refine zx hp11 hq11 ⟨he11.1,qbO he11.2.1 (h.sl 0 rfl).2⟩ rfl (zc 0 hc19 rfl (X0 2 rfl (qf rfl hF ?_ ?_)))<;>intro hF
  ·refine X0 4 rfl ?_
   obtain rfl:=qa hF;replace hF:=hK5
   exact rb h hF rfl
  exact X0 7 rfl (rK ⟨_,hF,rfl,h⟩ rfl)
 refine qn rfl ?_
 obtain rfl:=qa hF;replace hF:=hK5
 exact X0 4 rfl (rb h hF rfl)
def qcG (a_0:qz):Nat→Int→Option (Flow Bool Int)
 | 0,_=>none
 | n+1,i2 =>
  bif decide (i2<(a_0.Bd.length:Int)) then
   (idx a_0.Bd i2).bind fun y7 =>
   (qU n y7 0 (W64 ((a_0.Aj.length:Int)-1))).bind fun r5 =>
   bif (!r5) then some (.ret false) else
   qcG a_0 n (W64 (i2+1))
  else
   some (.nxt i2)
def qaW (a_0:qz):Nat→Int→Option (Flow Bool Int)
 | 0,_=>none
 | n+1,i1 =>
  bif decide (i1<(a_0.Aj.length:Int)) then
   (
    (idx a_0.Bg i1).bind fun y5 =>
    (qU n y5 0 500).bind fun r3 =>
    bif (!r3) then some true else
    (idx a_0.Bj i1).bind fun y6 =>
    (qU n y6 0 1000).bind fun r4 =>
    some (!r4)).bind fun b2 =>
   bif b2 then some (.ret false) else
   bif (i1==0) then
    (idx a_0.Aj i1).bind fun y1 =>
    bif (y1 != (-1)) then some (.ret false) else
    (idx a_0.Bj i1).bind fun y2 =>
    bif (y2 != 0) then some (.ret false) else
    bif decide (i1 > 0) then
     (idx a_0.Aj i1).bind fun y3 =>
     (qU n y3 0 (W64 (i1-1))).bind fun r1 =>
     bif (!r1) then some (.ret false) else
     qaW a_0 n (W64 (i1+1))
    else
     qaW a_0 n (W64 (i1+1))
   else
    bif decide (i1 > 0) then
     (idx a_0.Aj i1).bind fun y4 =>
     (qU n y4 0 (W64 (i1-1))).bind fun r2 =>
     bif (!r2) then some (.ret false) else
     qaW a_0 n (W64 (i1+1))
    else
     qaW a_0 n (W64 (i1+1))
  else
   some (.nxt i1)
def qf0 (n:Nat) (a_0:qz) (a_1:Int):Option Bool :=
 (
  bif decide ((a_0.Aj.length:Int)<1) then some true else
  bif decide ((a_0.Aj.length:Int) > 8) then some true else
  bif ((a_0.Bj.length:Int) != (a_0.Aj.length:Int)) then some true else
  bif ((a_0.Bg.length:Int) != (a_0.Aj.length:Int)) then some true else
  some ((a_0.Bd.length:Int) != a_1)).bind fun b1 =>
 bif b1 then some false else
 (qaW a_0 n 0).bind fun o=>match o with
 | .ret r=>some r
 | .nxt _ =>
  (qcG a_0 n 0).bind fun o=>match o with
  | .ret r=>some r
  | .nxt _ =>
   some true
theorem qi2 {a_0:qz} {a_1:Int} (ha1:GoT.R w (old w) a_0 cs1) {r:Bool} (hF:qf0 n a_0 a_1=some r):RetV Tryz.prog 117 [GoT.v qz cs1,.int .i64 a_1] w r:=by
 obtain ⟨p1,k1,p2,k2,p3,k3,p4,k4,rfl,s1,s2,s3,s4⟩:=qaO ha1
 refine zV 108 Tryz.func117 rfl fun h=>zSR (qy h rfl rfl fun w1 bb1 h=>X1 11 0 h rfl ?_)
 obtain ⟨KF2,hKF2,o4,hF,hK4⟩:=bindE hF
 refine qc3 (fun e w'=>∃ (b1:Bool),KF2 b1=some r∧e=[(2,.pointer (some ⟨bb1,0,none⟩)),(5,.int .i64 (a_0.Aj.length:Int)),(37,.bool b1)]∧SH w w' [Ch.box bb1 (qgv a_0 p1 p2 p3 p4 k1 k2 k3 k4) 170]) ?_ ?_
 ·refine X0 4 rfl (qe (t:=13) hF rfl ?_ ?_)<;>intro hF
  ·refine X0 25 rfl ?_
   obtain rfl:=qa hF
   exact rG ⟨_,hK4,rfl,h⟩ rfl
  refine X0 6 rfl (qe (t:=17) hF rfl ?_ ?_)<;>intro hF
  ·refine X0 21 rfl ?_
   obtain rfl:=qa hF
   exact rG ⟨_,hK4,rfl,h⟩ rfl
  refine X1 12 0 h rfl (qe (t:=24) hF rfl ?_ ?_)<;>intro hF
  ·refine X0 14 rfl ?_
   obtain rfl:=qa hF
   exact rG ⟨_,hK4,rfl,h⟩ rfl
  refine X1 12 0 h rfl (qe (t:=31) hF rfl ?_ ?_)<;>intro hF
  ·refine X0 7 rfl ?_
   obtain rfl:=qa hF
   exact rG ⟨_,hK4,rfl,h⟩ rfl
  refine X1 12 0 h rfl ?_
  obtain rfl:=qa hF
  exact rG ⟨_,hK4,rfl,h⟩ rfl
 rintro e4 w10 ⟨b1,hF,rfl,h⟩
 subst hKF2
 refine qf rfl hF ?_ ?_<;>intro hF
 ·exact X0 4 rfl (rb h hF rfl)
 refine X0 6 rfl ?_
 obtain ⟨o1,hF,hK1⟩:=qi hF
 refine qj (rL (fun m e w'=>∃ (i1:Int),qaW a_0 m i1=some o1∧e=[(2,.pointer (some ⟨bb1,0,none⟩)),(5,.int .i64 (a_0.Aj.length:Int)),(6,.int .i64 i1)]∧SH w w' [Ch.box bb1 (qgv a_0 p1 p2 p3 p4 k1 k2 k3 k4) 170]) n ⟨_,hF,rfl,h⟩ rfl ?_)
 rintro m1 e1 w2 ⟨i1,hF,rfl,h⟩
 rcases m1 with _|m1
 ·cases hF
 refine X0 7 rfl (qf rfl hF ?_ ?_)<;>intro hF
 ·refine X0 5 rfl ?_
  obtain ⟨KF1,hKF1,o2,hF,hK2⟩:=bindE hF
  refine qc3 (fun e w'=>∃ (b2:Bool),KF1 b2=some o1∧e=[(2,.pointer (some ⟨bb1,0,none⟩)),(5,.int .i64 (a_0.Aj.length:Int)),(6,.int .i64 i1),(58,.bool b2)]∧SH w w' [Ch.box bb1 (qgv a_0 p1 p2 p3 p4 k1 k2 k3 k4) 170]) ?_ ?_
  ·refine X1 4 0 h rfl ?_
   obtain ⟨y5,hy5,hF,he5,b7,_,q5,cs6,hp5,hq5,rfl,hc10⟩:=s3.ix hF
   refine zxe hp5 hq5 he5 rfl (zc 0 (hc10.below h.below) rfl (zcB h hF qM rfl fun r3 w5 h hF=>zp2 rfl (qe (t:=50) hF rfl ?_ ?_)))<;>intro hF
   ·refine X0 9 rfl ?_
    obtain rfl:=qa hF
    exact rG ⟨_,hK2,rfl,h⟩ rfl
   refine X1 7 0 h rfl ?_
   obtain ⟨y6,hy6,hF,he6,b8,_,q6,cs7,hp6,hq6,rfl,hc11⟩:=s2.ix hF
   refine zxe hp6 hq6 he6 rfl (X0 1 rfl (zc 0 (hc11.below h.below) rfl (X0 1 rfl (zcB h hF qM rfl fun r4 w6 h hF=>X0 4 rfl ?_))))
   obtain rfl:=qa hF
   exact rG ⟨_,hK2,rfl,h⟩ rfl
  rintro e2 w7 ⟨b2,hF,rfl,h⟩
  subst hKF1
  refine qf rfl hF ?_ ?_<;>intro hF
  ·refine X0 4 rfl ?_
   obtain rfl:=qa hF;replace hF:=hK1
   exact rb h hF rfl
  refine X0 6 rfl (qe (t:=61) hF rfl ?_ ?_)<;>intro hF
  ·refine X1 7 0 h rfl ?_
   obtain ⟨y1,hy1,hF,he1,b3,_,q1,cs2,hp1,hq1,rfl,hc4⟩:=s1.ix hF
   refine zxe hp1 hq1 he1 rfl (X0 1 rfl (zc 0 (hc4.below h.below) rfl (X0 4 rfl (qe (t:=68) hF rfl ?_ ?_))))<;>intro hF
   ·refine X0 25 rfl (qcv rfl rfl (X0 4 rfl ?_))
    obtain rfl:=qa hF;replace hF:=hK1
    exact rb h hF rfl
   refine X1 7 0 h rfl ?_
   obtain ⟨y2,hy2,hF,he2,b4,_,q2,cs3,hp2,hq2,rfl,hc5⟩:=s2.ix hF
   refine zxe hp2 hq2 he2 rfl (X0 1 rfl (zc 0 (hc5.below h.below) rfl (X0 6 rfl (qe (t:=77) hF rfl ?_ ?_))))<;>intro hF
   ·refine X0 15 rfl (qcv rfl rfl (X0 4 rfl ?_))
    obtain rfl:=qa hF;replace hF:=hK1
    exact rb h hF rfl
   refine X0 6 rfl (qe (t:=80) hF rfl ?_ ?_)<;>intro hF
   ·refine X1 7 0 h rfl ?_
    obtain ⟨y3,hy3,hF,he3,b5,_,q3,cs4,hp3,hq3,rfl,hc6⟩:=s1.ix hF
    refine zxe hp3 hq3 he3 rfl (X0 1 rfl (zc 0 (hc6.below h.below) rfl (X0 5 rfl (zcB h hF qM rfl fun r1 w3 h hF=>X0 6 rfl (qf rfl hF ?_ ?_)))))<;>intro hF
    ·refine X0 4 rfl ?_
     obtain rfl:=qa hF;replace hF:=hK1
     exact rb h hF rfl
    exact X0 7 rfl (rK ⟨_,hF,rfl,h⟩ rfl)
   exact X0 13 rfl (qcS rfl rfl (X0 7 rfl (rK ⟨_,hF,rfl,h⟩ rfl)))
  refine X0 22 rfl (qe (t:=80) hF rfl ?_ ?_)<;>intro hF
  ·refine X1 7 0 h rfl ?_
   obtain ⟨y4,hy4,hF,he4,b6,_,q4,cs5,hp4,hq4,rfl,hc8⟩:=s1.ix hF
   refine zxe hp4 hq4 he4 rfl (X0 1 rfl (zc 0 (hc8.below h.below) rfl (X0 5 rfl (zcB h hF qM rfl fun r2 w4 h hF=>X0 6 rfl (qf rfl hF ?_ ?_)))))<;>intro hF
   ·refine X0 4 rfl ?_
    obtain rfl:=qa hF;replace hF:=hK1
    exact rb h hF rfl
   exact X0 7 rfl (rK ⟨_,hF,rfl,h⟩ rfl)
  exact X0 13 rfl (qcS rfl rfl (X0 7 rfl (rK ⟨_,hF,rfl,h⟩ rfl)))
 refine qn rfl ?_
 obtain rfl:=qa hF;replace hF:=hK1
 refine X0 5 rfl ?_
 obtain ⟨o3,hF,hK3⟩:=qi hF
 refine qj (rL (fun m e w'=>∃ (i2:Int),qcG a_0 m i2=some o3∧e=[(2,.pointer (some ⟨bb1,0,none⟩)),(5,.int .i64 (a_0.Aj.length:Int)),(7,.int .i64 i2)]∧SH w w' [Ch.box bb1 (qgv a_0 p1 p2 p3 p4 k1 k2 k3 k4) 170]) n ⟨_,hF,rfl,h⟩ rfl ?_)
 rintro m2 e3 w8 ⟨i2,hF,rfl,h⟩
 rcases m2 with _|m2
 ·cases hF
 refine X1 9 0 h rfl (qf rfl hF ?_ ?_)<;>intro hF
 ·refine X1 8 0 h rfl ?_
  obtain ⟨y7,hy7,hF,he7,b9,_,q7,cs8,hp7,hq7,rfl,hc13⟩:=s4.ix hF
  refine zxe hp7 hq7 he7 rfl (zc 0 (hc13.below h.below) rfl (zp2 rfl (zcB h hF qM rfl fun r5 w9 h hF=>X0 2 rfl (qf rfl hF ?_ ?_))))<;>intro hF
  ·refine X0 4 rfl ?_
   obtain rfl:=qa hF;replace hF:=hK3
   exact rb h hF rfl
  exact X0 7 rfl (rK ⟨_,hF,rfl,h⟩ rfl)
 refine qn rfl ?_
 obtain rfl:=qa hF;replace hF:=hK3
 exact X0 4 rfl (rb h hF rfl)
def qaV (i1:Int) (y1:qd):Nat→(List Tl05Place)→Int→Option ((List Tl05Place) × Int)
 | 0,_,_=>none
 | n+1,x2,i2 =>
  bif decide (i2<(y1.Ah.length:Int)) then
   (idx y1.Ah i2).bind fun y2 =>
   (appS x2 ([(⟨i1,i2,y2,(i2==(W64 ((y1.Ah.length:Int)-1)))⟩:Tl05Place)]:List Tl05Place)).bind fun x3 =>
   qaV i1 y1 n x3 (W64 (i2+1))
  else
   some (x2,i2)
def qa1 (a_0:qc):Nat→(List Tl05Place)→Int→Option ((List Tl05Place) × Int)
 | 0,_,_=>none
 | n+1,x4,i3 =>
  bif decide (i3<(a_0.Ac.length:Int)) then
   (idx a_0.Ac i3).bind fun y3 =>
   (idx a_0.Ac i3).bind fun y4 =>
   (appS x4 ([(⟨(-1),i3,y3.Bi,(y4.Bf==1)⟩:Tl05Place)]:List Tl05Place)).bind fun x5 =>
   qa1 a_0 n x5 (W64 (i3+1))
  else
   some (x4,i3)
def qa0 (a_0:qc):Nat→(List Tl05Place)→Int→Option ((List Tl05Place) × Int)
 | 0,_,_=>none
 | n+1,x1,i1 =>
  bif decide (i1<(a_0.Aa.length:Int)) then
   (idx a_0.Aa i1).bind fun y1 =>
   (qaV i1 y1 n x1 0).bind fun o=>match o with
   | (x2,_) =>
    qa0 a_0 n x2 (W64 (i1+1))
  else
   some (x1,i1)
def qea (n:Nat) (a_0:qc):Option (List Tl05Place) :=
 (qa0 a_0 n ([]:List Tl05Place) 0).bind fun o=>match o with
 | (x1,_) =>
  (qa1 a_0 n x1 0).bind fun o=>match o with
  | (x4,_) =>
   some x4
theorem qh6 {a_0:qc} (ha1:GoT.R w (old w) a_0 cs1) {r:(List Tl05Place)} (hF:qea n a_0=some r):RetV Tryz.prog 139 [GoT.v qc cs1] w r:=by
 obtain ⟨p1,k1,p2,k2,p3,k3,rfl,s1,s2,s3⟩:=qX ha1
 refine zV 69 Tryz.func139 rfl fun h=>zSR (qy h rfl rfl fun w1 bb1 h=>X0 4 rfl (qb0 qk [] _ ([]:List Tl05Place) h rfl rfl rfl rfl rfl rfl rfl rfl rfl trivial rfl fun w2 p4 S1 h=>X0 7 rfl ?_))
 obtain ⟨o1,hF,hK1⟩:=qi hF
 refine qj (rL (fun m e w'=>∃ (S2:Nat→Prop) (p5:Option Addr) (ln1:Nat) (k4:Nat) (x1:(List Tl05Place)) (i1:Int),qa0 a_0 m x1 i1=some o1∧e=[(1,.pointer (some ⟨bb1,0,none⟩)),(3,.slice p5 ln1 k4),(4,.int .i64 i1)]∧SH w w' [Ch.own S2 (x1:List Tl05Place) [.slice p5 ln1 k4],Ch.box bb1 (qaf a_0 p1 p2 p3 k1 k2 k3) 54]) n ⟨_,_,_,_,_,_,hF,rfl,h⟩ rfl ?_)
 rintro m1 e1 w3 ⟨S2,p5,ln1,k4,x1,i1,hF,rfl,h⟩
 obtain rfl:=(h.sl 0 rfl).2
 rcases m1 with _|m1
 ·cases hF
 refine X1 9 1 h rfl (qf rfl hF ?_ ?_)<;>intro hF
 ·refine X1 8 1 h rfl ?_
  obtain ⟨y1,hy1,hF,he1,b1,_,q1,cs2,hp1,hq1,hr1,hc2⟩:=s1.ix hF
  obtain ⟨p6,k5,rfl,s4⟩:=qH hr1
  refine zxe hp1 hq1 he1 rfl (zp1 rfl (zc 2 (hc2.below h.below) rfl (X0 6 rfl ?_)))
  obtain ⟨o2,hF,hK2⟩:=qi hF
  refine qj (rL (fun m e w'=>∃ (S3:Nat→Prop) (p7:Option Addr) (ln2:Nat) (k6:Nat) (x2:(List Tl05Place)) (i2:Int),qaV i1 y1 m x2 i2=some o2∧e=[(1,.pointer (some ⟨bb1,0,none⟩)),(3,.slice p7 ln2 k6),(4,.int .i64 i1),(5,.slice p6 y1.Ah.length k5),(6,.int .i64 i2)]∧SH w w' [Ch.own S3 (x2:List Tl05Place) [.slice p7 ln2 k6],Ch.box bb1 (qaf a_0 p1 p2 p3 k1 k2 k3) 54]) m1 ⟨_,_,_,_,_,_,hF,rfl,h⟩ rfl ?_)
  rintro m2 e2 w4 ⟨S3,p7,ln2,k6,x2,i2,hF,rfl,h⟩
  obtain rfl:=(h.sl 0 rfl).2
  rcases m2 with _|m2
  ·cases hF
  refine X0 8 rfl (qf rfl hF ?_ ?_)<;>intro hF
  ·refine X0 9 rfl ?_
   obtain ⟨y2,hy2,hF,he2,b2,_,q2,cs3,hp2,hq2,rfl,hc4⟩:=s4.ix hF
   refine zxe hp2 hq2 he2 rfl (zc 0 (hc4.below h.below) rfl (zp5 rfl (r_v (qhi qk [0,1,2,3] [.tmp 29,.tmp 30,.tmp 34,.tmp 39] rfl rfl rfl rfl rfl rfl rfl rfl) rfl (qb0 qk [.tmp 40] _ ([(⟨i1,i2,y2,(i2==(W64 ((y1.Ah.length:Int)-1)))⟩:Tl05Place)]:List Tl05Place) h rfl rfl rfl rfl rfl rfl rfl rfl rfl ⟨(qhz (⟨i1,i2,y2,(i2==(W64 ((y1.Ah.length:Int)-1)))⟩:Tl05Place)),trivial⟩ rfl fun w5 p8 S4 h=>?_))))
   obtain ⟨x3,hx1,hF⟩:=qi hF
   obtain ⟨g1,hx1⟩:=qcb hx1
   refine qfM qk 1 h rfl (h.sl 0 rfl).1 (h.sl 0 rfl).2 rfl rfl rfl rfl rfl rfl rfl rfl rfl g1 hx1 rfl fun w6 p9 k7 S5 h=>X0 8 rfl ?_
   replace h:=h.pick [1,2] rfl
   exact rK ⟨_,_,_,_,_,_,hF,rfl,h⟩ rfl
  refine qn rfl ?_
  obtain rfl:=qa hF;replace hF:=hK2
  exact X0 6 rfl (rK ⟨_,_,_,_,_,_,hF,rfl,h⟩ rfl)
 refine qn rfl ?_
 obtain rfl:=qa hF;replace hF:=hK1
 refine X0 5 rfl ?_
 obtain ⟨o3,hF,hK3⟩:=qi hF
 refine qj (rL (fun m e w'=>∃ (S6:Nat→Prop) (p10:Option Addr) (ln3:Nat) (k8:Nat) (x4:(List Tl05Place)) (i3:Int),qa1 a_0 m x4 i3=some o3∧e=[(1,.pointer (some ⟨bb1,0,none⟩)),(3,.slice p10 ln3 k8),(7,.int .i64 i3)]∧SH w w' [Ch.own S6 (x4:List Tl05Place) [.slice p10 ln3 k8],Ch.box bb1 (qaf a_0 p1 p2 p3 k1 k2 k3) 54]) n ⟨_,_,_,_,_,_,hF,rfl,h⟩ rfl ?_)
 rintro m3 e3 w7 ⟨S6,p10,ln3,k8,x4,i3,hF,rfl,h⟩
 obtain rfl:=(h.sl 0 rfl).2
 rcases m3 with _|m3
 ·cases hF
 refine X1 9 1 h rfl (qf rfl hF ?_ ?_)<;>intro hF
 ·refine zKSB (rA [] [1] h rfl fun w8 h=>M1 31 [0,1,2,3,4] 0 (h.pick [1] rfl) rfl ?_)
  obtain ⟨y3,hy3,hF,he3,b3,_,q3,cs4,hp3,hq3,hr3,hc6⟩:=s3.ix hF
  obtain rfl:=qae hr3
  refine Ae 5 63 hp3 hq3 he3 (h.pick [1] rfl) rfl (M0 127 [6] (h.pick [1] rfl) rfl (Al 7 255 2 hc6 (h.pick [1] rfl) rfl (M1 2047 [8,9,10] 0 (h.pick [1] rfl) rfl ?_)))
  obtain ⟨y4,hy4,hF,he4,b4,_,q4,cs5,hp4,hq4,hr4,hc7⟩:=s3.ix hF
  obtain rfl:=qae hr4
  refine Ae 11 4095 hp4 hq4 he4 (h.pick [1] rfl) rfl (M0 8191 [12] (h.pick [1] rfl) rfl (Al 13 16383 1 hc7 (h.pick [1] rfl) rfl (M0 32767 [14] (h.pick [1] rfl) rfl (Aw 15 65535 (fun w' hw=>qhi qk [0,1,2,3] [.const (.int .i64 (-1)),.tmp 51,.tmp 57,.tmp 64] rfl rfl rfl rfl rfl rfl rfl rfl) (h.pick [1] rfl) rfl ?_))))
  refine Ao 16 131071 rfl (qb0 qk [.tmp 65] _ ([(⟨(-1),i3,y3.Bi,(y4.Bf==1)⟩:Tl05Place)]:List Tl05Place) h rfl rfl rfl rfl rfl rfl rfl rfl rfl ⟨(qhz (⟨(-1),i3,y3.Bi,(y4.Bf==1)⟩:Tl05Place)),trivial⟩ rfl fun w9 p11 S7 h=>Ag (h.pick [2] rfl) (Ao 17 262143 rfl ?_))
  obtain ⟨x5,hx2,hF⟩:=qi hF
  obtain ⟨g2,hx2⟩:=qcb hx2
  refine qfM qk 1 h rfl (h.sl 0 rfl).1 (h.sl 0 rfl).2 rfl rfl rfl rfl rfl rfl rfl rfl rfl g2 hx2 rfl fun w10 p12 k9 S8 h=>G0 524287 [18] (h.pick [2] rfl) rfl (Ad (X0 6 rfl ?_))
  replace h:=h.pick [1,2] rfl
  exact rK ⟨_,_,_,_,_,_,hF,rfl,h⟩ rfl
 refine qn rfl ?_
 obtain rfl:=qa hF;replace hF:=hK3
 refine X0 5 rfl ?_
 obtain rfl:=qa hF
 exact rO 0 h rfl ⟨rfl,trivial⟩
def qaQ (net:Int) (r1:(List Tl05Place)):Nat→(List Int)→Int→Option ((List Int) × Int)
 | 0,_,_=>none
 | n+1,x1,i1 =>
  bif decide (i1<(r1.length:Int)) then
   (
    (idx r1 i1).bind fun y1 =>
    bif (y1.net==net) then
     (idx r1 i1).bind fun y2 =>
     some (!y2.drives)
    else
     some false).bind fun b1 =>
   bif b1 then
    (appS x1 ([i1]:List Int)).bind fun x2 =>
    qaQ net r1 n x2 (W64 (i1+1))
   else
    qaQ net r1 n x1 (W64 (i1+1))
  else
   some (x1,i1)
def qeK (n:Nat) (d:qc) (net:Int):Option (List Int) :=
 (qea n d).bind fun r1 =>
 (qaQ net r1 n ([]:List Int) 0).bind fun o=>match o with
 | (x1,_) =>
  some x1
theorem qig {d:qc} {net:Int} (ha1:GoT.R w (old w) d cs1) {r:(List Int)} (hF:qeK n d net=some r):RetV Tryz.prog 118 [GoT.v qc cs1,.int .i64 net] w r:=by
 obtain ⟨p1,k1,p2,k2,p3,k3,rfl,s1,s2,s3⟩:=qX ha1
 refine zV 37 Tryz.func118 rfl fun h=>zSR (qy h rfl rfl fun w1 bb1 h=>X0 4 rfl (qb0 qk [] _ ([]:List Int) h rfl rfl rfl rfl rfl rfl rfl rfl rfl trivial rfl fun w2 p4 S1 h=>X1 5 1 h rfl (zcL h hF (qh6 (h.old ha1)) rfl fun r1 w3 S2 p5 k4 h hF=>X0 7 rfl ?_)))
 obtain ⟨o1,hF,hK1⟩:=qi hF
 refine qj ?_
 replace h:=h.pick [0,1] rfl
 refine rL (fun m e w'=>∃ (S3:Nat→Prop) (p6:Option Addr) (ln1:Nat) (k5:Nat) (x1:(List Int)) (i1:Int),qaQ net r1 m x1 i1=some o1∧e=[(1,.int .i64 net),(5,.slice p6 ln1 k5),(6,.slice p5 r1.length k4),(7,.int .i64 i1)]∧SH w w' [Ch.own S2 (r1:List Tl05Place) [.slice p5 r1.length k4],Ch.own S3 (x1:List Int) [.slice p6 ln1 k5]]) n ⟨_,_,_,_,_,_,hF,rfl,h⟩ rfl ?_
 rintro m1 e1 w4 ⟨S3,p6,ln1,k5,x1,i1,hF,rfl,h⟩
 obtain rfl:=(h.sl 1 rfl).2
 rcases m1 with _|m1
 ·cases hF
 refine X0 8 rfl (qf rfl hF ?_ ?_)<;>intro hF
 ·refine X0 4 rfl ?_
  obtain ⟨KF1,hKF1,o2,hF,hK2⟩:=bindE hF
  refine qc3 (fun e w'=>∃ (b1:Bool),KF1 b1=some o1∧e=[(1,.int .i64 net),(5,.slice p6 x1.length k5),(6,.slice p5 r1.length k4),(7,.int .i64 i1),(31,.bool b1)]∧SH w w' [Ch.own S2 (r1:List Tl05Place) [.slice p5 r1.length k4],Ch.own S3 (x1:List Int) [.slice p6 x1.length k5]]) ?_ ?_
  ·refine X0 3 rfl ?_
   obtain ⟨y1,hy1,hF,he1,b2,_,q1,cs2,hp1,hq1,hr2,hc3⟩:=(h.sl 0 rfl).1.ix hF
   obtain rfl:=qgT hr2
   refine zx hp1 hq1 ⟨he1.1,qbO he1.2.1 (h.sl 0 rfl).2⟩ rfl (zp1 rfl (zc 2 hc3 rfl (zp3 rfl (qe (t:=24) hF rfl ?_ ?_))))<;>intro hF
   ·refine X0 5 rfl ?_
    obtain ⟨y2,hy2,hF,he2,b3,_,q2,cs3,hp2,hq2,hr3,hc4⟩:=(h.sl 0 rfl).1.ix hF
    obtain rfl:=qgT hr3
    refine zx hp2 hq2 ⟨he2.1,qbO he2.2.1 (h.sl 0 rfl).2⟩ rfl (X0 3 rfl (zc 3 hc4 rfl (X0 4 rfl ?_)))
    obtain rfl:=qa hF
    exact rG ⟨_,hK2,rfl,h⟩ rfl
   refine X0 8 rfl ?_
   obtain rfl:=qa hF
   exact rG ⟨_,hK2,rfl,h⟩ rfl
  rintro e2 w7 ⟨b1,hF,rfl,h⟩
  subst hKF1
  refine qf rfl hF ?_ ?_<;>intro hF
  ·refine X0 3 rfl (qb0 qk [.tmp 33] _ ([i1]:List Int) h rfl rfl rfl rfl rfl rfl rfl rfl rfl ⟨rfl,trivial⟩ rfl fun w5 p7 S4 h=>?_)
   obtain ⟨x2,hx1,hF⟩:=qi hF
   obtain ⟨g1,hx1⟩:=qcb hx1
   refine qfM qk 2 h rfl (h.sl 0 rfl).1 (h.sl 0 rfl).2 rfl rfl rfl rfl rfl rfl rfl rfl rfl g1 hx1 rfl fun w6 p8 k6 S5 h=>X0 8 rfl ?_
   replace h:=h.pick [1,2] rfl
   exact rK ⟨_,_,_,_,_,_,hF,rfl,h⟩ rfl
  exact X0 7 rfl (rK ⟨_,_,_,_,_,_,hF,rfl,h⟩ rfl)
 refine qn rfl ?_
 obtain rfl:=qa hF;replace hF:=hK1
 refine X0 5 rfl ?_
 obtain rfl:=qa hF
 exact rO 1 h rfl ⟨rfl,trivial⟩
def qb8 (b:qq):Nat→Int→Option (Flow Bool Int)
 | 0,_=>none
 | n+1,i1 =>
  bif decide (i1<(b.At.length:Int)) then
   (idx b.At i1).bind fun y1 =>
   (qeK n (⟨b.Ak.Aa,b.Ak.Ah,b.Ak.Ac⟩:qc) i1).bind fun r1 =>
   (qf0 n y1 (r1.length:Int)).bind fun r2 =>
   bif (!r2) then some (.ret false) else
   qb8 b n (W64 (i1+1))
  else
   some (.nxt i1)
def qfo (n:Nat) (b:qq):Option Bool :=
 (
  (qeI n (⟨b.As.Ai⟩:qm) (⟨b.Ak.Aa,b.Ak.Ah,b.Ak.Ac⟩:qc)).bind fun r3 =>
  bif (!r3) then some true else
  some ((b.At.length:Int) != (b.Ak.Ah.length:Int))).bind fun b1 =>
 bif b1 then some false else
 (qb8 b n 0).bind fun o=>match o with
 | .ret r=>some r
 | .nxt _ =>
  some true
theorem qiC {b:qq} (ha1:GoT.R w (old w) b cs1) {r:Bool} (hF:qfo n b=some r):RetV Tryz.prog 64 [GoT.v qq cs1] w r:=by
 obtain ⟨p1,k1,p2,k2,p3,k3,p4,k4,p5,k5,rfl,s1,s2,s3,s4,s5⟩:=qa7 ha1
 refine zV 39 Tryz.func64 rfl fun h=>zSR (qy h rfl rfl fun w1 bb1 h=>X0 4 rfl ?_)
 obtain ⟨KF1,hKF1,o2,hF,hK2⟩:=bindE hF
 refine qc3 (fun e w'=>∃ (b1:Bool),KF1 b1=some r∧e=[(1,.pointer (some ⟨bb1,0,none⟩)),(19,.bool b1)]∧SH w w' [Ch.box bb1 (qfR b p1 p2 p3 p4 p5 k1 k2 k3 k4 k5) 57]) ?_ ?_
 ·refine X2 5 0 0 h rfl (zcB h hF (qip (qdB _ (h.oldS s1)) (qci _ (h.oldS s2) (h.oldS s3) (h.oldS s4))) rfl fun r3 w6 h hF=>zp2 rfl (qe (t:=10) hF rfl ?_ ?_))<;>intro hF
  ·refine X0 10 rfl ?_
   obtain rfl:=qa hF
   exact rG ⟨_,hK2,rfl,h⟩ rfl
  refine X2 18 0 0 h rfl ?_
  obtain rfl:=qa hF
  exact rG ⟨_,hK2,rfl,h⟩ rfl
 rintro e2 w7 ⟨b1,hF,rfl,h⟩
 subst hKF1
 refine qf rfl hF ?_ ?_<;>intro hF
 ·exact X0 4 rfl (rb h hF rfl)
 refine X0 6 rfl ?_
 obtain ⟨o1,hF,hK1⟩:=qi hF
 refine qj (rL (fun m e w'=>∃ (i1:Int),qb8 b m i1=some o1∧e=[(1,.pointer (some ⟨bb1,0,none⟩)),(3,.int .i64 i1)]∧SH w w' [Ch.box bb1 (qfR b p1 p2 p3 p4 p5 k1 k2 k3 k4 k5) 57]) n ⟨_,hF,rfl,h⟩ rfl ?_)
 rintro m1 e1 w2 ⟨i1,hF,rfl,h⟩
 rcases m1 with _|m1
 ·cases hF
 refine X1 9 0 h rfl (qf rfl hF ?_ ?_)<;>intro hF
 ·refine X0 4 rfl (rA [] [0] h rfl fun w3 h=>M1 7 [0,1,2] 0 (h.pick [0] rfl) rfl ?_)
  obtain ⟨y1,hy1,hF,he1,b2,_,q1,cs2,hp1,hq1,hr1,hc3⟩:=s5.ix hF
  obtain ⟨p6,k6,p7,k7,p8,k8,p9,k9,rfl,s6,s7,s8,s9⟩:=qaO hr1
  refine Ae 3 15 hp1 hq1 he1 (h.pick [0] rfl) rfl (Al 4 31 0 hc3 (h.pick [0] rfl) rfl (M1 255 [5,6,7] 0 (h.pick [0] rfl) rfl (Ao 8 511 rfl (zcL h hF (qig (qci _ (h.oldS s2) (h.oldS s3) (h.oldS s4))) rfl fun r1 w4 S1 p10 k10 h hF=>G0 1023 [9] (h.pick [1] rfl) rfl (Ao 10 2047 rfl (zcB h hF (qi2 (qfv y1 (h.oldS s6) (h.oldS s7) (h.oldS s8) (h.oldS s9))) rfl fun r2 w5 h hF=>G0 4095 [11] (h.pick [1] rfl) rfl (Ad (qf rfl hF ?_ ?_))))))))<;>intro hF
  ·refine X0 4 rfl ?_
   obtain rfl:=qa hF;replace hF:=hK1
   exact rb h hF rfl
  refine X0 7 rfl ?_
  replace h:=h.pick [1] rfl
  exact rK ⟨_,hF,rfl,h⟩ rfl
 refine qn rfl ?_
 obtain rfl:=qa hF;replace hF:=hK1
 exact X0 4 rfl (rb h hF rfl)
def qan (_:Nat) (x:Int) (low:Int) (high:Int):Option Bool :=
 bif decide (x ≥ low) then some (decide (x≤high)) else
 some false
theorem qZ {x:Int} {low:Int} {high:Int}  {r:Bool} (hF:qan n x low high=some r):RetV Tryz.prog 149 [.int .i64 x,.int .i64 low,.int .i64 high] w r:=by
 refine zV 15 Tryz.func149 rfl fun h=>X0 10 rfl (qe (t:=10) hF rfl ?_ ?_)<;>intro hF
 ·exact X0 9 rfl (rb h hF rfl)
 exact X0 6 rfl (rb h hF rfl)
def qdZ (_:Nat) (list:(List ByteArray)):Option Int :=
 some (list.length:Int)
theorem qgL {list:(List ByteArray)} (ha1:GoT.R w (old w) list cs1) {r:Int} (hF:qdZ n list=some r):RetV Tryz.prog 211 [GoT.v (List ByteArray) cs1] w r:=by
 obtain ⟨p1,k1,rfl,s1⟩:=ha1
 exact zV 5 Tryz.func211 rfl fun h=>X0 10 rfl (ri h hF rfl)
def qbx (n:Nat) (d:qc) (net:Int):Option Bool :=
 (qdZ n d.Ah).bind fun r1 =>
 (qan n net 0 (W64 (r1-1))).bind fun r2 =>
 some r2
theorem qdf {d:qc} {net:Int} (ha1:GoT.R w (old w) d cs1) {r:Bool} (hF:qbx n d net=some r):RetV Tryz.prog 148 [GoT.v qc cs1,.int .i64 net] w r:=by
 obtain ⟨p1,k1,p2,k2,p3,k3,rfl,s1,s2,s3⟩:=qX ha1
 exact zV 11 Tryz.func148 rfl fun h=>zSR (qy h rfl rfl fun w1 bb1 h=>X1 7 0 h rfl (zcI h hF (qgL ⟨_,_,rfl,(h.oldS s2)⟩) rfl fun r1 w2 h hF=>zp1 rfl (zcB h hF qZ rfl fun r2 w3 h hF=>X0 2 rfl (rb h hF rfl))))
def qei (_:Nat) (s cutset:ByteArray):Option ByteArray :=
 if s.size≤9223372036854775807∧cutset.size<4294967281∧cutset.data.toList.all (fun b=>decide (b.toNat<128))=true then some ⟨(Lib.trimS s.data.toList cutset.data.toList).toArray⟩ else none
theorem qiB {s cutset:ByteArray} {r:ByteArray} (hF:qei n s cutset=some r):RetV Tryz.prog 209 [.string s,.string cutset] w r:=by
 unfold qei at hF
 split at hF
 ·rename_i hh
  obtain rfl:=qa hF
  refine (Tryz.strings_Trim_any s cutset w hh.1 hh.2.1 hh.2.2).mono ?_
  rintro e w' ⟨rfl,hB⟩
  exact ⟨_,rfl,hB,[.string _],rfl,qoj _ _⟩
 cases hF
def qdb (_:Nat) (s:ByteArray) (c:(IntK .u8)):Option Int :=
 some (Lib.indexByte s.data.toList c.val.toNat.toUInt8)
theorem qgO {s:ByteArray} {c:(IntK .u8)} {r:Int} (hF:qdb n s c=some r):RetV Tryz.prog 210 [.string s,.int .u8 c.val] w r:=by
 obtain rfl:=qa hF
 refine (Tryz.strings_IndexByte s c.val w).mono ?_
 rintro e w' ⟨rfl,rfl⟩
 exact ⟨_,rfl,Below.refl _ _,[.int .i64 _],rfl,qnd _ _⟩
def qe1 (n:Nat) (s:ByteArray):Option Bool :=
 (qan n (s.size:Int) 1 8).bind fun r1 =>
 bif r1 then
  (qei n s (⟨#[97,98,99,100,101,102,103,104,105,106,107,108,109,110,111,112,113,114,115,116,117,118,119,120,121,122,48,49,50,51,52,53,54,55,56,57]⟩:ByteArray)).bind fun r2 =>
  bif (r2.toList==(⟨#[]⟩:ByteArray).toList) then
   (atS s 0).bind fun y1 =>
   (qdb n (⟨#[97,98,99,100,101,102,103,104,105,106,107,108,109,110,111,112,113,114,115,116,117,118,119,120,121,122]⟩:ByteArray) (⟨y1⟩:IntK .u8)).bind fun r3 =>
   some (decide (r3 ≥ 0))
  else
   some false
 else
  some false
theorem qg6 {s:ByteArray}  {r:Bool} (hF:qe1 n s=some r):RetV Tryz.prog 146 [.string s] w r:=by
 refine zV 17 Tryz.func146 rfl fun h=>X0 8 rfl (zcB h hF qZ rfl fun r1 w1 h hF=>zp1 rfl (qe (t:=6) hF rfl ?_ ?_))<;>intro hF
 ·refine X0 3 rfl (zcS h hF qiB rfl fun r2 w2 h hF=>X0 4 rfl (qe (t:=11) hF rfl ?_ ?_))<;>intro hF
  ·refine X0 3 rfl ?_
   obtain ⟨y1,hx1,hF⟩:=qi hF
   have g1:=qgX hx1
   exact r_v (qg8 qk g1 rfl rfl rfl rfl) rfl (X0 1 rfl (zcI h hF qgO rfl fun r3 w3 h hF=>X0 5 rfl (rb h hF rfl)))
  exact X0 7 rfl (rb h hF rfl)
 exact X0 12 rfl (rb h hF rfl)
def qaG (s:(List ByteArray)) (v:ByteArray):Nat→Int→Option (Flow Int Int)
 | 0,_=>none
 | n+1,i1 =>
  bif decide (i1<(s.length:Int)) then
   (idx s i1).bind fun y1 =>
   bif (v.toList==y1.toList) then some (.ret i1) else
   qaG s v n (W64 (i1+1))
  else
   some (.nxt i1)
def qcu (n:Nat) (s:(List ByteArray)) (v:ByteArray):Option Int :=
 (qaG s v n 0).bind fun o=>match o with
 | .ret r=>some r
 | .nxt _ =>
  some (-1)
theorem qgB {s:(List ByteArray)} {v:ByteArray} (ha1:GoT.R w (old w) s cs1) {r:Int} (hF:qcu n s v=some r):RetV Tryz.prog 313 [GoT.v (List ByteArray) cs1,.string v] w r:=by
 obtain ⟨p1,k1,rfl,s1⟩:=ha1
 refine zV 19 Tryz.func313 rfl fun h=>X0 11 rfl ?_
 obtain ⟨o1,hF,hK1⟩:=qi hF
 refine qj (rL (fun m e w'=>∃ (i1:Int),qaG s v m i1=some o1∧e=[(0,.slice p1 s.length k1),(1,.string v),(7,.int .i64 (s.length:Int)),(8,.int .i64 i1)]∧SH w w' []) n ⟨_,hF,rfl,h⟩ rfl ?_)
 rintro m1 e1 w1 ⟨i1,hF,rfl,h⟩
 rcases m1 with _|m1
 ·cases hF
 refine X0 5 rfl (qf rfl hF ?_ ?_)<;>intro hF
 ·refine X0 13 rfl ?_
  obtain ⟨y1,hy1,hF,he1,b1,_,q1,cs2,hp1,hq1,rfl,hc2⟩:=s1.ix hF
  refine zxe hp1 hq1 he1 rfl (zc 0 (hc2.below h.below) rfl (X0 2 rfl (qf rfl hF ?_ ?_)))<;>intro hF
  ·refine X0 5 rfl ?_
   obtain rfl:=qa hF;replace hF:=hK1
   exact ri h hF rfl
  exact X0 6 rfl (rK ⟨_,hF,rfl,h⟩ rfl)
 refine qn rfl ?_
 obtain rfl:=qa hF;replace hF:=hK1
 exact X0 4 rfl (ri h hF rfl)
def qbL (n:Nat) (s:(List ByteArray)) (v:ByteArray):Option Bool :=
 (qcu n s v).bind fun r1 =>
 some (decide (r1 ≥ 0))
theorem qfU {s:(List ByteArray)} {v:ByteArray} (ha1:GoT.R w (old w) s cs1) {r:Bool} (hF:qbL n s v=some r):RetV Tryz.prog 291 [GoT.v (List ByteArray) cs1,.string v] w r:=by
 obtain ⟨p1,k1,rfl,s1⟩:=ha1
 exact zV 9 Tryz.func291 rfl fun h=>X0 8 rfl (zcI h hF (qgB ⟨_,_,rfl,(h.oldS s1)⟩) rfl fun r1 w1 h hF=>X0 3 rfl (rb h hF rfl))
def qbV (list:(List ByteArray)):Nat→Int→Option (Flow Bool Int)
 | 0,_=>none
 | n+1,i1 =>
  bif decide (i1<(list.length:Int)) then
   (idx list i1).bind fun y1 =>
   (qe1 n y1).bind fun r1 =>
   bif (!r1) then some (.ret false) else
   (subS list 0 i1).bind fun x1 =>
   (qbL n x1 y1).bind fun r2 =>
   bif r2 then some (.ret false) else
   qbV list n (W64 (i1+1))
  else
   some (.nxt i1)
def qbN (n:Nat) (list:(List ByteArray)):Option Bool :=
 (qbV list n 0).bind fun o=>match o with
 | .ret r=>some r
 | .nxt _ =>
  some true
theorem qcE {list:(List ByteArray)} (ha1:GoT.R w (old w) list cs1) {r:Bool} (hF:qbN n list=some r):RetV Tryz.prog 246 [GoT.v (List ByteArray) cs1] w r:=by
 obtain ⟨p1,k1,rfl,s1⟩:=ha1
 refine zV 23 Tryz.func246 rfl fun h=>X0 11 rfl ?_
 obtain ⟨o1,hF,hK1⟩:=qi hF
 refine qj (rL (fun m e w'=>∃ (i1:Int),qbV list m i1=some o1∧e=[(0,.slice p1 list.length k1),(5,.slice p1 list.length k1),(6,.int .i64 (list.length:Int)),(7,.int .i64 i1)]∧SH w w' []) n ⟨_,hF,rfl,h⟩ rfl ?_)
 rintro m1 e1 w1 ⟨i1,hF,rfl,h⟩
 rcases m1 with _|m1
 ·cases hF
 refine X0 5 rfl (qf rfl hF ?_ ?_)<;>intro hF
 ·refine X0 6 rfl ?_
  obtain ⟨y1,hy1,hF,he1,b1,_,q1,cs2,hp1,hq1,rfl,hc2⟩:=s1.ix hF
  refine zxe hp1 hq1 he1 rfl (zc 0 (hc2.below h.below) rfl (X0 6 rfl (zcB h hF qg6 rfl fun r1 w2 h hF=>zp2 rfl (qe (t:=15) hF rfl ?_ ?_))))<;>intro hF
  ·refine X0 7 rfl (qcv rfl rfl (X0 4 rfl ?_))
   obtain rfl:=qa hF;replace hF:=hK1
   exact rb h hF rfl
  refine X0 5 rfl ?_
  obtain ⟨x1,hx1,hF⟩:=qi hF
  obtain ⟨p2,k2,hp2,hk1,hl1,g1⟩:=qlg (h.oldS s1) hx1
  refine r_v (qhR qk rfl rfl rfl (qle g1 rfl) hp2 hk1 hl1 rfl rfl rfl rfl) rfl ?_
  have s2:=qm5 s1 hx1 hp2 hk1
  refine X0 3 rfl (zcB h hF (qfU ⟨_,_,rfl,(h.oldS s2)⟩) rfl fun r2 w3 h hF=>X0 2 rfl (qf rfl hF ?_ ?_))<;>intro hF
  ·refine X0 4 rfl ?_
   obtain rfl:=qa hF;replace hF:=hK1
   exact rb h hF rfl
  exact X0 6 rfl (rK ⟨_,hF,rfl,h⟩ rfl)
 refine qn rfl ?_
 obtain rfl:=qa hF;replace hF:=hK1
 exact X0 4 rfl (rb h hF rfl)
def qaP (_:Nat) (list:(List qI)):Option Int :=
 some (list.length:Int)
theorem qd8 {list:(List qI)} (ha1:GoT.R w (old w) list cs1) {r:Int} (hF:qaP n list=some r):RetV Tryz.prog 307 [GoT.v (List qI) cs1] w r:=by
 obtain ⟨p1,k1,rfl,s1⟩:=ha1
 exact zV 5 Tryz.func307 rfl fun h=>X0 10 rfl (ri h hF rfl)
def qba (list:(List qI)):Nat→(List ByteArray)→Int→Option (Flow Bool ((List ByteArray) × Int))
 | 0,_,_=>none
 | n+1,x1,i1 =>
  bif decide (i1<(list.length:Int)) then
   (idx list i1).bind fun y1 =>
   (appS x1 ([y1.Ap]:List ByteArray)).bind fun x2 =>
   bif (i1==(W64 ((list.length:Int)-1))) then
    bif (y1.Bf != 2) then some (.ret false) else
    bif (y1.Bg != 0) then some (.ret false) else
    bif y1.Av then some (.ret false) else
    qba list n x2 (W64 (i1+1))
   else
    bif (y1.Bf != 1) then some (.ret false) else
    (qan n y1.Bg 0 500).bind fun r1 =>
    bif (!r1) then some (.ret false) else
    qba list n x2 (W64 (i1+1))
  else
   some (.nxt (x1,i1))
def qfe (n:Nat) (list:(List qI)):Option Bool :=
 (qba list n ([]:List ByteArray) 0).bind fun o=>match o with
 | .ret r=>some r
 | .nxt (x1,_) =>
  (qaP n list).bind fun r2 =>
  (qan n r2 2 5).bind fun r3 =>
  bif r3 then
   (qbN n x1).bind fun r4 =>
   some r4
  else
   some false
theorem qiE {list:(List qI)} (ha1:GoT.R w (old w) list cs1) {r:Bool} (hF:qfe n list=some r):RetV Tryz.prog 288 [GoT.v (List qI) cs1] w r:=by
 obtain ⟨p1,k1,rfl,s1⟩:=ha1
 refine zV 52 Tryz.func288 rfl fun h=>X0 15 rfl ?_
 replace h:=h.nil (α:=ByteArray)
 obtain ⟨o1,hF,hK1⟩:=qi hF
 refine qj (rL (fun m e w'=>∃ (S1:Nat→Prop) (p2:Option Addr) (ln1:Nat) (k2:Nat) (x1:(List ByteArray)) (i1:Int),qba list m x1 i1=some o1∧e=[(0,.slice p1 list.length k1),(3,.slice p2 ln1 k2),(6,.slice p1 list.length k1),(7,.int .i64 (list.length:Int)),(8,.int .i64 i1)]∧SH w w' [Ch.own S1 (x1:List ByteArray) [.slice p2 ln1 k2]]) n ⟨_,_,_,_,_,_,hF,rfl,h⟩ rfl ?_)
 rintro m1 e1 w1 ⟨S1,p2,ln1,k2,x1,i1,hF,rfl,h⟩
 obtain rfl:=(h.sl 0 rfl).2
 rcases m1 with _|m1
 ·cases hF
 refine X0 5 rfl (qf rfl hF ?_ ?_)<;>intro hF
 ·refine X0 6 rfl ?_
  obtain ⟨y1,hy1,hF,he1,b1,_,q1,cs2,hp1,hq1,hr1,hc2⟩:=s1.ix hF
  obtain rfl:=qax hr1
  refine zxe hp1 hq1 he1 rfl (zc 0 (hc2.below h.below) rfl (qJ qk h rfl rfl rfl fun w2 bb1 h=>zp1 rfl (zs 0 h rfl fun w3 h=>X1 6 0 h rfl (qb0 qk [.tmp 15] _ ([y1.Ap]:List ByteArray) h rfl rfl rfl rfl rfl rfl rfl rfl rfl ⟨rfl,trivial⟩ rfl fun w4 p3 S2 h=>?_))))
  obtain ⟨x2,hx1,hF⟩:=qi hF
  obtain ⟨g1,hx1⟩:=qcb hx1
  refine qfM qk 2 h rfl (h.sl 0 rfl).1 (h.sl 0 rfl).2 rfl rfl rfl rfl rfl rfl rfl rfl rfl g1 hx1 rfl fun w5 p4 k3 S3 h=>X0 10 rfl (qf rfl hF ?_ ?_)<;>intro hF
  ·refine X1 6 1 h rfl (qe (t:=26) hF rfl ?_ ?_)<;>intro hF
   ·refine X0 9 rfl (qcv rfl rfl (X0 4 rfl ?_))
    obtain rfl:=qa hF;replace hF:=hK1
    exact rb h hF rfl
   refine X1 8 1 h rfl (qe (t:=31) hF rfl ?_ ?_)<;>intro hF
   ·refine X0 4 rfl (qcv rfl rfl (X0 4 rfl ?_))
    obtain rfl:=qa hF;replace hF:=hK1
    exact rb h hF rfl
   refine X1 6 1 h rfl (qf rfl hF ?_ ?_)<;>intro hF
   ·refine X0 4 rfl ?_
    obtain rfl:=qa hF;replace hF:=hK1
    exact rb h hF rfl
   refine X0 6 rfl ?_
   replace h:=h.pick [2] rfl
   exact rK ⟨_,_,_,_,_,_,hF,rfl,h⟩ rfl
  refine X1 6 1 h rfl (qe (t:=38) hF rfl ?_ ?_)<;>intro hF
  ·refine X0 6 rfl (qcv rfl rfl (X0 4 rfl ?_))
   obtain rfl:=qa hF;replace hF:=hK1
   exact rb h hF rfl
  refine X1 5 1 h rfl (zcB h hF qZ rfl fun r1 w6 h hF=>X0 4 rfl (qf rfl hF ?_ ?_))<;>intro hF
  ·refine X0 4 rfl ?_
   obtain rfl:=qa hF;replace hF:=hK1
   exact rb h hF rfl
  refine X0 6 rfl ?_
  replace h:=h.pick [2] rfl
  exact rK ⟨_,_,_,_,_,_,hF,rfl,h⟩ rfl
 refine qn rfl ?_
 obtain rfl:=qa hF;replace hF:=hK1
 refine X0 3 rfl (zcI h hF (qd8 ⟨_,_,rfl,(h.oldS s1)⟩) rfl fun r2 w7 h hF=>zcB h hF qZ rfl fun r3 w8 h hF=>zp1 rfl (qe (t:=48) hF rfl ?_ ?_))<;>intro hF
 ·exact X0 3 rfl (zcB h hF (qcE (h.own 0 rfl)) rfl fun r4 w9 h hF=>X0 3 rfl (rb h hF rfl))
 exact X0 5 rfl (rb h hF rfl)
def qeb (_:Nat) (kind:Int):Option Bool :=
 bif (kind==4) then some true else
 some (kind==5)
theorem qgJ {kind:Int}  {r:Bool} (hF:qeb n kind=some r):RetV Tryz.prog 68 [.int .i64 kind] w r:=by
 refine zV 9 Tryz.func68 rfl fun h=>X0 9 rfl (qe (t:=5) hF rfl ?_ ?_)<;>intro hF
 ·exact X0 5 rfl (rb h hF rfl)
 exact X0 7 rfl (rb h hF rfl)
def qbT (n:Nat) (c:ql):Option Int :=
 (qaP n c.Am).bind fun r1 =>
 some (W64 (r1-1))
theorem qdL {c:ql} (ha1:GoT.R w (old w) c cs1) {r:Int} (hF:qbT n c=some r):RetV Tryz.prog 311 [GoT.v ql cs1] w r:=by
 obtain ⟨p1,k1,p2,k2,p3,k3,rfl,s1,s2,s3⟩:=qD ha1
 exact zV 7 Tryz.func311 rfl fun h=>zSR (qy h rfl rfl fun w1 bb1 h=>X1 6 0 h rfl (zcI h hF (qd8 ⟨_,_,rfl,(h.oldS s1)⟩) rfl fun r1 w2 h hF=>X0 3 rfl (ri h hF rfl)))
def qdr (n:Nat) (a_n:Int) (v0:Int) (v1:Int):Option Bool :=
 (qan n a_n v0 v1).bind fun r1 =>
 some (!r1)
theorem qhn {a_n:Int} {v0:Int} {v1:Int} {p1:Option Addr} (ha1:GoT.R w (old w) (some v0) [.pointer p1]) {p2:Option Addr} (ha2:GoT.R w (old w) (some v1) [.pointer p2]) {r:Bool} (hF:qdr n a_n v0 v1=some r):RetV Tryz.prog 214 [.int .i64 a_n,.pointer p1,.pointer p2] w r:=by
 obtain ⟨b1,o_1,cs1,rfl,-,hr1,hc1⟩:=PtR.get ha1 rfl
 obtain rfl:=hr1
 obtain ⟨b2,o_2,cs2,rfl,-,hr2,hc2⟩:=PtR.get ha2 rfl
 obtain rfl:=hr2
 exact zV 10 Tryz.func214 rfl fun h=>X0 7 rfl (zc 0 (hc1.below h.below) rfl (zc 0 (hc2.below h.below) rfl (zcB h hF qZ rfl fun r1 w1 h hF=>X0 3 rfl (rb h hF rfl))))
def qx (s:(List Int)) (f_0:Int) (f_1:Int):Nat→Int→Option (Flow Int Int)
 | 0,_=>none
 | n+1,i1 =>
  bif decide (i1<(s.length:Int)) then
   (idx s i1).bind fun y1 =>
   (qdr n y1 f_0 f_1).bind fun r1 =>
   bif r1 then some (.ret i1) else
   qx s f_0 f_1 n (W64 (i1+1))
  else
   some (.nxt i1)
def qT (n:Nat) (s:(List Int)) (f_0:Int) (f_1:Int):Option Int :=
 (qx s f_0 f_1 n 0).bind fun o=>match o with
 | .ret r=>some r
 | .nxt _ =>
  some (-1)
theorem qcR {s:(List Int)} {f_0:Int} {f_1:Int} (ha1:GoT.R w (old w) s cs1) {p2:Option Addr} (ha2:GoT.R w (old w) (some f_0) [.pointer p2]) {p3:Option Addr} (ha3:GoT.R w (old w) (some f_1) [.pointer p3]) {r:Int} (hF:qT n s f_0 f_1=some r):RetV Tryz.prog 268 [GoT.v (List Int) cs1,.func (.func 214) #[] #[.pointer p2,.pointer p3]] w r:=by
 obtain ⟨p1,k1,rfl,s1⟩:=ha1
 obtain ⟨b1,o_1,cs2,rfl,-,hr1,hc1⟩:=PtR.get ha2 rfl
 obtain rfl:=hr1
 obtain ⟨b2,o_2,cs3,rfl,-,hr2,hc2⟩:=PtR.get ha3 rfl
 obtain rfl:=hr2
 refine zV 19 Tryz.func268 rfl fun h=>X0 11 rfl ?_
 obtain ⟨o1,hF,hK1⟩:=qi hF
 refine qj (rL (fun m e w'=>∃ (i1:Int),qx s f_0 f_1 m i1=some o1∧e=[(0,.slice p1 s.length k1),(1,.func (.func 214) #[] #[.pointer (some ⟨b1,o_1,none⟩),.pointer (some ⟨b2,o_2,none⟩)]),(7,.int .i64 (s.length:Int)),(8,.int .i64 i1)]∧SH w w' []) n ⟨_,hF,rfl,h⟩ rfl ?_)
 rintro m1 e1 w1 ⟨i1,hF,rfl,h⟩
 rcases m1 with _|m1
 ·cases hF
 refine X0 5 rfl (qf rfl hF ?_ ?_)<;>intro hF
 ·refine X0 13 rfl ?_
  obtain ⟨y1,hy1,hF,he1,b3,_,q1,cs4,hp1,hq1,rfl,hc4⟩:=s1.ix hF
  refine zxe hp1 hq1 he1 rfl (zc 0 (hc4.below h.below) rfl (zcB h hF (qhn (h.old ha2) (h.old ha3)) rfl fun r1 w2 h hF=>qdh (qf rfl hF ?_ ?_)))<;>intro hF
  ·refine X0 5 rfl ?_
   obtain rfl:=qa hF;replace hF:=hK1
   exact ri h hF rfl
  exact X0 6 rfl (rK ⟨_,hF,rfl,h⟩ rfl)
 refine qn rfl ?_
 obtain rfl:=qa hF;replace hF:=hK1
 exact X0 4 rfl (ri h hF rfl)
def qao (n:Nat) (s:(List Int)) (f_0:Int) (f_1:Int):Option Bool :=
 (qT n s f_0 f_1).bind fun r1 =>
 some (decide (r1 ≥ 0))
theorem qct {s:(List Int)} {f_0:Int} {f_1:Int} (ha1:GoT.R w (old w) s cs1) {p2:Option Addr} (ha2:GoT.R w (old w) (some f_0) [.pointer p2]) {p3:Option Addr} (ha3:GoT.R w (old w) (some f_1) [.pointer p3]) {r:Bool} (hF:qao n s f_0 f_1=some r):RetV Tryz.prog 213 [GoT.v (List Int) cs1,.func (.func 214) #[] #[.pointer p2,.pointer p3]] w r:=by
 obtain ⟨p1,k1,rfl,s1⟩:=ha1
 obtain ⟨b1,o_1,cs2,rfl,-,hr1,hc1⟩:=PtR.get ha2 rfl
 obtain rfl:=hr1
 obtain ⟨b2,o_2,cs3,rfl,-,hr2,hc2⟩:=PtR.get ha3 rfl
 obtain rfl:=hr2
 exact zV 9 Tryz.func213 rfl fun h=>X0 8 rfl (zcI h hF (qcR ⟨_,_,rfl,(h.oldS s1)⟩ (h.old ha2) (h.old ha3)) rfl fun r1 w1 h hF=>X0 3 rfl (rb h hF rfl))
def qaZ (n:Nat) (list:(List Int)) (low:Int) (high:Int):Option Bool :=
 (qao n list low high).bind fun r1 =>
 some (!r1)
theorem qby {list:(List Int)} {low:Int} {high:Int} (ha1:GoT.R w (old w) list cs1) {r:Bool} (hF:qaZ n list low high=some r):RetV Tryz.prog 152 [GoT.v (List Int) cs1,.int .i64 low,.int .i64 high] w r:=by
 obtain ⟨p1,k1,rfl,s1⟩:=ha1
 exact zV 11 Tryz.func152 rfl fun h=>zSR (qy h rfl rfl fun w1 bb1 h=>qy h rfl rfl fun w2 bb2 h=>X0 6 rfl (zcB h hF (qct ⟨_,_,rfl,(h.oldS s1)⟩ (qgc (x:=low) 1 h rfl rfl) (qgc (x:=high) 0 h rfl rfl)) rfl fun r1 w3 h hF=>X0 3 rfl (rb h hF rfl)))
def qam (list:(List Int)):Nat→Int→Option (Flow Bool Int)
 | 0,_=>none
 | n+1,i1 =>
  bif decide (i1<(list.length:Int)) then
   (idx list (W64 (i1-1))).bind fun y1 =>
   (idx list i1).bind fun y2 =>
   bif decide (y1 ≥ y2) then some (.ret false) else
   qam list n (W64 (i1+1))
  else
   some (.nxt i1)
def qdc (n:Nat) (list:(List Int)):Option Bool :=
 (qam list n 1).bind fun o=>match o with
 | .ret r=>some r
 | .nxt _ =>
  some true
theorem qgQ {list:(List Int)} (ha1:GoT.R w (old w) list cs1) {r:Bool} (hF:qdc n list=some r):RetV Tryz.prog 154 [GoT.v (List Int) cs1] w r:=by
 obtain ⟨p1,k1,rfl,s1⟩:=ha1
 refine zV 20 Tryz.func154 rfl fun h=>X0 9 rfl ?_
 obtain ⟨o1,hF,hK1⟩:=qi hF
 refine qj (rL (fun m e w'=>∃ (i1:Int),qam list m i1=some o1∧e=[(0,.slice p1 list.length k1),(3,.int .i64 i1)]∧SH w w' []) n ⟨_,hF,rfl,h⟩ rfl ?_)
 rintro m1 e1 w1 ⟨i1,hF,rfl,h⟩
 rcases m1 with _|m1
 ·cases hF
 refine X0 8 rfl (qf rfl hF ?_ ?_)<;>intro hF
 ·refine X0 4 rfl (rD (zd3 rfl ?_))
  obtain ⟨y1,hy1,hF,he1,b1,_,q1,cs2,hp1,hq1,rfl,hc2⟩:=s1.ix hF
  refine zdxe hp1 hq1 he1 rfl (zdc 0 (hc2.below h.below) rfl (zd2 rfl ?_))
  obtain ⟨y2,hy2,hF,he2,b2,_,q2,cs3,hp2,hq2,rfl,hc3⟩:=s1.ix hF
  refine zdxe hp2 hq2 he2 rfl (zdc 0 (hc3.below h.below) rfl (zd1 rfl (dN h fun w2 h=>qf rfl hF ?_ ?_)))<;>intro hF
  ·refine X0 4 rfl ?_
   obtain rfl:=qa hF;replace hF:=hK1
   exact rb h hF rfl
  exact X0 7 rfl (rK ⟨_,hF,rfl,h⟩ rfl)
 refine qn rfl ?_
 obtain rfl:=qa hF;replace hF:=hK1
 exact X0 4 rfl (rb h hF rfl)
def qaI (_:Nat) (list:(List Int)):Option Int :=
 some (list.length:Int)
theorem qbo {list:(List Int)} (ha1:GoT.R w (old w) list cs1) {r:Int} (hF:qaI n list=some r):RetV Tryz.prog 197 [GoT.v (List Int) cs1] w r:=by
 obtain ⟨p1,k1,rfl,s1⟩:=ha1
 exact zV 5 Tryz.func197 rfl fun h=>X0 10 rfl (ri h hF rfl)
def qe3 (n:Nat) (list:(List Int)):Option Bool :=
 (qaI n list).bind fun r1 =>
 (qan n r1 1 4).bind fun r2 =>
 bif r2 then
  (qaZ n list 0 100000).bind fun r3 =>
  bif r3 then
   (qdc n list).bind fun r4 =>
   some r4
  else
   some false
 else
  some false
theorem qg0 {list:(List Int)} (ha1:GoT.R w (old w) list cs1) {r:Bool} (hF:qe3 n list=some r):RetV Tryz.prog 199 [GoT.v (List Int) cs1] w r:=by
 obtain ⟨p1,k1,rfl,s1⟩:=ha1
 refine zV 14 Tryz.func199 rfl fun h=>X0 7 rfl (zcI h hF (qbo ⟨_,_,rfl,(h.oldS s1)⟩) rfl fun r1 w1 h hF=>zcB h hF qZ rfl fun r2 w2 h hF=>zp1 rfl (qe (t:=6) hF rfl ?_ ?_))<;>intro hF
 ·refine X0 3 rfl (zcB h hF (qby ⟨_,_,rfl,(h.oldS s1)⟩) rfl fun r3 w3 h hF=>zp2 rfl (qe (t:=10) hF rfl ?_ ?_))<;>intro hF
  ·exact X0 3 rfl (zcB h hF (qgQ ⟨_,_,rfl,(h.oldS s1)⟩) rfl fun r4 w4 h hF=>X0 3 rfl (rb h hF rfl))
  exact X0 5 rfl (rb h hF rfl)
 exact X0 9 rfl (rb h hF rfl)
def qec (n:Nat) (t:qb):Option Bool :=
 (qe3 n t.Ay).bind fun r1 =>
 bif r1 then
  (qe3 n t.Aq).bind fun r2 =>
  bif r2 then
   bif ((t.Ab.length:Int)==(W64 ((t.Ay.length:Int)*(t.Aq.length:Int)))) then
    (qaZ n t.Ab (-1000000) 1000000).bind fun r3 =>
    some r3
   else
    some false
  else
   some false
 else
  some false
theorem qgI {t:qb} (ha1:GoT.R w (old w) t cs1) {r:Bool} (hF:qec n t=some r):RetV Tryz.prog 125 [GoT.v qb cs1] w r:=by
 obtain ⟨p1,k1,p2,k2,p3,k3,rfl,s1,s2,s3⟩:=qN ha1
 refine zV 29 Tryz.func125 rfl fun h=>zSR (qy h rfl rfl fun w1 bb1 h=>X1 6 0 h rfl (zcB h hF (qg0 ⟨_,_,rfl,(h.oldS s1)⟩) rfl fun r1 w2 h hF=>zp1 rfl (qe (t:=6) hF rfl ?_ ?_)))<;>intro hF
 ·refine X1 5 0 h rfl (zcB h hF (qg0 ⟨_,_,rfl,(h.oldS s2)⟩) rfl fun r2 w3 h hF=>zp2 rfl (qe (t:=11) hF rfl ?_ ?_))<;>intro hF
  ·refine X3 24 0 0 0 h rfl (qe (t:=24) hF rfl ?_ ?_)<;>intro hF
   ·exact X1 5 0 h rfl (zcB h hF (qby ⟨_,_,rfl,(h.oldS s3)⟩) rfl fun r3 w4 h hF=>X0 3 rfl (rb h hF rfl))
   exact X0 6 rfl (rb h hF rfl)
  exact X0 19 rfl (rb h hF rfl)
 exact X0 24 rfl (rb h hF rfl)
def qa4 (x:(List Int)):Nat→Int→Int→Option (Int × Int)
 | 0,_,_=>none
 | n+1,i1,i2 =>
  bif decide (i2<(x.length:Int)) then
   (idx x i2).bind fun y2 =>
   qa4 x n (if y2<i1 then y2 else i1) (W64 (i2+1))
  else
   some (i1,i2)
def qdz (n:Nat) (x:(List Int)):Option Int :=
 (
  bif decide ((x.length:Int)<1) then none else
  some ()).bind fun _ =>
 (idx x 0).bind fun y1 =>
 (qa4 x n y1 1).bind fun o=>match o with
 | (i1,_) =>
  some i1
theorem qhp {x:(List Int)} (ha1:GoT.R w (old w) x cs1) {r:Int} (hF:qdz n x=some r):RetV Tryz.prog 334 [GoT.v (List Int) cs1] w r:=by
 obtain ⟨p1,k1,rfl,s1⟩:=ha1
 refine zV 25 Tryz.func334 rfl fun h=>X0 11 rfl ?_
 obtain ⟨KF1,hKF1,o2,hF,hK2⟩:=bindE hF
 refine qc3 (fun e w'=>KF1 ()=some r∧e=[(0,.slice p1 x.length k1)]∧SH w w' []) ?_ ?_
 ·refine qf rfl hF ?_ ?_<;>intro hF
  ·refine qe0 ?_
   cases hF
  refine qfI ?_
  obtain rfl:=qa hF
  exact rG ⟨hK2,rfl,h⟩ rfl
 rintro e2 w2 ⟨hF,rfl,h⟩
 subst hKF1
 refine X0 3 rfl ?_
 obtain ⟨y1,hy1,hF,he1,b1,_,q1,cs2,hp1,hq1,rfl,hc1⟩:=s1.ix hF
 refine zxe hp1 hq1 he1 rfl (zc 0 (hc1.below h.below) rfl (X0 7 rfl ?_))
 obtain ⟨o1,hF,hK1⟩:=qi hF
 refine qj (rL (fun m e w'=>∃ (i1:Int) (i2:Int),qa4 x m i1 i2=some o1∧e=[(0,.slice p1 x.length k1),(3,.int .i64 i1),(4,.int .i64 i2)]∧SH w w' []) n ⟨_,_,hF,rfl,h⟩ rfl ?_)
 rintro m1 e1 w1 ⟨i1,i2,hF,rfl,h⟩
 rcases m1 with _|m1
 ·cases hF
 refine X0 8 rfl (qf rfl hF ?_ ?_)<;>intro hF
 ·refine X0 7 rfl ?_
  obtain ⟨y2,hy2,hF,he2,b2,_,q2,cs3,hp2,hq2,rfl,hc3⟩:=s1.ix hF
  exact zxe hp2 hq2 he2 rfl (zc 0 (hc3.below h.below) rfl (X0 9 rfl (rK ⟨_,_,hF,rfl,h⟩ rfl)))
 refine qn rfl ?_
 obtain rfl:=qa hF;replace hF:=hK1
 exact X0 5 rfl (ri h hF rfl)
def qdy (n:Nat) (t:qb) (v0:Bool):Option Bool :=
 (qec n t).bind fun r1 =>
 bif (!r1) then some true else
 bif v0 then
  (qdz n t.Ab).bind fun r2 =>
  some (decide (r2<0))
 else
  some false
theorem qhu {t:qb} {v0:Bool} (ha1:GoT.R w (old w) t cs1) {p4:Option Addr} (ha2:GoT.R w (old w) (some v0) [.pointer p4]) {r:Bool} (hF:qdy n t v0=some r):RetV Tryz.prog 333 [GoT.v qb cs1,.pointer p4] w r:=by
 obtain ⟨p1,k1,p2,k2,p3,k3,rfl,s1,s2,s3⟩:=qN ha1
 obtain ⟨b1,o_1,cs2,rfl,-,hr1,hc1⟩:=PtR.get ha2 rfl
 obtain rfl:=hr1
 refine zV 16 Tryz.func333 rfl fun h=>zSR (qy h rfl rfl fun w1 bb1 h=>X1 5 0 h rfl (zcB h hF (qgI (h.old ha1)) rfl fun r1 w2 h hF=>zp2 rfl (qe (t:=7) hF rfl ?_ ?_)))<;>intro hF
 ·exact X0 10 rfl (rb h hF rfl)
 refine X0 1 rfl (zc 0 (hc1.below h.below) rfl (X0 2 rfl (qe (t:=9) hF rfl ?_ ?_)))<;>intro hF
 ·exact X1 5 0 h rfl (zcI h hF (qhp ⟨_,_,rfl,(h.oldS s3)⟩) rfl fun r2 w3 h hF=>X0 7 rfl (rb h hF rfl))
 exact X0 9 rfl (rb h hF rfl)
def qu (s:(List qb)) (f_0:Bool):Nat→Int→Option (Flow Int Int)
 | 0,_=>none
 | n+1,i1 =>
  bif decide (i1<(s.length:Int)) then
   (idx s i1).bind fun y1 =>
   (qdy n y1 f_0).bind fun r1 =>
   bif r1 then some (.ret i1) else
   qu s f_0 n (W64 (i1+1))
  else
   some (.nxt i1)
def qL (n:Nat) (s:(List qb)) (f_0:Bool):Option Int :=
 (qu s f_0 n 0).bind fun o=>match o with
 | .ret r=>some r
 | .nxt _ =>
  some (-1)
theorem qcf {s:(List qb)} {f_0:Bool} (ha1:GoT.R w (old w) s cs1) {p2:Option Addr} (ha2:GoT.R w (old w) (some f_0) [.pointer p2]) {r:Int} (hF:qL n s f_0=some r):RetV Tryz.prog 124 [GoT.v (List qb) cs1,.func (.func 333) #[] #[.pointer p2]] w r:=by
 obtain ⟨p1,k1,rfl,s1⟩:=ha1
 obtain ⟨b1,o_1,cs2,rfl,-,hr1,hc1⟩:=PtR.get ha2 rfl
 obtain rfl:=hr1
 refine zV 19 Tryz.func124 rfl fun h=>X0 11 rfl ?_
 obtain ⟨o1,hF,hK1⟩:=qi hF
 refine qj (rL (fun m e w'=>∃ (i1:Int),qu s f_0 m i1=some o1∧e=[(0,.slice p1 s.length k1),(1,.func (.func 333) #[] #[.pointer (some ⟨b1,o_1,none⟩)]),(7,.int .i64 (s.length:Int)),(8,.int .i64 i1)]∧SH w w' []) n ⟨_,hF,rfl,h⟩ rfl ?_)
 rintro m1 e1 w1 ⟨i1,hF,rfl,h⟩
 rcases m1 with _|m1
 ·cases hF
 refine X0 5 rfl (qf rfl hF ?_ ?_)<;>intro hF
 ·refine X0 13 rfl ?_
  obtain ⟨y1,hy1,hF,he1,b2,_,q1,cs3,hp1,hq1,hr2,hc3⟩:=s1.ix hF
  obtain ⟨p3,k2,p4,k3,p5,k4,rfl,s2,s3,s4⟩:=qN hr2
  refine zxe hp1 hq1 he1 rfl (zc 0 (hc3.below h.below) rfl (zcB h hF (qhu (qdk y1 (h.oldS s2) (h.oldS s3) (h.oldS s4)) (h.old ha2)) rfl fun r1 w2 h hF=>qdh (qf rfl hF ?_ ?_)))<;>intro hF
  ·refine X0 5 rfl ?_
   obtain rfl:=qa hF;replace hF:=hK1
   exact ri h hF rfl
  exact X0 6 rfl (rK ⟨_,hF,rfl,h⟩ rfl)
 refine qn rfl ?_
 obtain rfl:=qa hF;replace hF:=hK1
 exact X0 4 rfl (ri h hF rfl)
def qaa (n:Nat) (s:(List qb)) (f_0:Bool):Option Bool :=
 (qL n s f_0).bind fun r1 =>
 some (decide (r1 ≥ 0))
theorem qb2 {s:(List qb)} {f_0:Bool} (ha1:GoT.R w (old w) s cs1) {p2:Option Addr} (ha2:GoT.R w (old w) (some f_0) [.pointer p2]) {r:Bool} (hF:qaa n s f_0=some r):RetV Tryz.prog 69 [GoT.v (List qb) cs1,.func (.func 333) #[] #[.pointer p2]] w r:=by
 obtain ⟨p1,k1,rfl,s1⟩:=ha1
 obtain ⟨b1,o_1,cs2,rfl,-,hr1,hc1⟩:=PtR.get ha2 rfl
 obtain rfl:=hr1
 exact zV 9 Tryz.func69 rfl fun h=>X0 8 rfl (zcI h hF (qcf ⟨_,_,rfl,(h.oldS s1)⟩ (h.old ha2)) rfl fun r1 w1 h hF=>X0 3 rfl (rb h hF rfl))
def qcA (n:Nat) (list:(List qb)) (positive:Bool):Option Bool :=
 bif ((list.length:Int)==2) then
  (qaa n list positive).bind fun r1 =>
  some (!r1)
 else
  some false
theorem qex {list:(List qb)} {positive:Bool} (ha1:GoT.R w (old w) list cs1) {r:Bool} (hF:qcA n list positive=some r):RetV Tryz.prog 324 [GoT.v (List qb) cs1,.bool positive] w r:=by
 obtain ⟨p1,k1,rfl,s1⟩:=ha1
 refine zV 14 Tryz.func324 rfl fun h=>zSR (qy h rfl rfl fun w1 bb1 h=>X0 8 rfl (qe (t:=8) hF rfl ?_ ?_))<;>intro hF
 ·exact X0 5 rfl (zcB h hF (qb2 ⟨_,_,rfl,(h.oldS s1)⟩ (qgc (x:=positive) 0 h rfl rfl)) rfl fun r1 w2 h hF=>X0 5 rfl (rb h hF rfl))
 exact X0 7 rfl (rb h hF rfl)
def qd9 (_:Nat) (p:qI):Option Bool :=
 some p.Av
theorem qgP {p:qI} (ha1:GoT.R w (old w) p cs1) {r:Bool} (hF:qd9 n p=some r):RetV Tryz.prog 336 [GoT.v qI cs1] w r:=by
 obtain rfl:=qax ha1
 exact zV 5 Tryz.func336 rfl fun h=>zSR (qy h rfl rfl fun w1 bb1 h=>X1 8 0 h rfl (rb h hF rfl))
def qv (s:(List qI)):Nat→Int→Option (Flow Int Int)
 | 0,_=>none
 | n+1,i1 =>
  bif decide (i1<(s.length:Int)) then
   (idx s i1).bind fun y1 =>
   (qd9 n y1).bind fun r1 =>
   bif r1 then some (.ret i1) else
   qv s n (W64 (i1+1))
  else
   some (.nxt i1)
def qal (n:Nat) (s:(List qI)):Option Int :=
 (qv s n 0).bind fun o=>match o with
 | .ret r=>some r
 | .nxt _ =>
  some (-1)
theorem qcq {s:(List qI)} (ha1:GoT.R w (old w) s cs1) {r:Int} (hF:qal n s=some r):RetV Tryz.prog 335 [GoT.v (List qI) cs1,.func (.func 336) #[] #[]] w r:=by
 obtain ⟨p1,k1,rfl,s1⟩:=ha1
 refine zV 19 Tryz.func335 rfl fun h=>X0 11 rfl ?_
 obtain ⟨o1,hF,hK1⟩:=qi hF
 refine qj (rL (fun m e w'=>∃ (i1:Int),qv s m i1=some o1∧e=[(0,.slice p1 s.length k1),(1,.func (.func 336) #[] #[]),(7,.int .i64 (s.length:Int)),(8,.int .i64 i1)]∧SH w w' []) n ⟨_,hF,rfl,h⟩ rfl ?_)
 rintro m1 e1 w1 ⟨i1,hF,rfl,h⟩
 rcases m1 with _|m1
 ·cases hF
 refine X0 5 rfl (qf rfl hF ?_ ?_)<;>intro hF
 ·refine X0 13 rfl ?_
  obtain ⟨y1,hy1,hF,he1,b1,_,q1,cs2,hp1,hq1,hr1,hc2⟩:=s1.ix hF
  obtain rfl:=qax hr1
  refine zxe hp1 hq1 he1 rfl (zc 0 (hc2.below h.below) rfl (zcB h hF (qgP (qe2 y1)) rfl fun r1 w2 h hF=>qdh (qf rfl hF ?_ ?_)))<;>intro hF
  ·refine X0 5 rfl ?_
   obtain rfl:=qa hF;replace hF:=hK1
   exact ri h hF rfl
  exact X0 6 rfl (rK ⟨_,hF,rfl,h⟩ rfl)
 refine qn rfl ?_
 obtain rfl:=qa hF;replace hF:=hK1
 exact X0 4 rfl (ri h hF rfl)
def qdW (n:Nat) (c:ql):Option Int :=
 (qal n c.Am).bind fun r1 =>
 some r1
theorem qhE {c:ql} (ha1:GoT.R w (old w) c cs1) {r:Int} (hF:qdW n c=some r):RetV Tryz.prog 325 [GoT.v ql cs1] w r:=by
 obtain ⟨p1,k1,p2,k2,p3,k3,rfl,s1,s2,s3⟩:=qD ha1
 exact zV 6 Tryz.func325 rfl fun h=>zSR (qy h rfl rfl fun w1 bb1 h=>X1 6 0 h rfl (zcI h hF (qcq ⟨_,_,rfl,(h.oldS s1)⟩) rfl fun r1 w2 h hF=>X0 2 rfl (ri h hF rfl)))
def qda (n:Nat) (c:ql) (pin:Int):Option Bool :=
 (qbT n c).bind fun r1 =>
 (qan n pin 0 (W64 (r1-1))).bind fun r2 =>
 some r2
theorem qeS {c:ql} {pin:Int} (ha1:GoT.R w (old w) c cs1) {r:Bool} (hF:qda n c pin=some r):RetV Tryz.prog 326 [GoT.v ql cs1,.int .i64 pin] w r:=by
 obtain ⟨p1,k1,p2,k2,p3,k3,rfl,s1,s2,s3⟩:=qD ha1
 exact zV 10 Tryz.func326 rfl fun h=>zSR (qy h rfl rfl fun w1 bb1 h=>X1 6 0 h rfl (zcI h hF (qdL (h.old ha1)) rfl fun r1 w2 h hF=>zp1 rfl (zcB h hF qZ rfl fun r2 w3 h hF=>X0 2 rfl (rb h hF rfl))))
def qdX (n:Nat) (a_0:ql) (a_1:qE):Option Bool :=
 (qeb n a_1.Ar).bind fun r1 =>
 bif r1 then
  (
   bif (a_1.Bc==0) then
    bif ((a_1.Bb.length:Int)==0) then
     (qcA n a_1.Au false).bind fun r2 =>
     bif r2 then
      (qdW n a_0).bind fun r3 =>
      bif (a_1.Ba==r3) then
       bif decide (a_1.Ba ≥ 0) then
        (qda n a_0 a_1.To).bind fun r4 =>
        bif r4 then some (a_1.To != a_1.Ba) else
        some false
       else
        some false
      else
       some false
     else
      some false
    else
     some false
   else
    some false).bind fun b1 =>
  some b1
 else
  (
   (qcA n a_1.Au true).bind fun r6 =>
   bif (!r6) then some true else
   (qcA n a_1.Bb true).bind fun r7 =>
   bif (!r7) then some true else
   (qbT n a_0).bind fun r8 =>
   bif (a_1.To != r8) then some true else
   (qda n a_0 a_1.Ba).bind fun r9 =>
   some (!r9)).bind fun b2 =>
  bif b2 then some false else
  bif (a_1.Ar==1) then
   (idx a_0.Am a_1.Ba).bind fun y1 =>
   bif (!y1.Av) then
    (qan n a_1.Bc 1 3).bind fun r5 =>
    some r5
   else
    some false
  else
   (
    bif (a_1.Ar==2) then some (a_1.Ar==2) else
    some (a_1.Ar==3)).bind fun b4 =>
   bif b4 then
    (idx a_0.Am a_1.Ba).bind fun y2 =>
    bif y2.Av then some (a_1.Bc==0) else
    some false
   else
    some false
theorem qhL {a_0:ql} {a_1:qE} (ha1:GoT.R w (old w) a_0 cs1) (ha2:GoT.R w (old w) a_1 cs2) {r:Bool} (hF:qdX n a_0 a_1=some r):RetV Tryz.prog 308 [GoT.v ql cs1,GoT.v qE cs2] w r:=by
 obtain ⟨p1,k1,p2,k2,p3,k3,rfl,s1,s2,s3⟩:=qD ha1
 obtain ⟨p4,k4,p5,k5,rfl,s4,s5⟩:=qK ha2
 refine zV 103 Tryz.func308 rfl fun h=>zSR (qy h rfl rfl fun w1 bb1 h=>qy h rfl rfl fun w2 bb2 h=>X1 7 0 h rfl (zcB h hF qgJ rfl fun r1 w3 h hF=>qdh (qf rfl hF ?_ ?_)))<;>intro hF
 ·refine qd6 ?_
  obtain ⟨KF1,hKF1,o1,hF,hK1⟩:=bindE hF
  refine qc3 (fun e w'=>∃ (b1:Bool),KF1 b1=some r∧e=[(4,.bool b1)]∧SH w w' []) ?_ ?_
  ·refine rD (Y1 2 0 h rfl ?_)
   refine zd2 rfl (qaA (t:=11) hF rfl ?_ ?_)<;>intro hF
   ·refine Y1 4 0 h rfl ?_
    refine Y0 6 rfl (qaA (t:=17) hF rfl ?_ ?_)<;>intro hF
    ·refine Y1 4 0 h rfl ?_
     refine Y0 1 rfl ?_
     obtain ⟨r2,hr2,hF⟩:=qi hF
     refine qbA r2 (vsB _) (cB 324 rfl) (fun _ hb=>qex ⟨_,_,rfl,((h.ext hb).oldS s4)⟩ hr2) rfl rfl rfl rfl (zd2 rfl (qaA (t:=22) hF rfl ?_ ?_))<;>intro hF
     ·refine Y1 4 0 h rfl ?_
      refine Y1 2 1 h rfl ?_
      refine Y0 1 rfl ?_
      obtain ⟨r3,hr3,hF⟩:=qi hF
      refine qbA r3 (vsI _) (cB 325 rfl) (fun _ hb=>qhE ((h.ext hb).old ha1) hr3) rfl rfl rfl rfl (Y0 4 rfl (qaA (t:=29) hF rfl ?_ ?_))<;>intro hF
      ·refine Y1 4 0 h rfl ?_
       refine Y0 4 rfl (qaA (t:=34) hF rfl ?_ ?_)<;>intro hF
       ·refine Y1 2 1 h rfl ?_
        refine Y1 4 0 h rfl ?_
        refine Y0 1 rfl ?_
        obtain ⟨r4,hr4,hF⟩:=qi hF
        refine qbA r4 (vsB _) (cB 326 rfl) (fun _ hb=>qeS ((h.ext hb).old ha1) hr4) rfl rfl rfl rfl (zd2 rfl (qaA (t:=40) hF rfl ?_ ?_))<;>intro hF
        ·refine Y1 4 0 h rfl ?_
         refine Y1 4 0 h rfl ?_
         refine Y0 4 rfl (dN h fun w4 h=>?_)
         replace h:=h.pick [] rfl
         obtain rfl:=qa hF
         exact rG ⟨_,hK1,rfl,h⟩ rfl
        refine Y0 7 rfl (dN h fun w5 h=>?_)
        replace h:=h.pick [] rfl
        obtain rfl:=qa hF
        exact rG ⟨_,hK1,rfl,h⟩ rfl
       refine Y0 13 rfl (dN h fun w6 h=>?_)
       replace h:=h.pick [] rfl
       obtain rfl:=qa hF
       exact rG ⟨_,hK1,rfl,h⟩ rfl
      refine Y0 18 rfl (dN h fun w7 h=>?_)
      replace h:=h.pick [] rfl
      obtain rfl:=qa hF
      exact rG ⟨_,hK1,rfl,h⟩ rfl
     refine Y0 25 rfl (dN h fun w8 h=>?_)
     replace h:=h.pick [] rfl
     obtain rfl:=qa hF
     exact rG ⟨_,hK1,rfl,h⟩ rfl
    refine Y0 30 rfl (dN h fun w9 h=>?_)
    replace h:=h.pick [] rfl
    obtain rfl:=qa hF
    exact rG ⟨_,hK1,rfl,h⟩ rfl
   refine Y0 36 rfl (dN h fun w10 h=>?_)
   replace h:=h.pick [] rfl
   obtain rfl:=qa hF
   exact rG ⟨_,hK1,rfl,h⟩ rfl
  rintro e1 w11 ⟨b1,hF,rfl,h⟩
  subst hKF1
  exact rb h hF rfl
 refine zKSS ?_
 obtain ⟨KF3,hKF3,o3,hF,hK3⟩:=bindE hF
 refine qc3 (fun e w'=>∃ (b2:Bool),KF3 b2=some r∧e=[(2,.pointer (some ⟨bb1,0,none⟩)),(3,.pointer (some ⟨bb2,0,none⟩)),(70,.bool b2)]∧SH w w' [Ch.box bb2 (qhb a_1 p4 p5 k4 k5) 138,Ch.box bb1 (qbK a_0 p1 p2 p3 k1 k2 k3) 135]) ?_ ?_
 ·refine rD (Y1 2 0 h rfl ?_)
  obtain ⟨r6,hr8,hF⟩:=qi hF
  refine qbA r6 (vsB _) (cB 324 rfl) (fun _ hb=>qex ⟨_,_,rfl,((h.ext hb).oldS s4)⟩ hr8) rfl rfl rfl rfl (zd2 rfl (qaA (t:=51) hF rfl ?_ ?_))<;>intro hF
  ·refine Y0 19 rfl (dN h fun w14 h=>?_)
   obtain rfl:=qa hF
   exact rG ⟨_,hK3,rfl,h⟩ rfl
  refine Y1 4 0 h rfl ?_
  refine Y0 1 rfl ?_
  obtain ⟨r7,hr9,hF⟩:=qi hF
  refine qbA r7 (vsB _) (cB 324 rfl) (fun _ hb=>qex ⟨_,_,rfl,((h.ext hb).oldS s5)⟩ hr9) rfl rfl rfl rfl (Y0 4 rfl (qaA (t:=57) hF rfl ?_ ?_))<;>intro hF
  ·refine Y0 13 rfl (dN h fun w15 h=>?_)
   obtain rfl:=qa hF
   exact rG ⟨_,hK3,rfl,h⟩ rfl
  refine Y1 4 0 h rfl ?_
  refine Y1 2 1 h rfl ?_
  refine Y0 1 rfl ?_
  obtain ⟨r8,hr10,hF⟩:=qi hF
  refine qbA r8 (vsI _) (cB 311 rfl) (fun _ hb=>qdL ((h.ext hb).old ha1) hr10) rfl rfl rfl rfl (Y0 4 rfl (qaA (t:=64) hF rfl ?_ ?_))<;>intro hF
  ·refine Y0 6 rfl (dN h fun w16 h=>?_)
   obtain rfl:=qa hF
   exact rG ⟨_,hK3,rfl,h⟩ rfl
  refine Y1 2 1 h rfl ?_
  refine Y1 4 0 h rfl ?_
  refine Y0 1 rfl ?_
  obtain ⟨r9,hr11,hF⟩:=qi hF
  refine qbA r9 (vsB _) (cB 326 rfl) (fun _ hb=>qeS ((h.ext hb).old ha1) hr11) rfl rfl rfl rfl (Y0 3 rfl (dN h fun w17 h=>?_))
  obtain rfl:=qa hF
  exact rG ⟨_,hK3,rfl,h⟩ rfl
 rintro e3 w18 ⟨b2,hF,rfl,h⟩
 subst hKF3
 refine qf rfl hF ?_ ?_<;>intro hF
 ·exact X0 4 rfl (rb h hF rfl)
 refine X1 13 0 h rfl (qf rfl hF ?_ ?_)<;>intro hF
 ·refine X2 6 1 0 h rfl ?_
  obtain ⟨y1,hy1,hF,he1,b3,_,q1,cs3,hp1,hq1,hr5,hc4⟩:=s1.ix hF
  obtain rfl:=qax hr5
  refine zxe hp1 hq1 he1 rfl (zp1 rfl (zc 3 (hc4.below h.below) rfl (zp2 rfl (qe (t:=83) hF rfl ?_ ?_))))<;>intro hF
  ·exact X1 5 0 h rfl (zcB h hF qZ rfl fun r5 w12 h hF=>X0 3 rfl (rb h hF rfl))
  exact X0 6 rfl (rb h hF rfl)
 refine X0 6 rfl ?_
 obtain ⟨KF2,hKF2,o2,hF,hK2⟩:=bindE hF
 refine qc3 (fun e w'=>∃ (b4:Bool),KF2 b4=some r∧e=[(2,.pointer (some ⟨bb1,0,none⟩)),(3,.pointer (some ⟨bb2,0,none⟩)),(88,.bool b4)]∧SH w w' [Ch.box bb2 (qhb a_1 p4 p5 k4 k5) 138,Ch.box bb1 (qbK a_0 p1 p2 p3 k1 k2 k3) 135]) ?_ ?_
 ·refine qf rfl hF ?_ ?_<;>intro hF
  ·refine qfI ?_
   obtain rfl:=qa hF
   exact rG ⟨_,hK2,rfl,h⟩ rfl
  refine X0 4 rfl ?_
  obtain rfl:=qa hF
  exact rG ⟨_,hK2,rfl,h⟩ rfl
 rintro e2 w13 ⟨b4,hF,rfl,h⟩
 subst hKF2
 refine qf rfl hF ?_ ?_<;>intro hF
 ·refine X2 6 1 0 h rfl ?_
  obtain ⟨y2,hy2,hF,he2,b5,_,q2,cs4,hp2,hq2,hr7,hc6⟩:=s1.ix hF
  obtain rfl:=qax hr7
  refine zxe hp2 hq2 he2 rfl (zp1 rfl (zc 3 (hc6.below h.below) rfl (zp1 rfl (qe (t:=98) hF rfl ?_ ?_))))<;>intro hF
  ·exact X1 9 0 h rfl (rb h hF rfl)
  exact X0 6 rfl (rb h hF rfl)
 exact X0 6 rfl (rb h hF rfl)
def qcw (_:Nat) (a_o:qE) (v0:qE):Option Bool :=
 bif (a_o.Ar==v0.Ar) then
  bif (a_o.Ba==v0.Ba) then some (a_o.To==v0.To) else
  some false
 else
  some false
theorem qgx {a_o:qE} {v0:qE} (ha1:GoT.R w (old w) a_o cs1) {p3:Option Addr} (ha2:GoT.R w (old w) (some v0) [.pointer p3]) {r:Bool} (hF:qcw n a_o v0=some r):RetV Tryz.prog 310 [GoT.v qE cs1,.pointer p3] w r:=by
 obtain ⟨p1,k1,p2,k2,rfl,s1,s2⟩:=qK ha1
 obtain ⟨b1,o_1,cs2,rfl,-,hr1,hc1⟩:=PtR.get ha2 rfl
 obtain ⟨p4,k3,p5,k4,rfl,s3,s4⟩:=qK hr1
 refine zV 23 Tryz.func310 rfl fun h=>zSR (qy h rfl rfl fun w1 bb1 h=>X1 7 0 h rfl (zc 0 (hc1.below h.below) rfl (zp2 rfl (qe (t:=9) hF rfl ?_ ?_))))<;>intro hF
 ·refine X1 7 0 h rfl (zc 1 (hc1.below h.below) rfl (X0 4 rfl (qe (t:=16) hF rfl ?_ ?_)))<;>intro hF
  ·exact X1 7 0 h rfl (zc 2 (hc1.below h.below) rfl (X0 5 rfl (rb h hF rfl)))
  exact X0 8 rfl (rb h hF rfl)
 exact X0 15 rfl (rb h hF rfl)
def qt (s:(List qE)) (f_0:qE):Nat→Int→Option (Flow Int Int)
 | 0,_=>none
 | n+1,i1 =>
  bif decide (i1<(s.length:Int)) then
   (idx s i1).bind fun y1 =>
   (qcw n y1 f_0).bind fun r1 =>
   bif r1 then some (.ret i1) else
   qt s f_0 n (W64 (i1+1))
  else
   some (.nxt i1)
def qab (n:Nat) (s:(List qE)) (f_0:qE):Option Int :=
 (qt s f_0 n 0).bind fun o=>match o with
 | .ret r=>some r
 | .nxt _ =>
  some (-1)
theorem qb4 {s:(List qE)} {f_0:qE} (ha1:GoT.R w (old w) s cs1) {p2:Option Addr} (ha2:GoT.R w (old w) (some f_0) [.pointer p2]) {r:Int} (hF:qab n s f_0=some r):RetV Tryz.prog 327 [GoT.v (List qE) cs1,.func (.func 310) #[] #[.pointer p2]] w r:=by
 obtain ⟨p1,k1,rfl,s1⟩:=ha1
 obtain ⟨b1,o_1,cs2,rfl,-,hr1,hc1⟩:=PtR.get ha2 rfl
 obtain ⟨p3,k2,p4,k3,rfl,s2,s3⟩:=qK hr1
 refine zV 19 Tryz.func327 rfl fun h=>X0 11 rfl ?_
 obtain ⟨o1,hF,hK1⟩:=qi hF
 refine qj (rL (fun m e w'=>∃ (i1:Int),qt s f_0 m i1=some o1∧e=[(0,.slice p1 s.length k1),(1,.func (.func 310) #[] #[.pointer (some ⟨b1,o_1,none⟩)]),(7,.int .i64 (s.length:Int)),(8,.int .i64 i1)]∧SH w w' []) n ⟨_,hF,rfl,h⟩ rfl ?_)
 rintro m1 e1 w1 ⟨i1,hF,rfl,h⟩
 rcases m1 with _|m1
 ·cases hF
 refine X0 5 rfl (qf rfl hF ?_ ?_)<;>intro hF
 ·refine X0 13 rfl ?_
  obtain ⟨y1,hy1,hF,he1,b2,_,q1,cs3,hp1,hq1,hr2,hc3⟩:=s1.ix hF
  obtain ⟨p5,k4,p6,k5,rfl,s4,s5⟩:=qK hr2
  refine zxe hp1 hq1 he1 rfl (zc 0 (hc3.below h.below) rfl (zcB h hF (qgx (qdS y1 (h.oldS s4) (h.oldS s5)) (h.old ha2)) rfl fun r1 w2 h hF=>qdh (qf rfl hF ?_ ?_)))<;>intro hF
  ·refine X0 5 rfl ?_
   obtain rfl:=qa hF;replace hF:=hK1
   exact ri h hF rfl
  exact X0 6 rfl (rK ⟨_,hF,rfl,h⟩ rfl)
 refine qn rfl ?_
 obtain rfl:=qa hF;replace hF:=hK1
 exact X0 4 rfl (ri h hF rfl)
end Go.Fw


namespace Go.Fw
open Go Go.Proofs
open Go.RowKit (Below)
set_option maxRecDepth 100000
set_option maxHeartbeats 1600000
variable {n:Nat} {w:World} {cs1 cs2 cs3 cs4 cs5 cs6 cs7 cs8 cs9:List Value}
def qG (n:Nat) (s:(List qE)) (f_0:qE):Option Bool :=
 (qab n s f_0).bind fun r1 =>
 some (decide (r1 ≥ 0))
theorem qbZ {s:(List qE)} {f_0:qE} (ha1:GoT.R w (old w) s cs1) {p2:Option Addr} (ha2:GoT.R w (old w) (some f_0) [.pointer p2]) {r:Bool} (hF:qG n s f_0=some r):RetV Tryz.prog 309 [GoT.v (List qE) cs1,.func (.func 310) #[] #[.pointer p2]] w r:=by
 obtain ⟨p1,k1,rfl,s1⟩:=ha1
 obtain ⟨b1,o_1,cs2,rfl,-,hr1,hc1⟩:=PtR.get ha2 rfl
 obtain ⟨p3,k2,p4,k3,rfl,s2,s3⟩:=qK hr1
 exact zV 9 Tryz.func309 rfl fun h=>X0 8 rfl (zcI h hF (qb4 ⟨_,_,rfl,(h.oldS s1)⟩ (h.old ha2)) rfl fun r1 w1 h hF=>X0 3 rfl (rb h hF rfl))
def qaR (c:ql):Nat→Int→Option (Flow Bool Int)
 | 0,_=>none
 | n+1,i1 =>
  bif decide (i1<(c.Af.length:Int)) then
   (idx c.Af i1).bind fun y1 =>
   (qdX n c y1).bind fun r1 =>
   bif (!r1) then some (.ret false) else
   (subS c.Af 0 i1).bind fun x1 =>
   (qG n x1 y1).bind fun r2 =>
   bif r2 then some (.ret false) else
   qaR c n (W64 (i1+1))
  else
   some (.nxt i1)
def qdd (n:Nat) (c:ql):Option Bool :=
 (qaR c n 0).bind fun o=>match o with
 | .ret r=>some r
 | .nxt _ =>
  some (decide ((c.Af.length:Int)≤8))
theorem qgZ {c:ql} (ha1:GoT.R w (old w) c cs1) {r:Bool} (hF:qdd n c=some r):RetV Tryz.prog 289 [GoT.v ql cs1] w r:=by
 obtain ⟨p1,k1,p2,k2,p3,k3,rfl,s1,s2,s3⟩:=qD ha1
 refine zV 30 Tryz.func289 rfl fun h=>zSR (qy h rfl rfl fun w1 bb1 h=>X1 10 0 h rfl ?_)
 obtain ⟨o1,hF,hK1⟩:=qi hF
 refine qj (rL (fun m e w'=>∃ (i1:Int),qaR c m i1=some o1∧e=[(1,.pointer (some ⟨bb1,0,none⟩)),(6,.slice p2 c.Af.length k2),(7,.int .i64 (c.Af.length:Int)),(8,.int .i64 i1)]∧SH w w' [Ch.box bb1 (qbK c p1 p2 p3 k1 k2 k3) 135]) n ⟨_,hF,rfl,h⟩ rfl ?_)
 rintro m1 e1 w2 ⟨i1,hF,rfl,h⟩
 rcases m1 with _|m1
 ·cases hF
 refine X0 5 rfl (qf rfl hF ?_ ?_)<;>intro hF
 ·refine X0 6 rfl ?_
  obtain ⟨y1,hy1,hF,he1,b1,_,q1,cs2,hp1,hq1,hr1,hc2⟩:=s2.ix hF
  obtain ⟨p4,k4,p5,k5,rfl,s4,s5⟩:=qK hr1
  refine zxe hp1 hq1 he1 rfl (zc 0 (hc2.below h.below) rfl (qJ qk h rfl rfl rfl fun w3 bb2 h=>zp1 rfl (zs 0 h rfl fun w4 h=>X2 5 1 0 h rfl (zcB h hF (qhL (h.old ha1) (qdS y1 (h.oldS s4) (h.oldS s5))) rfl fun r1 w5 h hF=>zp2 rfl (qe (t:=17) hF rfl ?_ ?_)))))<;>intro hF
  ·refine X0 8 rfl (qcv rfl rfl (X0 4 rfl ?_))
   obtain rfl:=qa hF;replace hF:=hK1
   exact rb h hF rfl
  refine X1 7 1 h rfl ?_
  obtain ⟨x1,hx1,hF⟩:=qi hF
  obtain ⟨p6,k6,hp2,hk1,hl1,g1⟩:=qlg (h.oldS s2) hx1
  refine r_v (qhR qk rfl rfl rfl (qle g1 rfl) hp2 hk1 hl1 rfl rfl rfl rfl) rfl ?_
  have s6:=qm5 s2 hx1 hp2 hk1
  refine X0 3 rfl (zcB h hF (qbZ ⟨_,_,rfl,(h.oldS s6)⟩ (qgc (x:=y1) 0 h rfl (qdS y1 (h.oldS s4) (h.oldS s5)))) rfl fun r2 w6 h hF=>X0 2 rfl (qf rfl hF ?_ ?_))<;>intro hF
  ·refine X0 4 rfl ?_
   obtain rfl:=qa hF;replace hF:=hK1
   exact rb h hF rfl
  refine X0 6 rfl ?_
  replace h:=h.pick [1] rfl
  exact rK ⟨_,hF,rfl,h⟩ rfl
 refine qn rfl ?_
 obtain rfl:=qa hF;replace hF:=hK1
 exact X1 8 0 h rfl (rb h hF rfl)
def qe8 (_:Nat) (a:qE) (v0:Int):Option Bool :=
 some (a.Ar==v0)
theorem qhP {a:qE} {v0:Int} (ha1:GoT.R w (old w) a cs1) {p3:Option Addr} (ha2:GoT.R w (old w) (some v0) [.pointer p3]) {r:Bool} (hF:qe8 n a v0=some r):RetV Tryz.prog 328 [GoT.v qE cs1,.pointer p3] w r:=by
 obtain ⟨p1,k1,p2,k2,rfl,s1,s2⟩:=qK ha1
 obtain ⟨b1,o_1,cs2,rfl,-,hr1,hc1⟩:=PtR.get ha2 rfl
 obtain rfl:=hr1
 exact zV 8 Tryz.func328 rfl fun h=>zSR (qy h rfl rfl fun w1 bb1 h=>X1 6 0 h rfl (zc 0 (hc1.below h.below) rfl (X0 3 rfl (rb h hF rfl))))
def qw (s:(List qE)) (f_0:Int):Nat→Int→Option (Flow Int Int)
 | 0,_=>none
 | n+1,i1 =>
  bif decide (i1<(s.length:Int)) then
   (idx s i1).bind fun y1 =>
   (qe8 n y1 f_0).bind fun r1 =>
   bif r1 then some (.ret i1) else
   qw s f_0 n (W64 (i1+1))
  else
   some (.nxt i1)
def qap (n:Nat) (s:(List qE)) (f_0:Int):Option Int :=
 (qw s f_0 n 0).bind fun o=>match o with
 | .ret r=>some r
 | .nxt _ =>
  some (-1)
theorem qcF {s:(List qE)} {f_0:Int} (ha1:GoT.R w (old w) s cs1) {p2:Option Addr} (ha2:GoT.R w (old w) (some f_0) [.pointer p2]) {r:Int} (hF:qap n s f_0=some r):RetV Tryz.prog 327 [GoT.v (List qE) cs1,.func (.func 328) #[] #[.pointer p2]] w r:=by
 obtain ⟨p1,k1,rfl,s1⟩:=ha1
 obtain ⟨b1,o_1,cs2,rfl,-,hr1,hc1⟩:=PtR.get ha2 rfl
 obtain rfl:=hr1
 refine zV 19 Tryz.func327 rfl fun h=>X0 11 rfl ?_
 obtain ⟨o1,hF,hK1⟩:=qi hF
 refine qj (rL (fun m e w'=>∃ (i1:Int),qw s f_0 m i1=some o1∧e=[(0,.slice p1 s.length k1),(1,.func (.func 328) #[] #[.pointer (some ⟨b1,o_1,none⟩)]),(7,.int .i64 (s.length:Int)),(8,.int .i64 i1)]∧SH w w' []) n ⟨_,hF,rfl,h⟩ rfl ?_)
 rintro m1 e1 w1 ⟨i1,hF,rfl,h⟩
 rcases m1 with _|m1
 ·cases hF
 refine X0 5 rfl (qf rfl hF ?_ ?_)<;>intro hF
 ·refine X0 13 rfl ?_
  obtain ⟨y1,hy1,hF,he1,b2,_,q1,cs3,hp1,hq1,hr2,hc3⟩:=s1.ix hF
  obtain ⟨p3,k2,p4,k3,rfl,s2,s3⟩:=qK hr2
  refine zxe hp1 hq1 he1 rfl (zc 0 (hc3.below h.below) rfl (zcB h hF (qhP (qdS y1 (h.oldS s2) (h.oldS s3)) (h.old ha2)) rfl fun r1 w2 h hF=>qdh (qf rfl hF ?_ ?_)))<;>intro hF
  ·refine X0 5 rfl ?_
   obtain rfl:=qa hF;replace hF:=hK1
   exact ri h hF rfl
  exact X0 6 rfl (rK ⟨_,hF,rfl,h⟩ rfl)
 refine qn rfl ?_
 obtain rfl:=qa hF;replace hF:=hK1
 exact X0 4 rfl (ri h hF rfl)
def qaj (n:Nat) (s:(List qE)) (f_0:Int):Option Bool :=
 (qap n s f_0).bind fun r1 =>
 some (decide (r1 ≥ 0))
theorem qce {s:(List qE)} {f_0:Int} (ha1:GoT.R w (old w) s cs1) {p2:Option Addr} (ha2:GoT.R w (old w) (some f_0) [.pointer p2]) {r:Bool} (hF:qaj n s f_0=some r):RetV Tryz.prog 309 [GoT.v (List qE) cs1,.func (.func 328) #[] #[.pointer p2]] w r:=by
 obtain ⟨p1,k1,rfl,s1⟩:=ha1
 obtain ⟨b1,o_1,cs2,rfl,-,hr1,hc1⟩:=PtR.get ha2 rfl
 obtain rfl:=hr1
 exact zV 9 Tryz.func309 rfl fun h=>X0 8 rfl (zcI h hF (qcF ⟨_,_,rfl,(h.oldS s1)⟩ (h.old ha2)) rfl fun r1 w1 h hF=>X0 3 rfl (rb h hF rfl))
def qbj (n:Nat) (c:ql) (kind:Int):Option Bool :=
 (qaj n c.Af kind).bind fun r1 =>
 some r1
theorem qbW {c:ql} {kind:Int} (ha1:GoT.R w (old w) c cs1) {r:Bool} (hF:qbj n c kind=some r):RetV Tryz.prog 312 [GoT.v ql cs1,.int .i64 kind] w r:=by
 obtain ⟨p1,k1,p2,k2,p3,k3,rfl,s1,s2,s3⟩:=qD ha1
 exact zV 9 Tryz.func312 rfl fun h=>zSR (qy h rfl rfl fun w1 bb1 h=>qy h rfl rfl fun w2 bb2 h=>X1 7 1 h rfl (zcB h hF (qce ⟨_,_,rfl,(h.oldS s2)⟩ (qgc (x:=kind) 0 h rfl rfl)) rfl fun r1 w3 h hF=>X0 2 rfl (rb h hF rfl)))
def qac (a_0:ql):Nat→Int→Int→Option (Int × Int)
 | 0,_,_=>none
 | n+1,i1,i2 =>
  bif decide (i2<(a_0.Am.length:Int)) then
   (idx a_0.Am i2).bind fun y1 =>
   bif y1.Av then qac a_0 n (W64 (i1+1)) (W64 (i2+1)) else
   qac a_0 n i1 (W64 (i2+1))
  else
   some (i1,i2)
def qcQ (n:Nat) (a_0:ql):Option Bool :=
 (qac a_0 n 0 0).bind fun o=>match o with
 | (i1,_) =>
  bif (a_0.Ar==1) then
   bif (i1==0) then
    (qbT n a_0).bind fun r1 =>
    (shlS 1 r1).bind fun y2 =>
    bif ((a_0.Az.length:Int)==y2) then
     (qaZ n a_0.Az 0 1).bind fun r2 =>
     some r2
    else
     some false
   else
    some false
  else
   bif (a_0.Ar==2) then
    bif (i1==1) then
     bif ((a_0.Az.length:Int)==0) then
      (qbj n a_0 1).bind fun r3 =>
      bif (!r3) then
       (qbj n a_0 2).bind fun r4 =>
       (qbj n a_0 3).bind fun r5 =>
       some (!(r4==r5))
      else
       some false
     else
      some false
    else
     some false
   else
    bif (a_0.Ar==3) then
     bif (i1==1) then
      bif ((a_0.Az.length:Int)==0) then
       (qbj n a_0 1).bind fun r6 =>
       bif r6 then
        (qbj n a_0 2).bind fun r7 =>
        bif r7 then
         (qbj n a_0 3).bind fun r8 =>
         some (!r8)
        else
         some false
       else
        some false
      else
       some false
     else
      some false
    else
     some false
theorem qgM {a_0:ql} (ha1:GoT.R w (old w) a_0 cs1) {r:Bool} (hF:qcQ n a_0=some r):RetV Tryz.prog 290 [GoT.v ql cs1] w r:=by
 obtain ⟨p1,k1,p2,k2,p3,k3,rfl,s1,s2,s3⟩:=qD ha1
 refine zV 83 Tryz.func290 rfl fun h=>zSR (qy h rfl rfl fun w1 bb1 h=>X1 14 0 h rfl ?_)
 obtain ⟨o1,hF,hK1⟩:=qi hF
 refine qj (rL (fun m e w'=>∃ (i1:Int) (i2:Int),qac a_0 m i1 i2=some o1∧e=[(1,.pointer (some ⟨bb1,0,none⟩)),(3,.int .i64 i1),(7,.slice p1 a_0.Am.length k1),(8,.int .i64 (a_0.Am.length:Int)),(9,.int .i64 i2)]∧SH w w' [Ch.box bb1 (qbK a_0 p1 p2 p3 k1 k2 k3) 135]) n ⟨_,_,hF,rfl,h⟩ rfl ?_)
 rintro m1 e1 w2 ⟨i1,i2,hF,rfl,h⟩
 rcases m1 with _|m1
 ·cases hF
 refine X0 5 rfl (qf rfl hF ?_ ?_)<;>intro hF
 ·refine zKSBSR ?_
  obtain ⟨y1,hy1,hF,he1,b1,_,q1,cs2,hp1,hq1,hr1,hc2⟩:=s1.ix hF
  obtain rfl:=qax hr1
  refine zxe hp1 hq1 he1 rfl (zc 0 (hc2.below h.below) rfl (qJ qk h rfl rfl rfl fun w3 bb2 h=>zs 0 h rfl fun w4 h=>X1 6 0 h rfl (qf rfl hF ?_ ?_)))<;>intro hF
  ·refine X0 10 rfl ?_
   replace h:=h.pick [1] rfl
   exact rK ⟨_,_,hF,rfl,h⟩ rfl
  refine X0 6 rfl ?_
  replace h:=h.pick [1] rfl
  exact rK ⟨_,_,hF,rfl,h⟩ rfl
 refine qn rfl ?_
 obtain rfl:=qa hF;replace hF:=hK1
 refine X1 12 0 h rfl (qf rfl hF ?_ ?_)<;>intro hF
 ·refine qd6 (rD (zd3 rfl (qaA (t:=24) hF rfl ?_ ?_)))<;>intro hF
  ·refine Y1 4 0 h rfl ?_
   refine Y1 4 0 h rfl ?_
   refine Y0 1 rfl ?_
   obtain ⟨r1,hr2,hF⟩:=qi hF
   refine qbA r1 (vsI _) (cB 311 rfl) (fun _ hb=>qdL ((h.ext hb).old ha1) hr2) rfl rfl rfl rfl (Y0 1 rfl ?_)
   obtain ⟨y2,hx1,hF⟩:=qi hF
   obtain ⟨g1,hx1⟩:=qkb hx1
   refine d_v (fun _ hb=>qn2 g1 rfl rfl) rfl ?_
   rw [hx1]
   refine Y0 4 rfl (qaA (t:=33) hF rfl ?_ ?_)<;>intro hF
   ·refine Y1 4 0 h rfl ?_
    refine Y0 1 rfl ?_
    obtain ⟨r2,hr3,hF⟩:=qi hF
    exact qbA r2 (vsB _) (cB 152 rfl) (fun _ hb=>qby ⟨_,_,rfl,((h.ext hb).oldS s3)⟩ hr3) rfl rfl rfl rfl (zd2 rfl (dN h fun w5 h=>rb h hF rfl))
   exact Y0 5 rfl (dN h fun w6 h=>rb h hF rfl)
  exact Y0 14 rfl (dN h fun w7 h=>rb h hF rfl)
 refine X0 5 rfl (qf rfl hF ?_ ?_)<;>intro hF
 ·refine qd6 (rD (zd3 rfl (qaA (t:=42) hF rfl ?_ ?_)))<;>intro hF
  ·refine Y1 4 0 h rfl ?_
   refine Y0 6 rfl (qaA (t:=48) hF rfl ?_ ?_)<;>intro hF
   ·refine Y1 2 0 h rfl ?_
    refine Y0 1 rfl ?_
    obtain ⟨r3,hr4,hF⟩:=qi hF
    refine qbA r3 (vsB _) (cB 312 rfl) (fun _ hb=>qbW ((h.ext hb).old ha1) hr4) rfl rfl rfl rfl (Y0 4 rfl (qaA (t:=53) hF rfl ?_ ?_))<;>intro hF
    ·refine Y1 2 0 h rfl ?_
     refine Y0 1 rfl ?_
     obtain ⟨r4,hr5,hF⟩:=qi hF
     refine qbA r4 (vsB _) (cB 312 rfl) (fun _ hb=>qbW ((h.ext hb).old ha1) hr5) rfl rfl rfl rfl (Y1 2 0 h rfl ?_)
     refine Y0 1 rfl ?_
     obtain ⟨r5,hr6,hF⟩:=qi hF
     exact qbA r5 (vsB _) (cB 312 rfl) (fun _ hb=>qbW ((h.ext hb).old ha1) hr6) rfl rfl rfl rfl (Y0 4 rfl (dN h fun w8 h=>rb h hF rfl))
    exact Y0 7 rfl (dN h fun w9 h=>rb h hF rfl)
   exact Y0 12 rfl (dN h fun w10 h=>rb h hF rfl)
  exact Y0 18 rfl (dN h fun w11 h=>rb h hF rfl)
 refine X0 5 rfl (qf rfl hF ?_ ?_)<;>intro hF
 ·refine X0 5 rfl (qe (t:=64) hF rfl ?_ ?_)<;>intro hF
  ·refine X1 10 0 h rfl (qe (t:=70) hF rfl ?_ ?_)<;>intro hF
   ·refine X1 3 0 h rfl (zcB h hF (qbW (h.old ha1)) rfl fun r6 w12 h hF=>zp2 rfl (qe (t:=74) hF rfl ?_ ?_))<;>intro hF
    ·refine X1 3 0 h rfl (zcB h hF (qbW (h.old ha1)) rfl fun r7 w13 h hF=>zp2 rfl (qe (t:=78) hF rfl ?_ ?_))<;>intro hF
     ·exact X1 3 0 h rfl (zcB h hF (qbW (h.old ha1)) rfl fun r8 w14 h hF=>X0 5 rfl (rb h hF rfl))
     exact X0 6 rfl (rb h hF rfl)
    exact X0 10 rfl (rb h hF rfl)
   exact X0 14 rfl (rb h hF rfl)
  exact X0 20 rfl (rb h hF rfl)
 exact X0 6 rfl (rb h hF rfl)
def qf7 (n:Nat) (c:ql):Option Bool :=
 (qe1 n c.Ap).bind fun r1 =>
 bif r1 then
  (qfe n c.Am).bind fun r2 =>
  bif r2 then
   (qdd n c).bind fun r3 =>
   bif r3 then
    (qan n c.Bo 0 100000).bind fun r4 =>
    bif r4 then
     (qan n c.Be 0 100000).bind fun r5 =>
     bif r5 then
      (qcQ n c).bind fun r6 =>
      some r6
     else
      some false
    else
     some false
   else
    some false
  else
   some false
 else
  some false
theorem qiX {c:ql} (ha1:GoT.R w (old w) c cs1) {r:Bool} (hF:qf7 n c=some r):RetV Tryz.prog 245 [GoT.v ql cs1] w r:=by
 obtain ⟨p1,k1,p2,k2,p3,k3,rfl,s1,s2,s3⟩:=qD ha1
 refine zV 29 Tryz.func245 rfl fun h=>zSR (qy h rfl rfl fun w1 bb1 h=>X1 6 0 h rfl (zcB h hF qg6 rfl fun r1 w2 h hF=>zp1 rfl (qe (t:=6) hF rfl ?_ ?_)))<;>intro hF
 ·refine X1 5 0 h rfl (zcB h hF (qiE ⟨_,_,rfl,(h.oldS s1)⟩) rfl fun r2 w3 h hF=>zp2 rfl (qe (t:=11) hF rfl ?_ ?_))<;>intro hF
  ·refine X1 3 0 h rfl (zcB h hF (qgZ (h.old ha1)) rfl fun r3 w4 h hF=>zp2 rfl (qe (t:=15) hF rfl ?_ ?_))<;>intro hF
   ·refine X1 5 0 h rfl (zcB h hF qZ rfl fun r4 w5 h hF=>zp2 rfl (qe (t:=20) hF rfl ?_ ?_))<;>intro hF
    ·refine X1 5 0 h rfl (zcB h hF qZ rfl fun r5 w6 h hF=>zp2 rfl (qe (t:=25) hF rfl ?_ ?_))<;>intro hF
     ·exact X1 3 0 h rfl (zcB h hF (qgM (h.old ha1)) rfl fun r6 w7 h hF=>X0 3 rfl (rb h hF rfl))
     exact X0 5 rfl (rb h hF rfl)
    exact X0 10 rfl (rb h hF rfl)
   exact X0 15 rfl (rb h hF rfl)
  exact X0 19 rfl (rb h hF rfl)
 exact X0 24 rfl (rb h hF rfl)
def qaX (l:qm):Nat→(List ByteArray)→Int→Option (Flow Bool ((List ByteArray) × Int))
 | 0,_,_=>none
 | n+1,x1,i1 =>
  bif decide (i1<(l.Ai.length:Int)) then
   (idx l.Ai i1).bind fun y1 =>
   (qf7 n y1).bind fun r1 =>
   bif (!r1) then some (.ret false) else
   (appS x1 ([y1.Ap]:List ByteArray)).bind fun x2 =>
   qaX l n x2 (W64 (i1+1))
  else
   some (.nxt (x1,i1))
def qee (n:Nat) (l:qm):Option Bool :=
 (qaX l n ([]:List ByteArray) 0).bind fun o=>match o with
 | .ret r=>some r
 | .nxt (x1,_) =>
  bif decide ((l.Ai.length:Int)≤8) then
   (qbN n x1).bind fun r2 =>
   some r2
  else
   some false
theorem qhV {l:qm} (ha1:GoT.R w (old w) l cs1) {r:Bool} (hF:qee n l=some r):RetV Tryz.prog 192 [GoT.v qm cs1] w r:=by
 obtain ⟨p1,k1,rfl,s1⟩:=qaK ha1
 refine zV 30 Tryz.func192 rfl fun h=>zSR (qy h rfl rfl fun w1 bb1 h=>X1 14 0 h rfl ?_)
 replace h:=h.nil (α:=ByteArray)
 obtain ⟨o1,hF,hK1⟩:=qi hF
 refine qj (rL (fun m e w'=>∃ (S1:Nat→Prop) (p2:Option Addr) (ln1:Nat) (k2:Nat) (x1:(List ByteArray)) (i1:Int),qaX l m x1 i1=some o1∧e=[(1,.pointer (some ⟨bb1,0,none⟩)),(3,.slice p2 ln1 k2),(7,.slice p1 l.Ai.length k1),(8,.int .i64 (l.Ai.length:Int)),(9,.int .i64 i1)]∧SH w w' [Ch.own S1 (x1:List ByteArray) [.slice p2 ln1 k2],Ch.box bb1 [.slice p1 l.Ai.length k1] 50]) n ⟨_,_,_,_,_,_,hF,rfl,h⟩ rfl ?_)
 rintro m1 e1 w2 ⟨S1,p2,ln1,k2,x1,i1,hF,rfl,h⟩
 obtain rfl:=(h.sl 0 rfl).2
 rcases m1 with _|m1
 ·cases hF
 refine X0 5 rfl (qf rfl hF ?_ ?_)<;>intro hF
 ·refine zKSBSR ?_
  obtain ⟨y1,hy1,hF,he1,b1,_,q1,cs2,hp1,hq1,hr1,hc2⟩:=s1.ix hF
  obtain ⟨p3,k3,p4,k4,p5,k5,rfl,s2,s3,s4⟩:=qD hr1
  refine zxe hp1 hq1 he1 rfl (zc 0 (hc2.below h.below) rfl (qJ qk h rfl rfl rfl fun w3 bb2 h=>zs 0 h rfl fun w4 h=>X1 5 0 h rfl (zcB h hF (qiX (qft y1 (h.oldS s2) (h.oldS s3) (h.oldS s4))) rfl fun r1 w5 h hF=>X0 2 rfl (qf rfl hF ?_ ?_))))<;>intro hF
  ·refine X0 4 rfl ?_
   obtain rfl:=qa hF;replace hF:=hK1
   exact rb h hF rfl
  refine X1 5 0 h rfl (qb0 qk [.tmp 18] _ ([y1.Ap]:List ByteArray) h rfl rfl rfl rfl rfl rfl rfl rfl rfl ⟨rfl,trivial⟩ rfl fun w6 p6 S2 h=>?_)
  obtain ⟨x2,hx1,hF⟩:=qi hF
  obtain ⟨g1,hx1⟩:=qcb hx1
  refine qfM qk 2 h rfl (h.sl 0 rfl).1 (h.sl 0 rfl).2 rfl rfl rfl rfl rfl rfl rfl rfl rfl g1 hx1 rfl fun w7 p7 k6 S3 h=>X0 7 rfl ?_
  replace h:=h.pick [2,3] rfl
  exact rK ⟨_,_,_,_,_,_,hF,rfl,h⟩ rfl
 refine qn rfl ?_
 obtain rfl:=qa hF;replace hF:=hK1
 refine X1 7 1 h rfl (qe (t:=26) hF rfl ?_ ?_)<;>intro hF
 ·exact X0 3 rfl (zcB h hF (qcE (h.own 0 rfl)) rfl fun r2 w8 h hF=>X0 3 rfl (rb h hF rfl))
 exact X0 5 rfl (rb h hF rfl)
def qah (d:qc):Nat→(List ByteArray)→Int→Option ((List ByteArray) × Int)
 | 0,_,_=>none
 | n+1,x3,i2 =>
  bif decide (i2<(d.Ac.length:Int)) then
   (idx d.Ac i2).bind fun y2 =>
   (appS x3 ([y2.Ap]:List ByteArray)).bind fun x4 =>
   qah d n x4 (W64 (i2+1))
  else
   some (x3,i2)
def qak (d:qc):Nat→(List ByteArray)→Int→Option ((List ByteArray) × Int)
 | 0,_,_=>none
 | n+1,x1,i1 =>
  bif decide (i1<(d.Aa.length:Int)) then
   (idx d.Aa i1).bind fun y1 =>
   (appS x1 ([y1.Ap]:List ByteArray)).bind fun x2 =>
   qak d n x2 (W64 (i1+1))
  else
   some (x1,i1)
def qck (n:Nat) (d:qc):Option Bool :=
 (qak d n ([]:List ByteArray) 0).bind fun o=>match o with
 | (x1,_) =>
  (qah d n ([]:List ByteArray) 0).bind fun o=>match o with
  | (x3,_) =>
   bif decide ((x1.length:Int)≤14) then
    bif decide ((d.Ah.length:Int)≤30) then
     bif decide ((x3.length:Int)≤8) then
      (qbN n x1).bind fun r1 =>
      bif r1 then
       (qbN n d.Ah).bind fun r2 =>
       bif r2 then
        (qbN n x3).bind fun r3 =>
        some r3
       else
        some false
      else
       some false
     else
      some false
    else
     some false
   else
    some false
theorem qgg {d:qc} (ha1:GoT.R w (old w) d cs1) {r:Bool} (hF:qck n d=some r):RetV Tryz.prog 193 [GoT.v qc cs1] w r:=by
 obtain ⟨p1,k1,p2,k2,p3,k3,rfl,s1,s2,s3⟩:=qX ha1
 refine zV 62 Tryz.func193 rfl fun h=>zSR (qy h rfl rfl fun w1 bb1 h=>X1 15 0 h rfl ?_)
 replace h:=h.nil (α:=ByteArray)
 obtain ⟨o1,hF,hK1⟩:=qi hF
 refine qj (rL (fun m e w'=>∃ (S1:Nat→Prop) (p4:Option Addr) (ln1:Nat) (k4:Nat) (x1:(List ByteArray)) (i1:Int),qak d m x1 i1=some o1∧e=[(1,.pointer (some ⟨bb1,0,none⟩)),(3,.slice p4 ln1 k4),(4,.slice none 0 0),(10,.slice p1 d.Aa.length k1),(11,.int .i64 (d.Aa.length:Int)),(12,.int .i64 i1)]∧SH w w' [Ch.own S1 (x1:List ByteArray) [.slice p4 ln1 k4],Ch.box bb1 (qaf d p1 p2 p3 k1 k2 k3) 54]) n ⟨_,_,_,_,_,_,hF,rfl,h⟩ rfl ?_)
 rintro m1 e1 w2 ⟨S1,p4,ln1,k4,x1,i1,hF,rfl,h⟩
 obtain rfl:=(h.sl 0 rfl).2
 rcases m1 with _|m1
 ·cases hF
 refine X0 5 rfl (qf rfl hF ?_ ?_)<;>intro hF
 ·refine zKSBSR ?_
  obtain ⟨y1,hy1,hF,he1,b1,_,q1,cs2,hp1,hq1,hr1,hc2⟩:=s1.ix hF
  obtain ⟨p5,k5,rfl,s4⟩:=qH hr1
  refine zxe hp1 hq1 he1 rfl (zc 0 (hc2.below h.below) rfl (qJ qk h rfl rfl rfl fun w3 bb2 h=>zs 0 h rfl fun w4 h=>X1 5 0 h rfl (qb0 qk [.tmp 18] _ ([y1.Ap]:List ByteArray) h rfl rfl rfl rfl rfl rfl rfl rfl rfl ⟨rfl,trivial⟩ rfl fun w5 p6 S2 h=>?_)))
  obtain ⟨x2,hx1,hF⟩:=qi hF
  obtain ⟨g1,hx1⟩:=qcb hx1
  refine qfM qk 2 h rfl (h.sl 0 rfl).1 (h.sl 0 rfl).2 rfl rfl rfl rfl rfl rfl rfl rfl rfl g1 hx1 rfl fun w6 p7 k6 S3 h=>X0 7 rfl ?_
  replace h:=h.pick [2,3] rfl
  exact rK ⟨_,_,_,_,_,_,hF,rfl,h⟩ rfl
 refine qn rfl ?_
 obtain rfl:=qa hF;replace hF:=hK1
 refine X1 8 1 h rfl ?_
 replace h:=h.nil (α:=ByteArray)
 obtain ⟨o2,hF,hK2⟩:=qi hF
 refine qj (rL (fun m e w'=>∃ (S4:Nat→Prop) (p8:Option Addr) (ln2:Nat) (k7:Nat) (x3:(List ByteArray)) (i2:Int),qah d m x3 i2=some o2∧e=[(1,.pointer (some ⟨bb1,0,none⟩)),(3,.slice p4 x1.length k4),(4,.slice p8 ln2 k7),(23,.slice p3 d.Ac.length k3),(24,.int .i64 (d.Ac.length:Int)),(25,.int .i64 i2)]∧SH w w' [Ch.own S4 (x3:List ByteArray) [.slice p8 ln2 k7],Ch.own S1 (x1:List ByteArray) [.slice p4 x1.length k4],Ch.box bb1 (qaf d p1 p2 p3 k1 k2 k3) 54]) n ⟨_,_,_,_,_,_,hF,rfl,h⟩ rfl ?_)
 rintro m2 e2 w7 ⟨S4,p8,ln2,k7,x3,i2,hF,rfl,h⟩
 obtain rfl:=(h.sl 0 rfl).2
 rcases m2 with _|m2
 ·cases hF
 refine X0 5 rfl (qf rfl hF ?_ ?_)<;>intro hF
 ·refine zKSBSR ?_
  obtain ⟨y2,hy2,hF,he2,b2,_,q2,cs3,hp2,hq2,hr2,hc4⟩:=s3.ix hF
  obtain rfl:=qae hr2
  refine zxe hp2 hq2 he2 rfl (zc 0 (hc4.below h.below) rfl (qJ qk h rfl rfl rfl fun w8 bb3 h=>zs 0 h rfl fun w9 h=>X1 5 0 h rfl (qb0 qk [.tmp 31] _ ([y2.Ap]:List ByteArray) h rfl rfl rfl rfl rfl rfl rfl rfl rfl ⟨rfl,trivial⟩ rfl fun w10 p9 S5 h=>?_)))
  obtain ⟨x4,hx2,hF⟩:=qi hF
  obtain ⟨g2,hx2⟩:=qcb hx2
  refine qfM qk 2 h rfl (h.sl 0 rfl).1 (h.sl 0 rfl).2 rfl rfl rfl rfl rfl rfl rfl rfl rfl g2 hx2 rfl fun w11 p10 k8 S6 h=>X0 7 rfl ?_
  replace h:=h.pick [2,3,4] rfl
  exact rK ⟨_,_,_,_,_,_,hF,rfl,h⟩ rfl
 refine qn rfl ?_
 obtain rfl:=qa hF;replace hF:=hK2
 refine X0 6 rfl (qe (t:=38) hF rfl ?_ ?_)<;>intro hF
 ·refine X1 10 2 h rfl (qe (t:=44) hF rfl ?_ ?_)<;>intro hF
  ·refine X0 8 rfl (qe (t:=49) hF rfl ?_ ?_)<;>intro hF
   ·refine X0 3 rfl (zcB h hF (qcE (h.own 1 rfl)) rfl fun r1 w12 h hF=>zp2 rfl (qe (t:=53) hF rfl ?_ ?_))<;>intro hF
    ·refine X1 5 2 h rfl (zcB h hF (qcE ⟨_,_,rfl,(h.oldS s2)⟩) rfl fun r2 w13 h hF=>zp2 rfl (qe (t:=58) hF rfl ?_ ?_))<;>intro hF
     ·exact X0 3 rfl (zcB h hF (qcE (h.own 0 rfl)) rfl fun r3 w14 h hF=>X0 3 rfl (rb h hF rfl))
     exact X0 5 rfl (rb h hF rfl)
    exact X0 10 rfl (rb h hF rfl)
   exact X0 14 rfl (rb h hF rfl)
  exact X0 19 rfl (rb h hF rfl)
 exact X0 25 rfl (rb h hF rfl)
def qc9 (_:Nat) (list:(List ql)):Option Int :=
 some (list.length:Int)
theorem qgb {list:(List ql)} (ha1:GoT.R w (old w) list cs1) {r:Int} (hF:qc9 n list=some r):RetV Tryz.prog 247 [GoT.v (List ql) cs1] w r:=by
 obtain ⟨p1,k1,rfl,s1⟩:=ha1
 exact zV 5 Tryz.func247 rfl fun h=>X0 10 rfl (ri h hF rfl)
def qbl (n:Nat) (net:Int) (v0:qc):Option Bool :=
 (qbx n v0 net).bind fun r1 =>
 some (!r1)
theorem qfp {net:Int} {v0:qc} {p1:Option Addr} (ha1:GoT.R w (old w) (some v0) [.pointer p1]) {r:Bool} (hF:qbl n net v0=some r):RetV Tryz.prog 248 [.int .i64 net,.pointer p1] w r:=by
 obtain ⟨b1,o_1,cs1,rfl,-,hr1,hc1⟩:=PtR.get ha1 rfl
 obtain ⟨p2,k1,p3,k2,p4,k3,rfl,s1,s2,s3⟩:=qX hr1
 exact zV 8 Tryz.func248 rfl fun h=>X0 6 rfl (zc 0 (hc1.below h.below) rfl (zp1 rfl (zcB h hF (qdf (qci v0 (h.oldS s1) (h.oldS s2) (h.oldS s3))) rfl fun r1 w1 h hF=>X0 3 rfl (rb h hF rfl))))
def qr (s:(List Int)) (f_0:qc):Nat→Int→Option (Flow Int Int)
 | 0,_=>none
 | n+1,i1 =>
  bif decide (i1<(s.length:Int)) then
   (idx s i1).bind fun y1 =>
   (qbl n y1 f_0).bind fun r1 =>
   bif r1 then some (.ret i1) else
   qr s f_0 n (W64 (i1+1))
  else
   some (.nxt i1)
def qY (n:Nat) (s:(List Int)) (f_0:qc):Option Int :=
 (qr s f_0 n 0).bind fun o=>match o with
 | .ret r=>some r
 | .nxt _ =>
  some (-1)
theorem qb1 {s:(List Int)} {f_0:qc} (ha1:GoT.R w (old w) s cs1) {p2:Option Addr} (ha2:GoT.R w (old w) (some f_0) [.pointer p2]) {r:Int} (hF:qY n s f_0=some r):RetV Tryz.prog 268 [GoT.v (List Int) cs1,.func (.func 248) #[] #[.pointer p2]] w r:=by
 obtain ⟨p1,k1,rfl,s1⟩:=ha1
 obtain ⟨b1,o_1,cs2,rfl,-,hr1,hc1⟩:=PtR.get ha2 rfl
 obtain ⟨p3,k2,p4,k3,p5,k4,rfl,s2,s3,s4⟩:=qX hr1
 refine zV 19 Tryz.func268 rfl fun h=>X0 11 rfl ?_
 obtain ⟨o1,hF,hK1⟩:=qi hF
 refine qj (rL (fun m e w'=>∃ (i1:Int),qr s f_0 m i1=some o1∧e=[(0,.slice p1 s.length k1),(1,.func (.func 248) #[] #[.pointer (some ⟨b1,o_1,none⟩)]),(7,.int .i64 (s.length:Int)),(8,.int .i64 i1)]∧SH w w' []) n ⟨_,hF,rfl,h⟩ rfl ?_)
 rintro m1 e1 w1 ⟨i1,hF,rfl,h⟩
 rcases m1 with _|m1
 ·cases hF
 refine X0 5 rfl (qf rfl hF ?_ ?_)<;>intro hF
 ·refine X0 13 rfl ?_
  obtain ⟨y1,hy1,hF,he1,b2,_,q1,cs3,hp1,hq1,rfl,hc3⟩:=s1.ix hF
  refine zxe hp1 hq1 he1 rfl (zc 0 (hc3.below h.below) rfl (zcB h hF (qfp (h.old ha2)) rfl fun r1 w2 h hF=>qdh (qf rfl hF ?_ ?_)))<;>intro hF
  ·refine X0 5 rfl ?_
   obtain rfl:=qa hF;replace hF:=hK1
   exact ri h hF rfl
  exact X0 6 rfl (rK ⟨_,hF,rfl,h⟩ rfl)
 refine qn rfl ?_
 obtain rfl:=qa hF;replace hF:=hK1
 exact X0 4 rfl (ri h hF rfl)
def qS (n:Nat) (s:(List Int)) (f_0:qc):Option Bool :=
 (qY n s f_0).bind fun r1 =>
 some (decide (r1 ≥ 0))
theorem qbD {s:(List Int)} {f_0:qc} (ha1:GoT.R w (old w) s cs1) {p2:Option Addr} (ha2:GoT.R w (old w) (some f_0) [.pointer p2]) {r:Bool} (hF:qS n s f_0=some r):RetV Tryz.prog 213 [GoT.v (List Int) cs1,.func (.func 248) #[] #[.pointer p2]] w r:=by
 obtain ⟨p1,k1,rfl,s1⟩:=ha1
 obtain ⟨b1,o_1,cs2,rfl,-,hr1,hc1⟩:=PtR.get ha2 rfl
 obtain ⟨p3,k2,p4,k3,p5,k4,rfl,s2,s3,s4⟩:=qX hr1
 exact zV 9 Tryz.func213 rfl fun h=>X0 8 rfl (zcI h hF (qb1 ⟨_,_,rfl,(h.oldS s1)⟩ (h.old ha2)) rfl fun r1 w1 h hF=>X0 3 rfl (rb h hF rfl))
def qbJ (n:Nat) (d:qc) (l:qm) (x:qd):Option Bool :=
 (qc9 n l.Ai).bind fun r1 =>
 (qan n x.Bh 0 (W64 (r1-1))).bind fun r2 =>
 bif r2 then
  (idx l.Ai x.Bh).bind fun y1 =>
  bif ((x.Ah.length:Int)==(y1.Am.length:Int)) then
   (qS n x.Ah d).bind fun r3 =>
   some (!r3)
  else
   some false
 else
  some false
theorem qfW {d:qc} {l:qm} {x:qd} (ha1:GoT.R w (old w) d cs1) (ha2:GoT.R w (old w) l cs2) (ha3:GoT.R w (old w) x cs3) {r:Bool} (hF:qbJ n d l x=some r):RetV Tryz.prog 194 [GoT.v qc cs1,GoT.v qm cs2,GoT.v qd cs3] w r:=by
 obtain ⟨p1,k1,p2,k2,p3,k3,rfl,s1,s2,s3⟩:=qX ha1
 obtain ⟨p4,k4,rfl,s4⟩:=qaK ha2
 obtain ⟨p5,k5,rfl,s5⟩:=qH ha3
 refine zV 35 Tryz.func194 rfl fun h=>zSR (qy h rfl rfl fun w1 bb1 h=>qy h rfl rfl fun w2 bb2 h=>qy h rfl rfl fun w3 bb3 h=>X0 3 rfl (rD (Y1 2 0 h rfl ?_)))
 refine Y1 2 1 h rfl ?_
 obtain ⟨r1,hr1,hF⟩:=qi hF
 refine qbA r1 (vsI _) (cB 247 rfl) (fun _ hb=>qgb ⟨_,_,rfl,((h.ext hb).oldS s4)⟩ hr1) rfl rfl rfl rfl (zd1 rfl ?_)
 obtain ⟨r2,hr2,hF⟩:=qi hF
 refine qbA r2 (vsB _) (cB 149 rfl) (fun _ hb=>qZ  hr2) rfl rfl rfl rfl (zd1 rfl (qaA (t:=14) hF rfl ?_ ?_))<;>intro hF
 ·refine Y1 4 0 h rfl ?_
  refine Y1 6 1 h rfl ?_
  refine Y1 4 0 h rfl ?_
  refine Y0 1 rfl ?_
  obtain ⟨y1,hy1,hF,he1,b1,_,q1,cs4,hp1,hq1,hr3,hc1⟩:=s4.ix hF
  obtain ⟨p6,k6,p7,k7,p8,k8,rfl,s6,s7,s8⟩:=qD hr3
  refine zdxe hp1 hq1 he1 rfl (Y0 3 rfl (zdc 2 (hc1.below h.below) rfl (Y0 6 rfl (qaA (t:=28) hF rfl ?_ ?_))))<;>intro hF
  ·refine Y1 4 0 h rfl ?_
   refine Y0 3 rfl ?_
   obtain ⟨r3,hr4,hF⟩:=qi hF
   exact qbA r3 (vsB _) (cB 213 rfl) (fun _ hb=>qbD ⟨_,_,rfl,((h.ext hb).oldS s5)⟩ (qgc (x:=d) 2 (h.ext hb) rfl ((h.ext hb).old ha1)) hr4) rfl rfl rfl rfl (Y0 4 rfl (dN h fun w4 h=>rb h hF rfl))
  exact Y0 7 rfl (dN h fun w5 h=>rb h hF rfl)
 exact Y0 21 rfl (dN h fun w6 h=>rb h hF rfl)
def qe6 (_:Nat) (a_n:Int):Option Bool :=
 some (a_n != 1)
theorem qhK {a_n:Int}  {r:Bool} (hF:qe6 n a_n=some r):RetV Tryz.prog 196 [.int .i64 a_n] w r:=by
 exact zV 5 Tryz.func196 rfl fun h=>X0 10 rfl (rb h hF rfl)
def qA (s:(List Int)):Nat→Int→Option (Flow Int Int)
 | 0,_=>none
 | n+1,i1 =>
  bif decide (i1<(s.length:Int)) then
   (idx s i1).bind fun y1 =>
   (qe6 n y1).bind fun r1 =>
   bif r1 then some (.ret i1) else
   qA s n (W64 (i1+1))
  else
   some (.nxt i1)
def qaH (n:Nat) (s:(List Int)):Option Int :=
 (qA s n 0).bind fun o=>match o with
 | .ret r=>some r
 | .nxt _ =>
  some (-1)
theorem qde {s:(List Int)} (ha1:GoT.R w (old w) s cs1) {r:Int} (hF:qaH n s=some r):RetV Tryz.prog 249 [GoT.v (List Int) cs1,.func (.func 196) #[] #[]] w r:=by
 obtain ⟨p1,k1,rfl,s1⟩:=ha1
 refine zV 19 Tryz.func249 rfl fun h=>X0 11 rfl ?_
 obtain ⟨o1,hF,hK1⟩:=qi hF
 refine qj (rL (fun m e w'=>∃ (i1:Int),qA s m i1=some o1∧e=[(0,.slice p1 s.length k1),(1,.func (.func 196) #[] #[]),(7,.int .i64 (s.length:Int)),(8,.int .i64 i1)]∧SH w w' []) n ⟨_,hF,rfl,h⟩ rfl ?_)
 rintro m1 e1 w1 ⟨i1,hF,rfl,h⟩
 rcases m1 with _|m1
 ·cases hF
 refine X0 5 rfl (qf rfl hF ?_ ?_)<;>intro hF
 ·refine X0 13 rfl ?_
  obtain ⟨y1,hy1,hF,he1,b1,_,q1,cs2,hp1,hq1,rfl,hc2⟩:=s1.ix hF
  refine zxe hp1 hq1 he1 rfl (zc 0 (hc2.below h.below) rfl (zcB h hF qhK rfl fun r1 w2 h hF=>qdh (qf rfl hF ?_ ?_)))<;>intro hF
  ·refine X0 5 rfl ?_
   obtain rfl:=qa hF;replace hF:=hK1
   exact ri h hF rfl
  exact X0 6 rfl (rK ⟨_,hF,rfl,h⟩ rfl)
 refine qn rfl ?_
 obtain rfl:=qa hF;replace hF:=hK1
 exact X0 4 rfl (ri h hF rfl)
def qaw (n:Nat) (s:(List Int)):Option Bool :=
 (qaH n s).bind fun r1 =>
 some (decide (r1 ≥ 0))
theorem qcT {s:(List Int)} (ha1:GoT.R w (old w) s cs1) {r:Bool} (hF:qaw n s=some r):RetV Tryz.prog 195 [GoT.v (List Int) cs1,.func (.func 196) #[] #[]] w r:=by
 obtain ⟨p1,k1,rfl,s1⟩:=ha1
 exact zV 9 Tryz.func195 rfl fun h=>X0 8 rfl (zcI h hF (qde ⟨_,_,rfl,(h.oldS s1)⟩) rfl fun r1 w1 h hF=>X0 3 rfl (rb h hF rfl))
def qaS (a_1:qc):Nat→(List Int)→Int→Option (Flow Bool ((List Int) × Int))
 | 0,_,_=>none
 | n+1,x3,i2 =>
  bif decide (i2<(a_1.Ac.length:Int)) then
   (idx a_1.Ac i2).bind fun y5 =>
   (
    bif (y5.Bf != 1) then
     bif (y5.Bf != 2) then some true else
     (qbx n a_1 y5.Bi).bind fun r2 =>
     some (!r2)
    else
     (qbx n a_1 y5.Bi).bind fun r3 =>
     some (!r3)).bind fun b7 =>
   bif b7 then some (.ret false) else
   bif (y5.Bf==1) then
    (idx x3 y5.Bi).bind fun y6 =>
    (idx x3 y5.Bi).bind fun _ =>
    qaS a_1 n (setS x3 y5.Bi (W64 (y6+1))) (W64 (i2+1))
   else
    qaS a_1 n x3 (W64 (i2+1))
  else
   some (.nxt (x3,i2))
def qbg (a_0:qm) (a_1:qc):Nat→(List Int)→Int→Option (Flow Bool ((List Int) × Int))
 | 0,_,_=>none
 | n+1,x2,i1 =>
  bif decide (i1<(a_1.Aa.length:Int)) then
   (idx a_1.Aa i1).bind fun y1 =>
   (qbJ n a_1 a_0 y1).bind fun r1 =>
   bif (!r1) then some (.ret false) else
   (idx y1.Ah (W64 ((y1.Ah.length:Int)-1))).bind fun y2 =>
   (idx x2 y2).bind fun y3 =>
   (idx x2 y2).bind fun _ =>
   qbg a_0 a_1 n (setS x2 y2 (W64 (y3+1))) (W64 (i1+1))
  else
   some (.nxt (x2,i1))
def qeG (n:Nat) (a_0:qm) (a_1:qc):Option Bool :=
 (
  (qee n a_0).bind fun r5 =>
  bif (!r5) then some true else
  (qck n a_1).bind fun r6 =>
  some (!r6)).bind fun b1 =>
 bif b1 then some false else
 (mkS (a_1.Ah.length:Int) (0:Int)).bind fun x1 =>
 (qbg a_0 a_1 n x1 0).bind fun o=>match o with
 | .ret r=>some r
 | .nxt (x2,_) =>
  (qaS a_1 n x2 0).bind fun o=>match o with
  | .ret r=>some r
  | .nxt (x3,_) =>
   (qaw n x3).bind fun r4 =>
   some (!r4)
theorem qim {a_0:qm} {a_1:qc} (ha1:GoT.R w (old w) a_0 cs1) (ha2:GoT.R w (old w) a_1 cs2) {r:Bool} (hF:qeG n a_0 a_1=some r):RetV Tryz.prog 120 [GoT.v qm cs1,GoT.v qc cs2] w r:=by
 obtain ⟨p1,k1,rfl,s1⟩:=qaK ha1
 obtain ⟨p2,k2,p3,k3,p4,k4,rfl,s2,s3,s4⟩:=qX ha2
 refine zV 84 Tryz.func120 rfl fun h=>zSR (qy h rfl rfl fun w1 bb1 h=>qy h rfl rfl fun w2 bb2 h=>X0 4 rfl ?_)
 obtain ⟨KF2,hKF2,o4,hF,hK4⟩:=bindE hF
 refine qc3 (fun e w'=>∃ (b1:Bool),KF2 b1=some r∧e=[(2,.pointer (some ⟨bb1,0,none⟩)),(3,.pointer (some ⟨bb2,0,none⟩)),(17,.bool b1)]∧SH w w' [Ch.box bb2 (qaf a_1 p2 p3 p4 k2 k3 k4) 54,Ch.box bb1 [.slice p1 a_0.Ai.length k1] 50]) ?_ ?_
 ·refine X1 2 1 h rfl (zcB h hF (qhV (h.old ha1)) rfl fun r5 w17 h hF=>zp2 rfl (qe (t:=13) hF rfl ?_ ?_))<;>intro hF
  ·refine X0 5 rfl ?_
   obtain rfl:=qa hF
   exact rG ⟨_,hK4,rfl,h⟩ rfl
  refine X1 3 0 h rfl (zcB h hF (qgg (h.old ha2)) rfl fun r6 w18 h hF=>X0 4 rfl ?_)
  obtain rfl:=qa hF
  exact rG ⟨_,hK4,rfl,h⟩ rfl
 rintro e4 w19 ⟨b1,hF,rfl,h⟩
 subst hKF2
 refine qf rfl hF ?_ ?_<;>intro hF
 ·exact X0 4 rfl (rb h hF rfl)
 refine X1 6 0 h rfl ?_
 obtain ⟨x1,hx1,hF⟩:=qi hF
 obtain ⟨g1,g2,hx1⟩:=qcj hx1
 refine qdF qk Int h rfl rfl rfl rfl rfl rfl rfl rfl rfl g1 g2 hx1 rfl fun w3 S1 p5 h=>X1 10 1 h rfl ?_
 obtain ⟨o1,hF,hK1⟩:=qi hF
 refine qj (rL (fun m e w'=>∃ (x2:(List Int)) (i1:Int),qbg a_0 a_1 m x2 i1=some o1∧e=[(2,.pointer (some ⟨bb1,0,none⟩)),(3,.pointer (some ⟨bb2,0,none⟩)),(5,.slice p5 x1.length x1.length),(23,.slice p2 a_1.Aa.length k2),(24,.int .i64 (a_1.Aa.length:Int)),(25,.int .i64 i1)]∧SH w w' [Ch.own S1 (x2:List Int) [.slice p5 x1.length x1.length],Ch.box bb2 (qaf a_1 p2 p3 p4 k2 k3 k4) 54,Ch.box bb1 [.slice p1 a_0.Ai.length k1] 50]) n ⟨_,_,hF,rfl,h⟩ rfl ?_)
 rintro m1 e1 w4 ⟨x2,i1,hF,rfl,h⟩
 rcases m1 with _|m1
 ·cases hF
 refine X0 5 rfl (qf rfl hF ?_ ?_)<;>intro hF
 ·refine zKSBSR ?_
  obtain ⟨y1,hy1,hF,he1,b2,_,q1,cs3,hp1,hq1,hr1,hc3⟩:=s2.ix hF
  obtain ⟨p6,k5,rfl,s5⟩:=qH hr1
  refine zxe hp1 hq1 he1 rfl (zc 0 (hc3.below h.below) rfl (qJ qk h rfl rfl rfl fun w5 bb3 h=>zs 0 h rfl fun w6 h=>X3 7 2 3 0 h rfl (zcB h hF (qfW (h.old ha2) (h.old ha1) (qdO y1 (h.oldS s5))) rfl fun r1 w7 h hF=>X0 2 rfl (qf rfl hF ?_ ?_))))<;>intro hF
  ·refine X0 4 rfl ?_
   obtain rfl:=qa hF;replace hF:=hK1
   exact rb h hF rfl
  refine X2 9 0 0 h rfl ?_
  obtain ⟨y2,hy2,hF,he2,b3,_,q2,cs4,hp2,hq2,rfl,hc5⟩:=s5.ix hF
  refine zxe hp2 hq2 he2 rfl (zc 0 (hc5.below h.below) rfl ?_)
  obtain ⟨y3,hy3,hF,he3,b4,_,q3,cs5,hp3,hq3,rfl,hc6⟩:=(h.sl 1 rfl).1.ix hF
  refine zx hp3 hq3 ⟨he3.1,qbO he3.2.1 (h.sl 1 rfl).2⟩ rfl (zc 0 hc6 rfl (zp1 rfl ?_))
  obtain ⟨y4,hy4,hF,he4,b5,_,q4,cs6,hp4,hq4,rfl,hc7⟩:=(h.sl 1 rfl).1.ix hF
  refine zx hp4 hq4 ⟨he4.1,qbO he4.2.1 (h.sl 1 rfl).2⟩ rfl (qeL qk 1 0 (W64 (y3+1)) h rfl hy4 hp4 hq4 rfl hc7 rfl rfl rfl rfl rfl rfl rfl fun w8 h=>X0 6 rfl ?_)
  replace h:=h.pick [1,2,3] rfl
  exact rK ⟨_,_,hF,rfl,h⟩ rfl
 refine qn rfl ?_
 obtain rfl:=qa hF;replace hF:=hK1
 refine X1 8 1 h rfl ?_
 obtain ⟨o2,hF,hK2⟩:=qi hF
 refine qj ?_
 replace h:=h.pick [0,1] rfl
 refine rL (fun m e w'=>∃ (x3:(List Int)) (i2:Int),qaS a_1 m x3 i2=some o2∧e=[(3,.pointer (some ⟨bb2,0,none⟩)),(5,.slice p5 x1.length x1.length),(49,.slice p4 a_1.Ac.length k4),(50,.int .i64 (a_1.Ac.length:Int)),(51,.int .i64 i2)]∧SH w w' [Ch.own S1 (x3:List Int) [.slice p5 x1.length x1.length],Ch.box bb2 (qaf a_1 p2 p3 p4 k2 k3 k4) 54]) n ⟨_,_,hF,rfl,h⟩ rfl ?_
 rintro m2 e2 w9 ⟨x3,i2,hF,rfl,h⟩
 rcases m2 with _|m2
 ·cases hF
 refine X0 5 rfl (qf rfl hF ?_ ?_)<;>intro hF
 ·refine zKSBSR ?_
  obtain ⟨y5,hy5,hF,he5,b6,_,q5,cs7,hp5,hq5,hr6,hc9⟩:=s4.ix hF
  obtain rfl:=qae hr6
  refine zxe hp5 hq5 he5 rfl (zc 0 (hc9.below h.below) rfl (qJ qk h rfl rfl rfl fun w10 bb4 h=>zs 0 h rfl fun w11 h=>zNSS ?_))
  obtain ⟨KF1,hKF1,o3,hF,hK3⟩:=bindE hF
  refine qc3 (fun e w'=>∃ (b7:Bool),KF1 b7=some o2∧e=[(3,.pointer (some ⟨bb2,0,none⟩)),(5,.slice p5 x1.length x1.length),(9,.pointer (some ⟨bb4,0,none⟩)),(49,.slice p4 a_1.Ac.length k4),(50,.int .i64 (a_1.Ac.length:Int)),(51,.int .i64 i2),(69,.bool b7)]∧SH w w' [Ch.box bb4 (qiU y5) 232,Ch.own S1 (x3:List Int) [.slice p5 x1.length x1.length],Ch.box bb2 (qaf a_1 p2 p3 p4 k2 k3 k4) 54]) ?_ ?_
  ·refine X1 5 0 h rfl (qe (t:=58) hF rfl ?_ ?_)<;>intro hF
   ·refine X1 8 0 h rfl (qe (t:=63) hF rfl ?_ ?_)<;>intro hF
    ·refine X0 7 rfl ?_
     obtain rfl:=qa hF
     exact rG ⟨_,hK3,rfl,h⟩ rfl
    refine X2 7 2 0 h rfl (zcB h hF (qdf (h.old ha2)) rfl fun r2 w13 h hF=>X0 4 rfl ?_)
    obtain rfl:=qa hF
    exact rG ⟨_,hK3,rfl,h⟩ rfl
   refine X2 12 2 0 h rfl (zcB h hF (qdf (h.old ha2)) rfl fun r3 w14 h hF=>X0 4 rfl ?_)
   obtain rfl:=qa hF
   exact rG ⟨_,hK3,rfl,h⟩ rfl
  rintro e3 w15 ⟨b7,hF,rfl,h⟩
  subst hKF1
  refine qf rfl hF ?_ ?_<;>intro hF
  ·refine X0 4 rfl ?_
   obtain rfl:=qa hF;replace hF:=hK2
   exact rb h hF rfl
  refine X1 7 0 h rfl (qf rfl hF ?_ ?_)<;>intro hF
  ·refine X1 4 0 h rfl ?_
   obtain ⟨y6,hy6,hF,he6,b8,_,q6,cs8,hp6,hq6,rfl,hc12⟩:=(h.sl 1 rfl).1.ix hF
   refine zx hp6 hq6 ⟨he6.1,qbO he6.2.1 (h.sl 1 rfl).2⟩ rfl (zc 0 hc12 rfl (zp1 rfl ?_))
   obtain ⟨y7,hy7,hF,he7,b9,_,q7,cs9,hp7,hq7,rfl,hc13⟩:=(h.sl 1 rfl).1.ix hF
   refine zx hp7 hq7 ⟨he7.1,qbO he7.2.1 (h.sl 1 rfl).2⟩ rfl (qeL qk 1 0 (W64 (y6+1)) h rfl hy7 hp7 hq7 rfl hc13 rfl rfl rfl rfl rfl rfl rfl fun w12 h=>X0 6 rfl ?_)
   replace h:=h.pick [1,2] rfl
   exact rK ⟨_,_,hF,rfl,h⟩ rfl
  refine X0 6 rfl ?_
  replace h:=h.pick [1,2] rfl
  exact rK ⟨_,_,hF,rfl,h⟩ rfl
 refine qn rfl ?_
 obtain rfl:=qa hF;replace hF:=hK2
 exact X0 3 rfl (zcB h hF (qcT (h.own 0 rfl)) rfl fun r4 w16 h hF=>X0 3 rfl (rb h hF rfl))
def qaq (i1:Int) (y1:qd):Nat→(List Tplace)→Int→Option ((List Tplace) × Int)
 | 0,_,_=>none
 | n+1,x2,i2 =>
  bif decide (i2<(y1.Ah.length:Int)) then
   (idx y1.Ah i2).bind fun y2 =>
   (appS x2 ([(⟨i1,i2,y2,(i2==(W64 ((y1.Ah.length:Int)-1)))⟩:Tplace)]:List Tplace)).bind fun x3 =>
   qaq i1 y1 n x3 (W64 (i2+1))
  else
   some (x2,i2)
def qar (d:qc):Nat→(List Tplace)→Int→Option ((List Tplace) × Int)
 | 0,_,_=>none
 | n+1,x4,i3 =>
  bif decide (i3<(d.Ac.length:Int)) then
   (idx d.Ac i3).bind fun y3 =>
   (appS x4 ([(⟨(-1),i3,y3.Bi,(y3.Bf==1)⟩:Tplace)]:List Tplace)).bind fun x5 =>
   qar d n x5 (W64 (i3+1))
  else
   some (x4,i3)
def qas (d:qc):Nat→(List Tplace)→Int→Option ((List Tplace) × Int)
 | 0,_,_=>none
 | n+1,x1,i1 =>
  bif decide (i1<(d.Aa.length:Int)) then
   (idx d.Aa i1).bind fun y1 =>
   (qaq i1 y1 n x1 0).bind fun o=>match o with
   | (x2,_) =>
    qas d n x2 (W64 (i1+1))
  else
   some (x1,i1)
def qcW (n:Nat) (d:qc):Option (List Tplace) :=
 (qas d n ([]:List Tplace) 0).bind fun o=>match o with
 | (x1,_) =>
  (qar d n x1 0).bind fun o=>match o with
  | (x4,_) =>
   some x4
theorem qgK {d:qc} (ha1:GoT.R w (old w) d cs1) {r:(List Tplace)} (hF:qcW n d=some r):RetV Tryz.prog 121 [GoT.v qc cs1] w r:=by
 obtain ⟨p1,k1,p2,k2,p3,k3,rfl,s1,s2,s3⟩:=qX ha1
 refine zV 61 Tryz.func121 rfl fun h=>zSR (qy h rfl rfl fun w1 bb1 h=>X1 14 0 h rfl ?_)
 replace h:=h.nil (α:=Tplace)
 obtain ⟨o1,hF,hK1⟩:=qi hF
 refine qj (rL (fun m e w'=>∃ (S1:Nat→Prop) (p4:Option Addr) (ln1:Nat) (k4:Nat) (x1:(List Tplace)) (i1:Int),qas d m x1 i1=some o1∧e=[(1,.pointer (some ⟨bb1,0,none⟩)),(3,.slice p4 ln1 k4),(11,.slice p1 d.Aa.length k1),(12,.int .i64 (d.Aa.length:Int)),(13,.int .i64 i1)]∧SH w w' [Ch.own S1 (x1:List Tplace) [.slice p4 ln1 k4],Ch.box bb1 (qaf d p1 p2 p3 k1 k2 k3) 54]) n ⟨_,_,_,_,_,_,hF,rfl,h⟩ rfl ?_)
 rintro m1 e1 w2 ⟨S1,p4,ln1,k4,x1,i1,hF,rfl,h⟩
 obtain rfl:=(h.sl 0 rfl).2
 rcases m1 with _|m1
 ·cases hF
 refine X0 5 rfl (qf rfl hF ?_ ?_)<;>intro hF
 ·refine X0 6 rfl ?_
  obtain ⟨y1,hy1,hF,he1,b1,_,q1,cs2,hp1,hq1,hr1,hc2⟩:=s1.ix hF
  obtain ⟨p5,k5,rfl,s4⟩:=qH hr1
  refine zxe hp1 hq1 he1 rfl (zc 0 (hc2.below h.below) rfl (qJ qk h rfl rfl rfl fun w3 bb2 h=>zp1 rfl (zs 0 h rfl fun w4 h=>X1 8 0 h rfl ?_)))
  obtain ⟨o2,hF,hK2⟩:=qi hF
  refine qj (rL (fun m e w'=>∃ (S2:Nat→Prop) (p6:Option Addr) (ln2:Nat) (k6:Nat) (x2:(List Tplace)) (i2:Int),qaq i1 y1 m x2 i2=some o2∧e=[(1,.pointer (some ⟨bb1,0,none⟩)),(3,.slice p6 ln2 k6),(4,.int .i64 i1),(5,.pointer (some ⟨bb2,0,none⟩)),(11,.slice p1 d.Aa.length k1),(12,.int .i64 (d.Aa.length:Int)),(13,.int .i64 i1),(19,.slice p5 y1.Ah.length k5),(20,.int .i64 (y1.Ah.length:Int)),(21,.int .i64 i2)]∧SH w w' [Ch.box bb2 (qeX y1 p5 k5) 217,Ch.own S2 (x2:List Tplace) [.slice p6 ln2 k6],Ch.box bb1 (qaf d p1 p2 p3 k1 k2 k3) 54]) m1 ⟨_,_,_,_,_,_,hF,rfl,h⟩ rfl ?_)
  rintro m2 e2 w5 ⟨S2,p6,ln2,k6,x2,i2,hF,rfl,h⟩
  obtain rfl:=(h.sl 1 rfl).2
  rcases m2 with _|m2
  ·cases hF
  refine X0 5 rfl (qf rfl hF ?_ ?_)<;>intro hF
  ·refine X0 6 rfl ?_
   obtain ⟨y2,hy2,hF,he2,b2,_,q2,cs3,hp2,hq2,rfl,hc4⟩:=s4.ix hF
   refine zxe hp2 hq2 he2 rfl (zc 0 (hc4.below h.below) rfl (X1 14 0 h rfl (r_v (qhi qk [0,1,2,3] [.tmp 27,.tmp 28,.tmp 29,.tmp 35] rfl rfl rfl rfl rfl rfl rfl rfl) rfl (qb0 qk [.tmp 36] _ ([(⟨i1,i2,y2,(i2==(W64 ((y1.Ah.length:Int)-1)))⟩:Tplace)]:List Tplace) h rfl rfl rfl rfl rfl rfl rfl rfl rfl ⟨(qjx (⟨i1,i2,y2,(i2==(W64 ((y1.Ah.length:Int)-1)))⟩:Tplace)),trivial⟩ rfl fun w6 p7 S3 h=>?_))))
   obtain ⟨x3,hx1,hF⟩:=qi hF
   obtain ⟨g1,hx1⟩:=qcb hx1
   refine qfM qk 2 h rfl (h.sl 0 rfl).1 (h.sl 0 rfl).2 rfl rfl rfl rfl rfl rfl rfl rfl rfl g1 hx1 rfl fun w7 p8 k7 S4 h=>X0 7 rfl ?_
   replace h:=h.pick [1,2,3] rfl
   exact rK ⟨_,_,_,_,_,_,hF,rfl,h⟩ rfl
  refine qn rfl ?_
  obtain rfl:=qa hF;replace hF:=hK2
  refine X0 5 rfl ?_
  replace h:=h.pick [1,2] rfl
  exact rK ⟨_,_,_,_,_,_,hF,rfl,h⟩ rfl
 refine qn rfl ?_
 obtain rfl:=qa hF;replace hF:=hK1
 refine X1 8 1 h rfl ?_
 obtain ⟨o3,hF,hK3⟩:=qi hF
 refine qj ?_
 replace h:=h.pick [0] rfl
 refine rL (fun m e w'=>∃ (S5:Nat→Prop) (p9:Option Addr) (ln3:Nat) (k8:Nat) (x4:(List Tplace)) (i3:Int),qar d m x4 i3=some o3∧e=[(3,.slice p9 ln3 k8),(42,.slice p3 d.Ac.length k3),(43,.int .i64 (d.Ac.length:Int)),(44,.int .i64 i3)]∧SH w w' [Ch.own S5 (x4:List Tplace) [.slice p9 ln3 k8]]) n ⟨_,_,_,_,_,_,hF,rfl,h⟩ rfl ?_
 rintro m3 e3 w8 ⟨S5,p9,ln3,k8,x4,i3,hF,rfl,h⟩
 obtain rfl:=(h.sl 0 rfl).2
 rcases m3 with _|m3
 ·cases hF
 refine X0 5 rfl (qf rfl hF ?_ ?_)<;>intro hF
 ·refine X0 6 rfl ?_
  obtain ⟨y3,hy3,hF,he3,b3,_,q3,cs4,hp3,hq3,hr3,hc6⟩:=s3.ix hF
  obtain rfl:=qae hr3
  refine zxe hp3 hq3 he3 rfl (zc 0 (hc6.below h.below) rfl (qJ qk h rfl rfl rfl fun w9 bb3 h=>zp1 rfl (zs 0 h rfl fun w10 h=>X2 9 0 0 h rfl (r_v (qhi qk [0,1,2,3] [.const (.int .i64 (-1)),.tmp 50,.tmp 52,.tmp 55] rfl rfl rfl rfl rfl rfl rfl rfl) rfl (qb0 qk [.tmp 56] _ ([(⟨(-1),i3,y3.Bi,(y3.Bf==1)⟩:Tplace)]:List Tplace) h rfl rfl rfl rfl rfl rfl rfl rfl rfl ⟨(qjx (⟨(-1),i3,y3.Bi,(y3.Bf==1)⟩:Tplace)),trivial⟩ rfl fun w11 p10 S6 h=>?_)))))
  obtain ⟨x5,hx2,hF⟩:=qi hF
  obtain ⟨g2,hx2⟩:=qcb hx2
  refine qfM qk 2 h rfl (h.sl 0 rfl).1 (h.sl 0 rfl).2 rfl rfl rfl rfl rfl rfl rfl rfl rfl g2 hx2 rfl fun w12 p11 k9 S7 h=>X0 7 rfl ?_
  replace h:=h.pick [2] rfl
  exact rK ⟨_,_,_,_,_,_,hF,rfl,h⟩ rfl
 refine qn rfl ?_
 obtain rfl:=qa hF;replace hF:=hK3
 refine X0 5 rfl ?_
 obtain rfl:=qa hF
 exact rO 0 h rfl ⟨rfl,trivial⟩
def qad (a_w:qz):Nat→Int→Option (Flow Bool Int)
 | 0,_=>none
 | n+1,i1 =>
  bif decide (i1<(a_w.Aj.length:Int)) then
   (idx a_w.Aj i1).bind fun y1 =>
   bif (i1==0) then
    bif (y1 != (-1)) then some (.ret false) else
    (idx a_w.Bj 0).bind fun y2 =>
    bif (y2 != 0) then some (.ret false) else
    bif decide (i1 > 0) then
     (qan n y1 0 (W64 (i1-1))).bind fun r1 =>
     bif (!r1) then some (.ret false) else
     qad a_w n (W64 (i1+1))
    else
     qad a_w n (W64 (i1+1))
   else
    bif decide (i1 > 0) then
     (qan n y1 0 (W64 (i1-1))).bind fun r2 =>
     bif (!r2) then some (.ret false) else
     qad a_w n (W64 (i1+1))
    else
     qad a_w n (W64 (i1+1))
  else
   some (.nxt i1)
def qdI (n:Nat) (a_w:qz):Option Bool :=
 (qad a_w n 0).bind fun o=>match o with
 | .ret r=>some r
 | .nxt _ =>
  some true
theorem qht {a_w:qz} (ha1:GoT.R w (old w) a_w cs1) {r:Bool} (hF:qdI n a_w=some r):RetV Tryz.prog 198 [GoT.v qz cs1] w r:=by
 obtain ⟨p1,k1,p2,k2,p3,k3,p4,k4,rfl,s1,s2,s3,s4⟩:=qaO ha1
 refine zV 38 Tryz.func198 rfl fun h=>zSR (qy h rfl rfl fun w1 bb1 h=>X1 10 0 h rfl ?_)
 obtain ⟨o1,hF,hK1⟩:=qi hF
 refine qj (rL (fun m e w'=>∃ (i1:Int),qad a_w m i1=some o1∧e=[(1,.pointer (some ⟨bb1,0,none⟩)),(6,.slice p1 a_w.Aj.length k1),(7,.int .i64 (a_w.Aj.length:Int)),(8,.int .i64 i1)]∧SH w w' [Ch.box bb1 (qgv a_w p1 p2 p3 p4 k1 k2 k3 k4) 170]) n ⟨_,hF,rfl,h⟩ rfl ?_)
 rintro m1 e1 w2 ⟨i1,hF,rfl,h⟩
 rcases m1 with _|m1
 ·cases hF
 refine X0 5 rfl (qf rfl hF ?_ ?_)<;>intro hF
 ·refine X0 6 rfl ?_
  obtain ⟨y1,hy1,hF,he1,b1,_,q1,cs2,hp1,hq1,rfl,hc2⟩:=s1.ix hF
  refine zxe hp1 hq1 he1 rfl (zc 0 (hc2.below h.below) rfl (X0 8 rfl (qe (t:=15) hF rfl ?_ ?_)))<;>intro hF
  ·refine X0 6 rfl (qe (t:=18) hF rfl ?_ ?_)<;>intro hF
   ·refine X0 20 rfl (qcv rfl rfl (X0 4 rfl ?_))
    obtain rfl:=qa hF;replace hF:=hK1
    exact rb h hF rfl
   refine X1 5 0 h rfl ?_
   obtain ⟨y2,hy2,hF,he2,b2,_,q2,cs3,hp2,hq2,rfl,hc3⟩:=s2.ix hF
   refine zxe hp2 hq2 he2 rfl (X0 1 rfl (zc 0 (hc3.below h.below) rfl (X0 6 rfl (qe (t:=26) hF rfl ?_ ?_))))<;>intro hF
   ·refine X0 11 rfl (qcv rfl rfl (X0 4 rfl ?_))
    obtain rfl:=qa hF;replace hF:=hK1
    exact rb h hF rfl
   refine X0 6 rfl (qe (t:=29) hF rfl ?_ ?_)<;>intro hF
   ·refine X0 7 rfl (zcB h hF qZ rfl fun r1 w3 h hF=>X0 6 rfl (qf rfl hF ?_ ?_))<;>intro hF
    ·refine X0 4 rfl ?_
     obtain rfl:=qa hF;replace hF:=hK1
     exact rb h hF rfl
    exact X0 6 rfl (rK ⟨_,hF,rfl,h⟩ rfl)
   exact X0 9 rfl (qcS rfl rfl (X0 6 rfl (rK ⟨_,hF,rfl,h⟩ rfl)))
  refine X0 17 rfl (qe (t:=29) hF rfl ?_ ?_)<;>intro hF
  ·refine X0 7 rfl (zcB h hF qZ rfl fun r2 w4 h hF=>X0 6 rfl (qf rfl hF ?_ ?_))<;>intro hF
   ·refine X0 4 rfl ?_
    obtain rfl:=qa hF;replace hF:=hK1
    exact rb h hF rfl
   exact X0 6 rfl (rK ⟨_,hF,rfl,h⟩ rfl)
  exact X0 9 rfl (qcS rfl rfl (X0 6 rfl (rK ⟨_,hF,rfl,h⟩ rfl)))
 refine qn rfl ?_
 obtain rfl:=qa hF;replace hF:=hK1
 exact X0 4 rfl (rb h hF rfl)
def qf1 (n:Nat) (a_w:qz) (sinks:Int):Option Bool :=
 (qaI n a_w.Aj).bind fun r1 =>
 (qan n r1 1 8).bind fun r2 =>
 bif r2 then
  (qaI n a_w.Bj).bind fun r3 =>
  bif (r3==r1) then
   (qaI n a_w.Bg).bind fun r4 =>
   bif (r4==r1) then
    (qdI n a_w).bind fun r5 =>
    bif r5 then
     (qaZ n a_w.Bj 0 1000).bind fun r6 =>
     bif r6 then
      (qaZ n a_w.Bg 0 500).bind fun r7 =>
      bif r7 then
       (qaI n a_w.Bd).bind fun r8 =>
       bif (r8==sinks) then
        (qaZ n a_w.Bd 0 (W64 (r1-1))).bind fun r9 =>
        some r9
       else
        some false
      else
       some false
     else
      some false
    else
     some false
   else
    some false
  else
   some false
 else
  some false
theorem qjy {a_w:qz} {sinks:Int} (ha1:GoT.R w (old w) a_w cs1) {r:Bool} (hF:qf1 n a_w sinks=some r):RetV Tryz.prog 122 [GoT.v qz cs1,.int .i64 sinks] w r:=by
 obtain ⟨p1,k1,p2,k2,p3,k3,p4,k4,rfl,s1,s2,s3,s4⟩:=qaO ha1
 refine zV 53 Tryz.func122 rfl fun h=>zSR (qy h rfl rfl fun w1 bb1 h=>X1 6 0 h rfl (zcI h hF (qbo ⟨_,_,rfl,(h.oldS s1)⟩) rfl fun r1 w2 h hF=>X0 5 rfl (zcB h hF qZ rfl fun r2 w3 h hF=>zp1 rfl (qe (t:=11) hF rfl ?_ ?_))))<;>intro hF
 ·refine X1 5 0 h rfl (zcI h hF (qbo ⟨_,_,rfl,(h.oldS s2)⟩) rfl fun r3 w4 h hF=>X0 6 rfl (qe (t:=18) hF rfl ?_ ?_))<;>intro hF
  ·refine X1 5 0 h rfl (zcI h hF (qbo ⟨_,_,rfl,(h.oldS s3)⟩) rfl fun r4 w5 h hF=>X0 6 rfl (qe (t:=25) hF rfl ?_ ?_))<;>intro hF
   ·refine X1 3 0 h rfl (zcB h hF (qht (h.old ha1)) rfl fun r5 w6 h hF=>zp2 rfl (qe (t:=29) hF rfl ?_ ?_))<;>intro hF
    ·refine X1 5 0 h rfl (zcB h hF (qby ⟨_,_,rfl,(h.oldS s2)⟩) rfl fun r6 w7 h hF=>zp2 rfl (qe (t:=34) hF rfl ?_ ?_))<;>intro hF
     ·refine X1 5 0 h rfl (zcB h hF (qby ⟨_,_,rfl,(h.oldS s3)⟩) rfl fun r7 w8 h hF=>zp2 rfl (qe (t:=39) hF rfl ?_ ?_))<;>intro hF
      ·refine X1 5 0 h rfl (zcI h hF (qbo ⟨_,_,rfl,(h.oldS s4)⟩) rfl fun r8 w9 h hF=>X0 6 rfl (qe (t:=46) hF rfl ?_ ?_))<;>intro hF
       ·exact X1 9 0 h rfl (zcB h hF (qby ⟨_,_,rfl,(h.oldS s4)⟩) rfl fun r9 w10 h hF=>X0 3 rfl (rb h hF rfl))
       exact X0 8 rfl (rb h hF rfl)
      exact X0 15 rfl (rb h hF rfl)
     exact X0 20 rfl (rb h hF rfl)
    exact X0 25 rfl (rb h hF rfl)
   exact X0 29 rfl (rb h hF rfl)
  exact X0 36 rfl (rb h hF rfl)
 exact X0 43 rfl (rb h hF rfl)
def qb5 (b:qq) (x2:(List Int)):Nat→Int→Option (Flow Bool Int)
 | 0,_=>none
 | n+1,i2 =>
  bif decide (i2<(b.At.length:Int)) then
   (idx b.At i2).bind fun y4 =>
   (idx x2 i2).bind fun y5 =>
   (qf1 n y4 y5).bind fun r2 =>
   bif (!r2) then some (.ret false) else
   qb5 b x2 n (W64 (i2+1))
  else
   some (.nxt i2)
def qa9 (r1:(List Tplace)):Nat→(List Int)→Int→Option ((List Int) × Int)
 | 0,_,_=>none
 | n+1,x2,i1 =>
  bif decide (i1<(r1.length:Int)) then
   (idx r1 i1).bind fun y1 =>
   bif (!y1.drives) then
    (idx x2 y1.net).bind fun y2 =>
    (idx x2 y1.net).bind fun _ =>
    qa9 r1 n (setS x2 y1.net (W64 (y2+1))) (W64 (i1+1))
   else
    qa9 r1 n x2 (W64 (i1+1))
  else
   some (x2,i1)
def qfh (n:Nat) (b:qq):Option Bool :=
 (
  (qeG n (⟨b.As.Ai⟩:qm) (⟨b.Ak.Aa,b.Ak.Ah,b.Ak.Ac⟩:qc)).bind fun r3 =>
  bif (!r3) then some true else
  some ((b.At.length:Int) != (b.Ak.Ah.length:Int))).bind fun b1 =>
 bif b1 then some false else
 (mkS (b.At.length:Int) (0:Int)).bind fun x1 =>
 (qcW n (⟨b.Ak.Aa,b.Ak.Ah,b.Ak.Ac⟩:qc)).bind fun r1 =>
 (qa9 r1 n x1 0).bind fun o=>match o with
 | (x2,_) =>
  (qb5 b x2 n 0).bind fun o=>match o with
  | .ret r=>some r
  | .nxt _ =>
   some true
theorem qiA {b:qq} (ha1:GoT.R w (old w) b cs1) {r:Bool} (hF:qfh n b=some r):RetV Tryz.prog 66 [GoT.v qq cs1] w r:=by
 obtain ⟨p1,k1,p2,k2,p3,k3,p4,k4,p5,k5,rfl,s1,s2,s3,s4,s5⟩:=qa7 ha1
 refine zV 63 Tryz.func66 rfl fun h=>zSR (qy h rfl rfl fun w1 bb1 h=>X0 4 rfl ?_)
 obtain ⟨KF1,hKF1,o3,hF,hK3⟩:=bindE hF
 refine qc3 (fun e w'=>∃ (b1:Bool),KF1 b1=some r∧e=[(1,.pointer (some ⟨bb1,0,none⟩)),(23,.bool b1)]∧SH w w' [Ch.box bb1 (qfR b p1 p2 p3 p4 p5 k1 k2 k3 k4 k5) 57]) ?_ ?_
 ·refine X2 5 0 0 h rfl (zcB h hF (qim (qdB _ (h.oldS s1)) (qci _ (h.oldS s2) (h.oldS s3) (h.oldS s4))) rfl fun r3 w12 h hF=>zp2 rfl (qe (t:=14) hF rfl ?_ ?_))<;>intro hF
  ·refine X0 10 rfl ?_
   obtain rfl:=qa hF
   exact rG ⟨_,hK3,rfl,h⟩ rfl
  refine X2 18 0 0 h rfl ?_
  obtain rfl:=qa hF
  exact rG ⟨_,hK3,rfl,h⟩ rfl
 rintro e3 w13 ⟨b1,hF,rfl,h⟩
 subst hKF1
 refine qf rfl hF ?_ ?_<;>intro hF
 ·exact X0 4 rfl (rb h hF rfl)
 refine X1 6 0 h rfl ?_
 obtain ⟨x1,hx1,hF⟩:=qi hF
 obtain ⟨g1,g2,hx1⟩:=qcj hx1
 refine qdF qk Int h rfl rfl rfl rfl rfl rfl rfl rfl rfl g1 g2 hx1 rfl fun w2 S1 p6 h=>X1 7 1 h rfl (zcL h hF (qgK (qci _ (h.oldS s2) (h.oldS s3) (h.oldS s4))) rfl fun r1 w3 S2 p7 k6 h hF=>X0 3 rfl ?_)
 obtain ⟨o1,hF,hK1⟩:=qi hF
 refine qj (rL (fun m e w'=>∃ (x2:(List Int)) (i1:Int),qa9 r1 m x2 i1=some o1∧e=[(1,.pointer (some ⟨bb1,0,none⟩)),(3,.slice p6 x1.length x1.length),(30,.slice p7 r1.length k6),(31,.int .i64 (r1.length:Int)),(32,.int .i64 i1)]∧SH w w' [Ch.own S2 (r1:List Tplace) [.slice p7 r1.length k6],Ch.own S1 (x2:List Int) [.slice p6 x1.length x1.length],Ch.box bb1 (qfR b p1 p2 p3 p4 p5 k1 k2 k3 k4 k5) 57]) n ⟨_,_,hF,rfl,h⟩ rfl ?_)
 rintro m1 e1 w4 ⟨x2,i1,hF,rfl,h⟩
 rcases m1 with _|m1
 ·cases hF
 refine X0 5 rfl (qf rfl hF ?_ ?_)<;>intro hF
 ·refine zKSBSR ?_
  obtain ⟨y1,hy1,hF,he1,b2,_,q1,cs2,hp1,hq1,hr2,hc3⟩:=(h.sl 0 rfl).1.ix hF
  obtain rfl:=qkx hr2
  refine zx hp1 hq1 ⟨he1.1,qbO he1.2.1 (h.sl 0 rfl).2⟩ rfl (zc 0 hc3 rfl (qJ qk h rfl rfl rfl fun w5 bb2 h=>zs 0 h rfl fun w6 h=>X1 7 0 h rfl (qf rfl hF ?_ ?_)))<;>intro hF
  ·refine X1 4 0 h rfl ?_
   obtain ⟨y2,hy2,hF,he2,b3,_,q2,cs3,hp2,hq2,rfl,hc5⟩:=(h.sl 2 rfl).1.ix hF
   refine zx hp2 hq2 ⟨he2.1,qbO he2.2.1 (h.sl 2 rfl).2⟩ rfl (zc 0 hc5 rfl (zp1 rfl ?_))
   obtain ⟨y3,hy3,hF,he3,b4,_,q3,cs4,hp3,hq3,rfl,hc6⟩:=(h.sl 2 rfl).1.ix hF
   refine zx hp3 hq3 ⟨he3.1,qbO he3.2.1 (h.sl 2 rfl).2⟩ rfl (qeL qk 2 0 (W64 (y2+1)) h rfl hy3 hp3 hq3 rfl hc6 rfl rfl rfl rfl rfl rfl rfl fun w7 h=>X0 6 rfl ?_)
   replace h:=h.pick [1,2,3] rfl
   exact rK ⟨_,_,hF,rfl,h⟩ rfl
  refine X0 6 rfl ?_
  replace h:=h.pick [1,2,3] rfl
  exact rK ⟨_,_,hF,rfl,h⟩ rfl
 refine qn rfl ?_
 obtain rfl:=qa hF;replace hF:=hK1
 refine X1 8 2 h rfl ?_
 obtain ⟨o2,hF,hK2⟩:=qi hF
 refine qj ?_
 replace h:=h.pick [1] rfl
 refine rL (fun m e w'=>∃ (i2:Int),qb5 b x2 m i2=some o2∧e=[(3,.slice p6 x1.length x1.length),(48,.slice p5 b.At.length k5),(49,.int .i64 (b.At.length:Int)),(50,.int .i64 i2)]∧SH w w' [Ch.own S1 (x2:List Int) [.slice p6 x1.length x1.length]]) n ⟨_,hF,rfl,h⟩ rfl ?_
 rintro m2 e2 w8 ⟨i2,hF,rfl,h⟩
 rcases m2 with _|m2
 ·cases hF
 refine X0 5 rfl (qf rfl hF ?_ ?_)<;>intro hF
 ·refine X0 6 rfl ?_
  obtain ⟨y4,hy4,hF,he4,b5,_,q4,cs5,hp4,hq4,hr5,hc8⟩:=s5.ix hF
  obtain ⟨p8,k7,p9,k8,p10,k9,p11,k10,rfl,s6,s7,s8,s9⟩:=qaO hr5
  refine zxe hp4 hq4 he4 rfl (zc 0 (hc8.below h.below) rfl (qJ qk h rfl rfl rfl fun w9 bb3 h=>zp1 rfl (zs 0 h rfl fun w10 h=>zNS (rD (Y1 1 0 h rfl ?_)))))
  refine zd2 rfl ?_
  obtain ⟨y5,hy5,hF,he5,b6,_,q5,cs6,hp5,hq5,rfl,hc9⟩:=(h.sl 1 rfl).1.ix hF
  refine zdx hp5 hq5 ⟨he5.1,qbO he5.2.1 (h.sl 1 rfl).2⟩ rfl (zdc 0 hc9 rfl ?_)
  obtain ⟨r2,hr7,hF⟩:=qi hF
  refine qbA r2 (vsB _) (cB 122 rfl) (fun _ hb=>qjy (qfv y4 ((h.ext hb).oldS s6) ((h.ext hb).oldS s7) ((h.ext hb).oldS s8) ((h.ext hb).oldS s9)) hr7) rfl rfl rfl rfl (zd1 rfl (dN h fun w11 h=>qf rfl hF ?_ ?_))<;>intro hF
  ·refine X0 4 rfl ?_
   obtain rfl:=qa hF;replace hF:=hK2
   exact rb h hF rfl
  refine X0 6 rfl ?_
  replace h:=h.pick [1] rfl
  exact rK ⟨_,hF,rfl,h⟩ rfl
 refine qn rfl ?_
 obtain rfl:=qa hF;replace hF:=hK2
 exact X0 4 rfl (rb h hF rfl)
end Go.Fw


namespace Go.Fw
open Go
def qbE (a:(List Int)):Nat:=a.length
theorem qcn {a:(List Int)} (h:(rngL rngI) a) (w:qbE a≤1048576):(okL okI) a :=
 ⟨by simp only [qbE] at w;omega,fun x hx=>h.2 x hx⟩
def qd4 (x:qb):Prop:=(rngL rngI) x.Ay∧(rngL rngI) x.Aq∧(rngL rngI) x.Ab
def qcV (x:qb):Nat:=qbE x.Ay+qbE x.Aq+qbE x.Ab
structure qcD (x:qb):Prop where
 Ay:(okL okI) x.Ay
 Aq:(okL okI) x.Aq
 Ab:(okL okI) x.Ab
theorem qlz {x:qb} (h:qd4 x) (w:qcV x≤1048576):qcD x:=⟨qcn (h.1) (by simp only [qcV] at w;omega),qcn (h.2.1) (by simp only [qcV] at w;omega),qcn (h.2.2) (by simp only [qcV] at w;omega)⟩
def qc7 (a:(List qb)):Nat:=a.length+(a.map fun x=>qcV x).sum
theorem qiv {a:(List qb)} (h:(rngL qd4) a) (w:qc7 a≤1048576):(okL qcD) a :=
 ⟨by simp only [qc7] at w;omega,fun x hx=>qlz (h.2 x hx) (by have:=qb3 (wt:=fun x:qb=>qcV x) hx;simp only [qc7] at w;omega)⟩
def qgs (x:qE):Prop:=rngI x.Ar∧rngI x.Ba∧rngI x.To∧rngI x.Bc∧(rngL qd4) x.Au∧(rngL qd4) x.Bb
def qf4 (x:qE):Nat:=qc7 x.Au+qc7 x.Bb
structure qgD (x:qE):Prop where
 Ar:okI x.Ar
 Ba:okI x.Ba
 To:okI x.To
 Bc:okI x.Bc
 Au:(okL qcD) x.Au
 Bb:(okL qcD) x.Bb
theorem qng {x:qE} (h:qgs x) (w:qf4 x≤1048576):qgD x:=⟨h.1,h.2.1,h.2.2.1,h.2.2.2.1,qiv (h.2.2.2.2.1) (by simp only [qf4] at w;omega),qiv (h.2.2.2.2.2) (by simp only [qf4] at w;omega)⟩
theorem qdt {a:(List Int)} (h:qbE a≤1048576):Ev (fun n=>qaB n a a) true:=by
 have hl:a.length≤1048576:=by simp only [qbE] at h;omega
 unfold qaB
 exact Ev.ff (by simp) (Ev.bind (b:=.nxt (a.length:Int)) (qfb (eqf:=fun _ x y=>some (!(x != y))) (fun x _=>Ev.now (by simp))
  (fun n=>by simp only [qcI,qg (je _),cond_false])
  (fun n j x hx=>by
   have hj:=(List.getElem?_eq_some_iff.1 hx).1
   simp only [qcI,qh hj,cond_true,qV hx,jd,Bool.not_not,wS j])) .done)
theorem qmt {a:qb} (h:qcV a≤1048576):Ev (fun n=>qef n a a) true:=by
 unfold qef
 simp only [qcV] at h
 exact Ev.bind (qdt (a:=a.Ay) (by omega)) (Ev.ff rfl (Ev.bind (qdt (a:=a.Aq) (by omega)) (Ev.ff rfl (Ev.bind (qdt (a:=a.Ab) (by omega)) (Ev.ff rfl (.done))))))
theorem qjS {a:(List qb)} (h:qc7 a≤1048576):Ev (fun n=>qdP n a a) true:=by
 have hl:a.length≤1048576:=by simp only [qc7] at h;omega
 unfold qdP
 exact Ev.ff (by simp) (Ev.bind (b:=.nxt (a.length:Int)) (qfb (eqf:=qef) (fun x hx=>qmt (by have:=qb3 (wt:=fun x:qb=>qcV x) hx;simp only [qc7] at h;omega))
  (fun n=>by simp only [qcM,qg (je _),cond_false])
  (fun n j x hx=>by
   have hj:=(List.getElem?_eq_some_iff.1 hx).1
   simp only [qcM,qh hj,cond_true,qV hx,jd,wS j])) .done)
theorem qoa {a:qE} (h:qf4 a≤1048576):Ev (fun n=>qfO n a a) true:=by
 unfold qfO
 simp only [qf4] at h
 exact Ev.ff qa8 (Ev.ff qa8 (Ev.ff qa8 (Ev.ff qa8 (Ev.bind (qjS (a:=a.Au) (by omega)) (Ev.ff rfl (Ev.bind (qjS (a:=a.Bb) (by omega)) (Ev.ff rfl (.done))))))))
def qfK (a:(List qE)):Nat:=a.length+(a.map fun x=>qf4 x).sum
theorem qlT {a:(List qE)} (h:(rngL qgs) a) (w:qfK a≤1048576):(okL qgD) a :=
 ⟨by simp only [qfK] at w;omega,fun x hx=>qng (h.2 x hx) (by have:=qb3 (wt:=fun x:qE=>qf4 x) hx;simp only [qfK] at w;omega)⟩
theorem qnF {a:(List qE)} (h:qfK a≤1048576):Ev (fun n=>qf8 n a a) true:=by
 have hl:a.length≤1048576:=by simp only [qfK] at h;omega
 unfold qf8
 exact Ev.ff (by simp) (Ev.bind (b:=.nxt (a.length:Int)) (qfb (eqf:=qfO) (fun x hx=>qoa (by have:=qb3 (wt:=fun x:qE=>qf4 x) hx;simp only [qfK] at h;omega))
  (fun n=>by simp only [qdm,qg (je _),cond_false])
  (fun n j x hx=>by
   have hj:=(List.getElem?_eq_some_iff.1 hx).1
   simp only [qdm,qh hj,cond_true,qV hx,jd,wS j])) .done)
def qgu (x:qI):Prop:=rngS x.Ap∧rngI x.Bf∧rngI x.Bg∧rngB x.Av
def qg2 (x:qI):Nat:=x.Ap.size
structure qg3 (x:qI):Prop where
 Ap:okS x.Ap
 Bf:okI x.Bf
 Bg:okI x.Bg
 Av:okT x.Av
theorem qmB {x:qI} (h:qgu x) (w:qg2 x≤1048576):qg3 x:=⟨(by unfold okS;simp only [qg2] at w;omega),h.2.1,h.2.2.1,trivial⟩
def qfD (a:(List qI)):Nat:=a.length+(a.map fun x=>qg2 x).sum
theorem qmp {a:(List qI)} (h:(rngL qgu) a) (w:qfD a≤1048576):(okL qg3) a :=
 ⟨by simp only [qfD] at w;omega,fun x hx=>qmB (h.2 x hx) (by have:=qb3 (wt:=fun x:qI=>qg2 x) hx;simp only [qfD] at w;omega)⟩
def qfE (x:ql):Prop:=rngS x.Ap∧rngI x.Ar∧(rngL qgu) x.Am∧(rngL qgs) x.Af∧(rngL rngI) x.Az∧rngI x.Bo∧rngI x.Be
def qdK (x:ql):Nat:=x.Ap.size+qfD x.Am+qfK x.Af+qbE x.Az
structure qhf (x:ql):Prop where
 Ap:okS x.Ap
 Ar:okI x.Ar
 Am:(okL qg3) x.Am
 Af:(okL qgD) x.Af
 Az:(okL okI) x.Az
 Bo:okI x.Bo
 Be:okI x.Be
theorem ql8 {x:ql} (h:qfE x) (w:qdK x≤1048576):qhf x:=⟨(by unfold okS;simp only [qdK] at w;omega),h.2.1,qmp (h.2.2.1) (by simp only [qdK] at w;omega),qlT (h.2.2.2.1) (by simp only [qdK] at w;omega),qcn (h.2.2.2.2.1) (by simp only [qdK] at w;omega),h.2.2.2.2.2.1,h.2.2.2.2.2.2⟩
def qep (a:(List ql)):Nat:=a.length+(a.map fun x=>qdK x).sum
theorem qk6 {a:(List ql)} (h:(rngL qfE) a) (w:qep a≤1048576):(okL qhf) a :=
 ⟨by simp only [qep] at w;omega,fun x hx=>ql8 (h.2 x hx) (by have:=qb3 (wt:=fun x:ql=>qdK x) hx;simp only [qep] at w;omega)⟩
def qf5 (x:qm):Prop:=(rngL qfE) x.Ai
def qdG (x:qm):Nat:=qep x.Ai
structure qd0 (x:qm):Prop where
 Ai:(okL qhf) x.Ai
theorem qks {x:qm} (h:qf5 x) (w:qdG x≤1048576):qd0 x:=⟨qk6 (h) (by simp only [qdG] at w;omega)⟩
def qcO (x:qd):Prop:=rngS x.Ap∧rngI x.Bh∧(rngL rngI) x.Ah
def qaY (x:qd):Nat:=x.Ap.size+qbE x.Ah
structure qgU (x:qd):Prop where
 Ap:okS x.Ap
 Bh:okI x.Bh
 Ah:(okL okI) x.Ah
theorem qjP {x:qd} (h:qcO x) (w:qaY x≤1048576):qgU x:=⟨(by unfold okS;simp only [qaY] at w;omega),h.2.1,qcn (h.2.2) (by simp only [qaY] at w;omega)⟩
def qbs (a:(List qd)):Nat:=a.length+(a.map fun x=>qaY x).sum
theorem qja {a:(List qd)} (h:(rngL qcO) a) (w:qbs a≤1048576):(okL qgU) a :=
 ⟨by simp only [qbs] at w;omega,fun x hx=>qjP (h.2 x hx) (by have:=qb3 (wt:=fun x:qd=>qaY x) hx;simp only [qbs] at w;omega)⟩
def qdE (a:(List ByteArray)):Nat:=a.length+(a.map fun x=>x.size).sum
theorem qkr {a:(List ByteArray)} (_:(rngL rngS) a) (w:qdE a≤1048576):(okL okS) a :=
 ⟨by simp only [qdE] at w;omega,fun x hx=>(by unfold okS;have:=qb3 (wt:=fun x:ByteArray=>x.size) hx;simp only [qdE] at w;omega)⟩
def qfJ (x:qF):Prop:=rngS x.Ap∧rngI x.Bf∧rngI x.Bi
def qfN (x:qF):Nat:=x.Ap.size
structure qkn (x:qF):Prop where
 Ap:okS x.Ap
 Bf:okI x.Bf
 Bi:okI x.Bi
theorem qlP {x:qF} (h:qfJ x) (w:qfN x≤1048576):qkn x:=⟨(by unfold okS;simp only [qfN] at w;omega),h.2.1,h.2.2⟩
def qes (a:(List qF)):Nat:=a.length+(a.map fun x=>qfN x).sum
theorem qk3 {a:(List qF)} (h:(rngL qfJ) a) (w:qes a≤1048576):(okL qkn) a :=
 ⟨by simp only [qes] at w;omega,fun x hx=>qlP (h.2 x hx) (by have:=qb3 (wt:=fun x:qF=>qfN x) hx;simp only [qes] at w;omega)⟩
def qgy (x:qc):Prop:=(rngL qcO) x.Aa∧(rngL rngS) x.Ah∧(rngL qfJ) x.Ac
def qdl (x:qc):Nat:=qbs x.Aa+qdE x.Ah+qes x.Ac
structure qfw (x:qc):Prop where
 Aa:(okL qgU) x.Aa
 Ah:(okL okS) x.Ah
 Ac:(okL qkn) x.Ac
theorem qkw {x:qc} (h:qgy x) (w:qdl x≤1048576):qfw x:=⟨qja (h.1) (by simp only [qdl] at w;omega),qkr (h.2.1) (by simp only [qdl] at w;omega),qk3 (h.2.2) (by simp only [qdl] at w;omega)⟩
def qfC (x:qz):Prop:=(rngL rngI) x.Aj∧(rngL rngI) x.Bj∧(rngL rngI) x.Bg∧(rngL rngI) x.Bd
def qdM (x:qz):Nat:=qbE x.Aj+qbE x.Bj+qbE x.Bg+qbE x.Bd
structure qhU (x:qz):Prop where
 Aj:(okL okI) x.Aj
 Bj:(okL okI) x.Bj
 Bg:(okL okI) x.Bg
 Bd:(okL okI) x.Bd
theorem qmb {x:qz} (h:qfC x) (w:qdM x≤1048576):qhU x:=⟨qcn (h.1) (by simp only [qdM] at w;omega),qcn (h.2.1) (by simp only [qdM] at w;omega),qcn (h.2.2.1) (by simp only [qdM] at w;omega),qcn (h.2.2.2) (by simp only [qdM] at w;omega)⟩
def qer (a:(List qz)):Nat:=a.length+(a.map fun x=>qdM x).sum
theorem qlj {a:(List qz)} (h:(rngL qfC) a) (w:qer a≤1048576):(okL qhU) a :=
 ⟨by simp only [qer] at w;omega,fun x hx=>qmb (h.2 x hx) (by have:=qb3 (wt:=fun x:qz=>qdM x) hx;simp only [qer] at w;omega)⟩
def qhg (x:qq):Prop:=qf5 x.As∧qgy x.Ak∧(rngL qfC) x.At
def qem (x:qq):Nat:=qdG x.As+qdl x.Ak+qer x.At
structure qgm (x:qq):Prop where
 As:qd0 x.As
 Ak:qfw x.Ak
 At:(okL qhU) x.At
theorem qlx {x:qq} (h:qhg x) (w:qem x≤1048576):qgm x:=⟨qks (h.1) (by simp only [qem] at w;omega),qkw (h.2.1) (by simp only [qem] at w;omega),qlj (h.2.2) (by simp only [qem] at w;omega)⟩
theorem qom {a:qI} (_:qg2 a≤1048576):Ev (fun n=>qfy n a a) true:=by
 unfold qfy
 exact Ev.ff qfg (Ev.ff qa8 (Ev.ff qa8 (Ev.ff qku (.done))))
theorem qnK {a:(List qI)} (h:qfD a≤1048576):Ev (fun n=>qf2 n a a) true:=by
 have hl:a.length≤1048576:=by simp only [qfD] at h;omega
 unfold qf2
 exact Ev.ff (by simp) (Ev.bind (b:=.nxt (a.length:Int)) (qfb (eqf:=qfy) (fun x hx=>qom (by have:=qb3 (wt:=fun x:qI=>qg2 x) hx;simp only [qfD] at h;omega))
  (fun n=>by simp only [qdp,qg (je _),cond_false])
  (fun n j x hx=>by
   have hj:=(List.getElem?_eq_some_iff.1 hx).1
   simp only [qdp,qh hj,cond_true,qV hx,jd,wS j])) .done)
theorem qnq {a:ql} (h:qdK a≤1048576):Ev (fun n=>qeR n a a) true:=by
 unfold qeR
 simp only [qdK] at h
 exact Ev.ff qfg (Ev.ff qa8 (Ev.bind (qnK (a:=a.Am) (by omega)) (Ev.ff rfl (Ev.bind (qnF (a:=a.Af) (by omega)) (Ev.ff rfl (Ev.bind (qdt (a:=a.Az) (by omega)) (Ev.ff rfl (Ev.ff qa8 (Ev.ff qa8 (.done))))))))))
theorem qmY {a:(List ql)} (h:qep a≤1048576):Ev (fun n=>qff n a a) true:=by
 have hl:a.length≤1048576:=by simp only [qep] at h;omega
 unfold qff
 exact Ev.ff (by simp) (Ev.bind (b:=.nxt (a.length:Int)) (qfb (eqf:=qeR) (fun x hx=>qnq (by have:=qb3 (wt:=fun x:ql=>qdK x) hx;simp only [qep] at h;omega))
  (fun n=>by simp only [qc1,qg (je _),cond_false])
  (fun n j x hx=>by
   have hj:=(List.getElem?_eq_some_iff.1 hx).1
   simp only [qc1,qh hj,cond_true,qV hx,jd,wS j])) .done)
theorem qlm {a:qm} (h:qdG a≤1048576):Ev (fun n=>qeh n a a) true:=by
 unfold qeh
 simp only [qdG] at h
 exact Ev.bind (qmY (a:=a.Ai) (by omega)) (Ev.ff rfl (.done))
theorem qk2 {a:qd} (h:qaY a≤1048576):Ev (fun n=>qc4 n a a) true:=by
 unfold qc4
 simp only [qaY] at h
 exact Ev.ff qfg (Ev.ff qa8 (Ev.bind (qdt (a:=a.Ah) (by omega)) (Ev.ff rfl (.done))))
theorem qkp {a:(List qd)} (h:qbs a≤1048576):Ev (fun n=>qdC n a a) true:=by
 have hl:a.length≤1048576:=by simp only [qbs] at h;omega
 unfold qdC
 exact Ev.ff (by simp) (Ev.bind (b:=.nxt (a.length:Int)) (qfb (eqf:=qc4) (fun x hx=>qk2 (by have:=qb3 (wt:=fun x:qd=>qaY x) hx;simp only [qbs] at h;omega))
  (fun n=>by simp only [qbG,qg (je _),cond_false])
  (fun n j x hx=>by
   have hj:=(List.getElem?_eq_some_iff.1 hx).1
   simp only [qbG,qh hj,cond_true,qV hx,jd,wS j])) .done)
theorem qlC {a:(List ByteArray)} (h:qdE a≤1048576):Ev (fun n=>qew n a a) true:=by
 have hl:a.length≤1048576:=by simp only [qdE] at h;omega
 unfold qew
 exact Ev.ff (by simp) (Ev.bind (b:=.nxt (a.length:Int)) (qfb (eqf:=fun _ x y=>some (!(x.toList != y.toList))) (fun x _=>Ev.now (by simp))
  (fun n=>by simp only [qcl,qg (je _),cond_false])
  (fun n j x hx=>by
   have hj:=(List.getElem?_eq_some_iff.1 hx).1
   simp only [qcl,qh hj,cond_true,qV hx,jd,Bool.not_not,wS j])) .done)
theorem qnn {a:qF} (_:qfN a≤1048576):Ev (fun n=>qeP n a a) true:=by
 unfold qeP
 exact Ev.ff qfg (Ev.ff qa8 (Ev.ff qa8 (.done)))
theorem qmz {a:(List qF)} (h:qes a≤1048576):Ev (fun n=>qfq n a a) true:=by
 have hl:a.length≤1048576:=by simp only [qes] at h;omega
 unfold qfq
 exact Ev.ff (by simp) (Ev.bind (b:=.nxt (a.length:Int)) (qfb (eqf:=qeP) (fun x hx=>qnn (by have:=qb3 (wt:=fun x:qF=>qfN x) hx;simp only [qes] at h;omega))
  (fun n=>by simp only [qc2,qg (je _),cond_false])
  (fun n j x hx=>by
   have hj:=(List.getElem?_eq_some_iff.1 hx).1
   simp only [qc2,qh hj,cond_true,qV hx,jd,wS j])) .done)
theorem qlR {a:qc} (h:qdl a≤1048576):Ev (fun n=>qeN n a a) true:=by
 unfold qeN
 simp only [qdl] at h
 exact Ev.bind (qkp (a:=a.Aa) (by omega)) (Ev.ff rfl (Ev.bind (qlC (a:=a.Ah) (by omega)) (Ev.ff rfl (Ev.bind (qmz (a:=a.Ac) (by omega)) (Ev.ff rfl (.done))))))
theorem qnl {a:qz} (h:qdM a≤1048576):Ev (fun n=>qe4 n a a) true:=by
 unfold qe4
 simp only [qdM] at h
 exact Ev.bind (qdt (a:=a.Aj) (by omega)) (Ev.ff rfl (Ev.bind (qdt (a:=a.Bj) (by omega)) (Ev.ff rfl (Ev.bind (qdt (a:=a.Bg) (by omega)) (Ev.ff rfl (Ev.bind (qdt (a:=a.Bd) (by omega)) (Ev.ff rfl (.done))))))))
theorem qms {a:(List qz)} (h:qer a≤1048576):Ev (fun n=>qfj n a a) true:=by
 have hl:a.length≤1048576:=by simp only [qer] at h;omega
 unfold qfj
 exact Ev.ff (by simp) (Ev.bind (b:=.nxt (a.length:Int)) (qfb (eqf:=qe4) (fun x hx=>qnl (by have:=qb3 (wt:=fun x:qz=>qdM x) hx;simp only [qer] at h;omega))
  (fun n=>by simp only [qcX,qg (je _),cond_false])
  (fun n j x hx=>by
   have hj:=(List.getElem?_eq_some_iff.1 hx).1
   simp only [qcX,qh hj,cond_true,qV hx,jd,wS j])) .done)
theorem qmT {a:qq} (h:qem a≤1048576):Ev (fun n=>qfd n a a) true:=by
 unfold qfd
 simp only [qem] at h
 exact Ev.bind (qlm (a:=a.As) (by omega)) (Ev.ff rfl (Ev.bind (qlR (a:=a.Ak) (by omega)) (Ev.ff rfl (Ev.bind (qms (a:=a.At) (by omega)) (Ev.ff rfl (.done))))))
theorem qdu {a:(List Int)} {left:Int} (h:(rngL rngI) a) (h0:0≤left) (h1:left≤1048576):Sz (fun n=>qaL n a left) (fun r=>r=left-(qbE a:Int)) :=
 Sz.less h0 h1 (by omega) (by have:=h.1;omega) (fun _=>rfl)
theorem qmR {a:qb} {left:Int} (h:qd4 a) (h0:0≤left) (h1:left≤1048576):Sz (fun n=>qeq n a left) (fun r=>r=left-(qcV a:Int)):=by
 unfold qeq
 obtain ⟨h_0,h_1,h_2⟩:=h
 exact Sz.step (qdu (a:=a.Ay) h_0 (by omega) (by omega)) fun r0 p0 q0=>Sz.step (qdu (a:=a.Aq) h_1 (by omega) (by omega)) fun r1 p1 q1=>Sz.step (qdu (a:=a.Ab) h_2 (by omega) (by omega)) fun r2 p2 q2=>Sz.done p2 (by simp only [qcV];omega)
theorem qka {a:(List qb)} {left:Int} (h:(rngL qd4) a) (h0:0≤left) (h1:left≤1048576):Sz (fun n=>qeD n a left) (fun r=>r=left-(qc7 a:Int)) :=
 Sz.list (Lf:=qbX a) (wt:=fun x:qb=>qcV x) (el:=qeq) h0 h1 h.1 (fun x hx left p q=>qmR (h.2 x hx) p q)
  (fun acc n=>by simp only [qbX,qg (je _),cond_false])
  (fun acc n j x hx=>by
   have hj:=(List.getElem?_eq_some_iff.1 hx).1
   have hl:=h.1
   simp only [qbX,qh hj,cond_true,qV hx,jd,wS j])
  (fun _=>rfl)
theorem qn7 {a:qE} {left:Int} (h:qgs a) (h0:0≤left) (h1:left≤1048576):Sz (fun n=>qfQ n a left) (fun r=>r=left-(qf4 a:Int)):=by
 unfold qfQ
 obtain ⟨h_0,h_1,h_2,h_3,h_4,h_5⟩:=h
 exact Sz.step (qka (a:=a.Au) h_4 (by omega) (by omega)) fun r0 p0 q0=>Sz.step (qka (a:=a.Bb) h_5 (by omega) (by omega)) fun r1 p1 q1=>Sz.done p1 (by simp only [qf4];omega)
theorem qnj {a:(List qE)} {left:Int} (h:(rngL qgs) a) (h0:0≤left) (h1:left≤1048576):Sz (fun n=>qg5 n a left) (fun r=>r=left-(qfK a:Int)) :=
 Sz.list (Lf:=qcz a) (wt:=fun x:qE=>qf4 x) (el:=qfQ) h0 h1 h.1 (fun x hx left p q=>qn7 (h.2 x hx) p q)
  (fun acc n=>by simp only [qcz,qg (je _),cond_false])
  (fun acc n j x hx=>by
   have hj:=(List.getElem?_eq_some_iff.1 hx).1
   have hl:=h.1
   simp only [qcz,qh hj,cond_true,qV hx,jd,wS j])
  (fun _=>rfl)
theorem qn5 {a:qI} {left:Int} (h:qgu a) (h0:0≤left) (h1:left≤1048576):Sz (fun n=>qfA n a left) (fun r=>r=left-(qg2 a:Int)):=by
 unfold qfA
 obtain ⟨h_0,h_1,h_2,h_3⟩:=h
 exact Sz.strStep h_0 (by omega) (by omega) fun p0 q0=>Sz.done p0 (by simp only [qg2];omega)
theorem qns {a:(List qI)} {left:Int} (h:(rngL qgu) a) (h0:0≤left) (h1:left≤1048576):Sz (fun n=>qha n a left) (fun r=>r=left-(qfD a:Int)) :=
 Sz.list (Lf:=qcJ a) (wt:=fun x:qI=>qg2 x) (el:=qfA) h0 h1 h.1 (fun x hx left p q=>qn5 (h.2 x hx) p q)
  (fun acc n=>by simp only [qcJ,qg (je _),cond_false])
  (fun acc n j x hx=>by
   have hj:=(List.getElem?_eq_some_iff.1 hx).1
   have hl:=h.1
   simp only [qcJ,qh hj,cond_true,qV hx,jd,wS j])
  (fun _=>rfl)
theorem qnN {a:ql} {left:Int} (h:qfE a) (h0:0≤left) (h1:left≤1048576):Sz (fun n=>qeY n a left) (fun r=>r=left-(qdK a:Int)):=by
 unfold qeY
 obtain ⟨h_0,h_1,h_2,h_3,h_4,h_5,h_6⟩:=h
 exact Sz.strStep h_0 (by omega) (by omega) fun p0 q0=>Sz.step (qns (a:=a.Am) h_2 (by omega) (by omega)) fun r1 p1 q1=>Sz.step (qnj (a:=a.Af) h_3 (by omega) (by omega)) fun r2 p2 q2=>Sz.step (qdu (a:=a.Az) h_4 (by omega) (by omega)) fun r3 p3 q3=>Sz.done p3 (by simp only [qdK];omega)
theorem qmN {a:(List ql)} {left:Int} (h:(rngL qfE) a) (h0:0≤left) (h1:left≤1048576):Sz (fun n=>qgt n a left) (fun r=>r=left-(qep a:Int)) :=
 Sz.list (Lf:=qcc a) (wt:=fun x:ql=>qdK x) (el:=qeY) h0 h1 h.1 (fun x hx left p q=>qnN (h.2 x hx) p q)
  (fun acc n=>by simp only [qcc,qg (je _),cond_false])
  (fun acc n j x hx=>by
   have hj:=(List.getElem?_eq_some_iff.1 hx).1
   have hl:=h.1
   simp only [qcc,qh hj,cond_true,qV hx,jd,wS j])
  (fun _=>rfl)
theorem qlE {a:qm} {left:Int} (h:qf5 a) (h0:0≤left) (h1:left≤1048576):Sz (fun n=>qel n a left) (fun r=>r=left-(qdG a:Int)):=by
 unfold qel
 have h_0:=h
 exact Sz.step (qmN (a:=a.Ai) h_0 (by omega) (by omega)) fun r0 p0 q0=>Sz.done p0 (by simp only [qdG];omega)
theorem qkB {a:qd} {left:Int} (h:qcO a) (h0:0≤left) (h1:left≤1048576):Sz (fun n=>qcY n a left) (fun r=>r=left-(qaY a:Int)):=by
 unfold qcY
 obtain ⟨h_0,h_1,h_2⟩:=h
 exact Sz.strStep h_0 (by omega) (by omega) fun p0 q0=>Sz.step (qdu (a:=a.Ah) h_2 (by omega) (by omega)) fun r1 p1 q1=>Sz.done p1 (by simp only [qaY];omega)
theorem qkl {a:(List qd)} {left:Int} (h:(rngL qcO) a) (h0:0≤left) (h1:left≤1048576):Sz (fun n=>qez n a left) (fun r=>r=left-(qbs a:Int)) :=
 Sz.list (Lf:=qa2 a) (wt:=fun x:qd=>qaY x) (el:=qcY) h0 h1 h.1 (fun x hx left p q=>qkB (h.2 x hx) p q)
  (fun acc n=>by simp only [qa2,qg (je _),cond_false])
  (fun acc n j x hx=>by
   have hj:=(List.getElem?_eq_some_iff.1 hx).1
   have hl:=h.1
   simp only [qa2,qh hj,cond_true,qV hx,jd,wS j])
  (fun _=>rfl)
theorem qk8 {a:(List ByteArray)} {left:Int} (h:(rngL rngS) a) (h0:0≤left) (h1:left≤1048576):Sz (fun n=>qfL n a left) (fun r=>r=left-(qdE a:Int)) :=
 Sz.list (Lf:=qbv a) (wt:=fun x:ByteArray=>x.size) (el:=fun _ (x:ByteArray) acc=>some (W64 (acc-(x.size:Int)))) h0 h1 h.1 (fun x hx left p q=>Sz.str (h.2 x hx) p q)
  (fun acc n=>by simp only [qbv,qg (je _),cond_false])
  (fun acc n j x hx=>by
   have hj:=(List.getElem?_eq_some_iff.1 hx).1
   have hl:=h.1
   simp only [qbv,qh hj,cond_true,qV hx,jd,wS j])
  (fun _=>rfl)
theorem qnR {a:qF} {left:Int} (h:qfJ a) (h0:0≤left) (h1:left≤1048576):Sz (fun n=>qeT n a left) (fun r=>r=left-(qfN a:Int)):=by
 unfold qeT
 obtain ⟨h_0,h_1,h_2⟩:=h
 exact Sz.strStep h_0 (by omega) (by omega) fun p0 q0=>Sz.done p0 (by simp only [qfN];omega)
theorem qnh {a:(List qF)} {left:Int} (h:(rngL qfJ) a) (h0:0≤left) (h1:left≤1048576):Sz (fun n=>qgE n a left) (fun r=>r=left-(qes a:Int)) :=
 Sz.list (Lf:=qb9 a) (wt:=fun x:qF=>qfN x) (el:=qeT) h0 h1 h.1 (fun x hx left p q=>qnR (h.2 x hx) p q)
  (fun acc n=>by simp only [qb9,qg (je _),cond_false])
  (fun acc n j x hx=>by
   have hj:=(List.getElem?_eq_some_iff.1 hx).1
   have hl:=h.1
   simp only [qb9,qh hj,cond_true,qV hx,jd,wS j])
  (fun _=>rfl)
theorem qma {a:qc} {left:Int} (h:qgy a) (h0:0≤left) (h1:left≤1048576):Sz (fun n=>qeH n a left) (fun r=>r=left-(qdl a:Int)):=by
 unfold qeH
 obtain ⟨h_0,h_1,h_2⟩:=h
 exact Sz.step (qkl (a:=a.Aa) h_0 (by omega) (by omega)) fun r0 p0 q0=>Sz.step (qk8 (a:=a.Ah) h_1 (by omega) (by omega)) fun r1 p1 q1=>Sz.step (qnh (a:=a.Ac) h_2 (by omega) (by omega)) fun r2 p2 q2=>Sz.done p2 (by simp only [qdl];omega)
theorem qnt {a:qz} {left:Int} (h:qfC a) (h0:0≤left) (h1:left≤1048576):Sz (fun n=>qeV n a left) (fun r=>r=left-(qdM a:Int)):=by
 unfold qeV
 obtain ⟨h_0,h_1,h_2,h_3⟩:=h
 exact Sz.step (qdu (a:=a.Aj) h_0 (by omega) (by omega)) fun r0 p0 q0=>Sz.step (qdu (a:=a.Bj) h_1 (by omega) (by omega)) fun r1 p1 q1=>Sz.step (qdu (a:=a.Bg) h_2 (by omega) (by omega)) fun r2 p2 q2=>Sz.step (qdu (a:=a.Bd) h_3 (by omega) (by omega)) fun r3 p3 q3=>Sz.done p3 (by simp only [qdM];omega)
theorem qmO {a:(List qz)} {left:Int} (h:(rngL qfC) a) (h0:0≤left) (h1:left≤1048576):Sz (fun n=>qgz n a left) (fun r=>r=left-(qer a:Int)) :=
 Sz.list (Lf:=qb7 a) (wt:=fun x:qz=>qdM x) (el:=qeV) h0 h1 h.1 (fun x hx left p q=>qnt (h.2 x hx) p q)
  (fun acc n=>by simp only [qb7,qg (je _),cond_false])
  (fun acc n j x hx=>by
   have hj:=(List.getElem?_eq_some_iff.1 hx).1
   have hl:=h.1
   simp only [qb7,qh hj,cond_true,qV hx,jd,wS j])
  (fun _=>rfl)
theorem qmr {a:qq} {left:Int} (h:qhg a) (h0:0≤left) (h1:left≤1048576):Sz (fun n=>qfc n a left) (fun r=>r=left-(qem a:Int)):=by
 unfold qfc
 obtain ⟨h_0,h_1,h_2⟩:=h
 exact Sz.step (qlE (a:=a.As) h_0 (by omega) (by omega)) fun r0 p0 q0=>Sz.step (qma (a:=a.Ak) h_1 (by omega) (by omega)) fun r1 p1 q1=>Sz.step (qmO (a:=a.At) h_2 (by omega) (by omega)) fun r2 p2 q2=>Sz.done p2 (by simp only [qem];omega)
theorem qdJ {a:(List Int)} (h:qbE a≤1048576):Ev (fun n=>qaC n a) a:=by
 have hl:a.length≤1048576:=by simp only [qbE] at h;omega
 unfold qaC
 exact Ev.bindN (qfk (by omega)) (Ev.bind (b:=(a,(a.length:Int))) (qfm (cp:=fun _ x=>some x) (fun _ _=>.done)
  (fun acc n=>by simp only [qcy,qg (je _),cond_false])
  (fun acc n j x y hx hy=>by
   have hj:=(List.getElem?_eq_some_iff.1 hx).1
   simp only [qcy,qh hj,cond_true,qV hx,qV hy,jd,wS j])) .done)
theorem qm9 {a:qb} (h:qcV a≤1048576):Ev (fun n=>qey n a) a:=by
 unfold qey
 simp only [qcV] at h
 exact Ev.bind (qdJ (a:=a.Ay) (by omega)) (Ev.bind (qdJ (a:=a.Aq) (by omega)) (Ev.bind (qdJ (a:=a.Ab) (by omega)) (.done)))
theorem qj0 {a:(List qb)} (h:qc7 a≤1048576):Ev (fun n=>qdN n a) a:=by
 have hl:a.length≤1048576:=by simp only [qc7] at h;omega
 unfold qdN
 exact Ev.bindN (qfk (by omega)) (Ev.bind (b:=(a,(a.length:Int))) (qfm (cp:=qey) (fun x hx=>qm9 (by have:=qb3 (wt:=fun x:qb=>qcV x) hx;simp only [qc7] at h;omega))
  (fun acc n=>by simp only [qcB,qg (je _),cond_false])
  (fun acc n j x y hx hy=>by
   have hj:=(List.getElem?_eq_some_iff.1 hx).1
   simp only [qcB,qh hj,cond_true,qV hx,qV hy,jd,wS j])) .done)
theorem qor {a:qE} (h:qf4 a≤1048576):Ev (fun n=>qfG n a) a:=by
 unfold qfG
 simp only [qf4] at h
 exact Ev.bind (qj0 (a:=a.Au) (by omega)) (Ev.bind (qj0 (a:=a.Bb) (by omega)) (.done))
theorem qnk {a:(List qE)} (h:qfK a≤1048576):Ev (fun n=>qfX n a) a:=by
 have hl:a.length≤1048576:=by simp only [qfK] at h;omega
 unfold qfX
 exact Ev.bindN (qfk (by omega)) (Ev.bind (b:=(a,(a.length:Int))) (qfm (cp:=qfG) (fun x hx=>qor (by have:=qb3 (wt:=fun x:qE=>qf4 x) hx;simp only [qfK] at h;omega))
  (fun acc n=>by simp only [qdj,qg (je _),cond_false])
  (fun acc n j x y hx hy=>by
   have hj:=(List.getElem?_eq_some_iff.1 hx).1
   simp only [qdj,qh hj,cond_true,qV hx,qV hy,jd,wS j])) .done)
theorem qob {a:qI} (_:qg2 a≤1048576):Ev (fun n=>qfS n a) a:=by
 unfold qfS
 exact .done
theorem qno {a:(List qI)} (h:qfD a≤1048576):Ev (fun n=>qfY n a) a:=by
 have hl:a.length≤1048576:=by simp only [qfD] at h;omega
 unfold qfY
 exact Ev.bindN (qfk (by omega)) (Ev.bind (b:=(a,(a.length:Int))) (qfm (cp:=qfS) (fun x hx=>qob (by have:=qb3 (wt:=fun x:qI=>qg2 x) hx;simp only [qfD] at h;omega))
  (fun acc n=>by simp only [qdg,qg (je _),cond_false])
  (fun acc n j x y hx hy=>by
   have hj:=(List.getElem?_eq_some_iff.1 hx).1
   simp only [qdg,qh hj,cond_true,qV hx,qV hy,jd,wS j])) .done)
theorem qnD {a:ql} (h:qdK a≤1048576):Ev (fun n=>qeU n a) a:=by
 unfold qeU
 simp only [qdK] at h
 exact Ev.bind (qno (a:=a.Am) (by omega)) (Ev.bind (qnk (a:=a.Af) (by omega)) (Ev.bind (qdJ (a:=a.Az) (by omega)) (.done)))
theorem qmw {a:(List ql)} (h:qep a≤1048576):Ev (fun n=>qfl n a) a:=by
 have hl:a.length≤1048576:=by simp only [qep] at h;omega
 unfold qfl
 exact Ev.bindN (qfk (by omega)) (Ev.bind (b:=(a,(a.length:Int))) (qfm (cp:=qeU) (fun x hx=>qnD (by have:=qb3 (wt:=fun x:ql=>qdK x) hx;simp only [qep] at h;omega))
  (fun acc n=>by simp only [qcZ,qg (je _),cond_false])
  (fun acc n j x y hx hy=>by
   have hj:=(List.getElem?_eq_some_iff.1 hx).1
   simp only [qcZ,qh hj,cond_true,qV hx,qV hy,jd,wS j])) .done)
theorem qly {a:qm} (h:qdG a≤1048576):Ev (fun n=>qeo n a) a:=by
 unfold qeo
 simp only [qdG] at h
 exact Ev.bind (qmw (a:=a.Ai) (by omega)) (.done)
theorem qkS {a:qd} (h:qaY a≤1048576):Ev (fun n=>qc5 n a) a:=by
 unfold qc5
 simp only [qaY] at h
 exact Ev.bind (qdJ (a:=a.Ah) (by omega)) (.done)
theorem qkk {a:(List qd)} (h:qbs a≤1048576):Ev (fun n=>qds n a) a:=by
 have hl:a.length≤1048576:=by simp only [qbs] at h;omega
 unfold qds
 exact Ev.bindN (qfk (by omega)) (Ev.bind (b:=(a,(a.length:Int))) (qfm (cp:=qc5) (fun x hx=>qkS (by have:=qb3 (wt:=fun x:qd=>qaY x) hx;simp only [qbs] at h;omega))
  (fun acc n=>by simp only [qbF,qg (je _),cond_false])
  (fun acc n j x y hx hy=>by
   have hj:=(List.getElem?_eq_some_iff.1 hx).1
   simp only [qbF,qh hj,cond_true,qV hx,qV hy,jd,wS j])) .done)
theorem qld {a:(List ByteArray)} (h:qdE a≤1048576):Ev (fun n=>qed n a) a:=by
 have hl:a.length≤1048576:=by simp only [qdE] at h;omega
 unfold qed
 exact Ev.bindN (qfk (by omega)) (Ev.bind (b:=(a,(a.length:Int))) (qfm (cp:=fun _ x=>some x) (fun _ _=>.done)
  (fun acc n=>by simp only [qch,qg (je _),cond_false])
  (fun acc n j x y hx hy=>by
   have hj:=(List.getElem?_eq_some_iff.1 hx).1
   simp only [qch,qh hj,cond_true,qV hx,qV hy,jd,wS j])) .done)
theorem qnE {a:qF} (_:qfN a≤1048576):Ev (fun n=>qeO n a) a:=by
 unfold qeO
 exact .done
theorem qmF {a:(List qF)} (h:qes a≤1048576):Ev (fun n=>qfn n a) a:=by
 have hl:a.length≤1048576:=by simp only [qes] at h;omega
 unfold qfn
 exact Ev.bindN (qfk (by omega)) (Ev.bind (b:=(a,(a.length:Int))) (qfm (cp:=qeO) (fun x hx=>qnE (by have:=qb3 (wt:=fun x:qF=>qfN x) hx;simp only [qes] at h;omega))
  (fun acc n=>by simp only [qc6,qg (je _),cond_false])
  (fun acc n j x y hx hy=>by
   have hj:=(List.getElem?_eq_some_iff.1 hx).1
   simp only [qc6,qh hj,cond_true,qV hx,qV hy,jd,wS j])) .done)
theorem qmf {a:qc} (h:qdl a≤1048576):Ev (fun n=>qeM n a) a:=by
 unfold qeM
 simp only [qdl] at h
 exact Ev.bind (qkk (a:=a.Aa) (by omega)) (Ev.bind (qld (a:=a.Ah) (by omega)) (Ev.bind (qmF (a:=a.Ac) (by omega)) (.done)))
theorem qnp {a:qz} (h:qdM a≤1048576):Ev (fun n=>qeQ n a) a:=by
 unfold qeQ
 simp only [qdM] at h
 exact Ev.bind (qdJ (a:=a.Aj) (by omega)) (Ev.bind (qdJ (a:=a.Bj) (by omega)) (Ev.bind (qdJ (a:=a.Bg) (by omega)) (Ev.bind (qdJ (a:=a.Bd) (by omega)) (.done))))
theorem qnc {a:(List qz)} (h:qer a≤1048576):Ev (fun n=>qfi n a) a:=by
 have hl:a.length≤1048576:=by simp only [qer] at h;omega
 unfold qfi
 exact Ev.bindN (qfk (by omega)) (Ev.bind (b:=(a,(a.length:Int))) (qfm (cp:=qeQ) (fun x hx=>qnp (by have:=qb3 (wt:=fun x:qz=>qdM x) hx;simp only [qer] at h;omega))
  (fun acc n=>by simp only [qc0,qg (je _),cond_false])
  (fun acc n j x y hx hy=>by
   have hj:=(List.getElem?_eq_some_iff.1 hx).1
   simp only [qc0,qh hj,cond_true,qV hx,qV hy,jd,wS j])) .done)
theorem qiZ {a:qq} (h:qem a≤1048576):Ev (fun n=>qdx n a) a:=by
 unfold qdx
 simp only [qem] at h
 exact Ev.bind (qly (a:=a.As) (by omega)) (Ev.bind (qmf (a:=a.Ak) (by omega)) (Ev.bind (qnc (a:=a.At) (by omega)) (.done)))
end Go.Fw


namespace Go.Fw
open Go
set_option maxRecDepth 100000
theorem qdq {n:Nat} {x lo hi:Int}:qU n x lo hi=some (inI x lo hi):=by
 simp only [qU,qhd,qhQ];rfl
theorem qcH {n:Nat} {x lo hi:Int}:qan n x lo hi=some (inI x lo hi):=by
 simp only [qan,qhd,qhQ];rfl
def bt (s:ByteArray) (j:Nat):Nat:=(s.data.toList.getD j 0).toNat
theorem qm2 {s:ByteArray} {j:Nat} (h:j<s.size):atS s (j:Int)=some (bt s j:Int):=by
 have h':j<s.data.size:=h
 have hl:j<s.data.toList.length:=by simpa using h'
 unfold atS
 rw [if_pos (by omega),Int.toNat_natCast]
 have:s[j]?=some (s.data.toList.getD j 0):=by
  rw [getElem?_pos s j h,List.getD_eq_getElem?_getD,jh hl]
  rfl
 rw [this]
 rfl
def letB (b:Nat):Bool:=decide (97≤b)&&decide (b≤122)
def digB (b:Nat):Bool:=decide (48≤b)&&decide (b≤57)
def chB (s:ByteArray) (j:Nat):Bool:=letB (bt s j) || digB (bt s j)&&decide (0<j)
def nameB (s:ByteArray):Bool:=(decide (1≤s.size)&&decide (s.size≤8))&&allN (chB s) s.size
theorem qhN {s:ByteArray} (h:okS s):Ev (fun n=>qdv n s) (nameB s):=by
 unfold okS at h
 have hL:Ev (fun n=>qbz s n 0) (bif allN (chB s) s.size then .nxt (s.size:Int) else .ret false):=by
  refine qco ?_ (fun j hj X hX=>?_)
  ·exact Ev.succ (by simp only [qbz,qg (je _),cond_false];exact .done)
  ·refine Ev.succ ?_
   simp only [qbz,qh hj,cond_true,qm2 hj,jd,qhd,qhQ,wS j]
   have e1:(decide ((bt s j:Int) ≥ 97)&&decide ((bt s j:Int)≤122))=letB (bt s j):=by unfold letB;rw [ji];simp;omega
   have e2:(decide ((bt s j:Int) ≥ 48)&&decide ((bt s j:Int)≤57))=digB (bt s j):=by unfold digB;rw [ji];simp;omega
   have e3:decide ((j:Int) > 0)=decide (0<j):=by rw [ji];simp
   rw [e1,e2,e3]
   unfold chB
   cases letB (bt s j)<;>cases digB (bt s j)<;>cases decide (0<j)<;>first|exact hX|exact .done
 unfold qdv
 refine Ev.cast (r:=bif allN (chB s) s.size then (decide (1≤s.size)&&decide (s.size≤8)) else false) (Ev.bindB hL (fun _=>?_) (fun _=>.done)) ?_
 ·simp only [qhd,qhQ]
  exact Ev.now (by congr 1;rw [ji];simp;omega)
 ·unfold nameB
  cases allN (chB s) s.size<;>simp
def cutset:List UInt8:=[97,98,99,100,101,102,103,104,105,106,107,108,109,110,111,112,113,114,115,116,117,118,119,120,121,122,48,49,50,51,52,53,54,55,56,57]
theorem qjr (b:UInt8):cutset.contains b=(letB b.toNat || digB b.toNat):=by
 have h0:(List.range 256).all (fun m=>cutset.contains (UInt8.ofNat m)==(letB (UInt8.ofNat m).toNat || digB (UInt8.ofNat m).toNat))=true:=by kernel_rfl
 have h:=List.all_eq_true.1 h0 b.toNat (List.mem_range.2 b.toNat_lt)
 rw [beq_iff_eq] at h
 simpa using h
def letters:List UInt8:=[97,98,99,100,101,102,103,104,105,106,107,108,109,110,111,112,113,114,115,116,117,118,119,120,121,122]
theorem qlk (m:Nat) (hm:m<256):decide ((Lib.indexByte letters m.toUInt8) ≥ 0)=letB m:=by
 have h0:(List.range 256).all (fun m=>decide ((Lib.indexByte letters m.toUInt8) ≥ 0)==letB m)=true:=by kernel_rfl
 have h:=List.all_eq_true.1 h0 m (List.mem_range.2 hm)
 rwa [beq_iff_eq] at h
theorem qjE {α:Type} {p:α→Bool} {l:List α}:l.dropWhile p=[]↔∀ x,x ∈ l→p x=true:=by
 induction l with
 | nil=>simp
 | cons y l ih =>
  rw [List.dropWhile_cons]
  by_cases h:p y=true
  ·rw [if_pos h,ih];simp [h]
  ·rw [if_neg h];simp [h]
theorem qjN {α:Type} {p:α→Bool} {l:List α} (h:∀ x,x ∈ l.dropWhile p→p x=true):∀ x,x ∈ l→p x=true:=by
 induction l with
 | nil=>simp
 | cons y l ih =>
  rw [List.dropWhile_cons] at h
  by_cases hy:p y=true
  ·rw [if_pos hy] at h
   intro x hx
   rcases List.mem_cons.1 hx with rfl|hx
   ·exact hy
   ·exact ih h x hx
  ·rw [if_neg hy] at h
   exact h
theorem qm3 {l cs:List UInt8}:Lib.trimS l cs=[]↔∀ x,x ∈ l→cs.contains x=true:=by
 unfold Lib.trimS Lib.trimRightS Lib.trimLeftS
 rw [qjE]
 constructor
 ·intro h x hx
  exact qjN (p:=(cs.contains ·)) (l:=l.reverse) (fun y hy=>h y (List.mem_reverse.2 hy)) x (List.mem_reverse.2 hx)
 ·intro h x hx
  exact h x (List.mem_reverse.1 ((List.dropWhile_suffix _).subset (List.mem_reverse.1 hx)))
theorem qdQ {a b:ByteArray}:(a.toList==b.toList)=decide (a=b):=by
 rw [ji,beq_iff_eq,decide_eq_true_iff]
 constructor
 ·intro h
  exact ByteArray.ext (by have:=congrArg List.toArray h;simpa [ByteArray.toList_eq] using this)
 ·rintro rfl;rfl
end Go.Fw


namespace Go.Fw
open Go
set_option maxRecDepth 100000
theorem qn1 {s:ByteArray} {j:Nat} (h:j<s.data.toList.length):bt s j=(s.data.toList[j]).toNat:=by
 unfold bt;rw [List.getD_eq_getElem?_getD,jh h];rfl
theorem qoA {s:ByteArray} {j:Nat}:bt s j<256:=UInt8.toNat_lt _
theorem qj6 {n:Nat} {s:ByteArray} (h:okS s):qe1 n s=some (nameB s):=by
 unfold okS at h
 have hl:s.data.toList.length=s.size:=by simp
 simp only [qe1,qcH,jd]
 cases hI:inI (s.size:Int) 1 8 with
 | false =>
  have hs:(decide (1≤s.size)&&decide (s.size≤8))=false:=by rw [qmo] at hI;rw [Bool.and_eq_false_iff,decide_eq_false_iff_not,decide_eq_false_iff_not];omega
  simp [nameB,hs]
 | true =>
  have hs:1≤s.size∧s.size≤8:=by rw [qcd] at hI;omega
  have hT:qei n s (⟨#[97,98,99,100,101,102,103,104,105,106,107,108,109,110,111,112,113,114,115,116,117,118,119,120,121,122,48,49,50,51,52,53,54,55,56,57]⟩:ByteArray)=some ⟨(Lib.trimS s.data.toList cutset).toArray⟩:=by
   unfold qei
   rw [if_pos ⟨by omega,by decide,by decide⟩]
   rfl
  rw [hT]
  simp only [cond_true,jd]
  have hE:(((⟨(Lib.trimS s.data.toList cutset).toArray⟩:ByteArray).toList==(⟨#[]⟩:ByteArray).toList))=allN (fun j=>letB (bt s j) || digB (bt s j)) s.size:=by
   rw [qdQ,ji,decide_eq_true_iff,qat]
   have:((⟨(Lib.trimS s.data.toList cutset).toArray⟩:ByteArray)=⟨#[]⟩)↔Lib.trimS s.data.toList cutset=[]:=by
    constructor
    ·intro he
     have:=congrArg (fun x:ByteArray=>x.data.toList) he
     simpa using this
    ·intro he;rw [he]
   rw [this,qm3]
   constructor
   ·intro hx j hj
    have hj':j<s.data.toList.length:=by omega
    have:=hx _ (jn hj')
    rw [qjr,←qn1 hj'] at this
    exact this
   ·intro hx x hm
    obtain ⟨j,hj,rfl⟩:=List.getElem_of_mem hm
    have:=hx j (by omega)
    rw [qjr,←qn1 hj]
    exact this
  rw [hE]
  have h0:atS s 0=some (bt s 0:Int):=qm2 (j:=0) (by omega)
  have hI2:decide (Lib.indexByte letters (bt s 0:Int).toNat.toUInt8 ≥ 0)=letB (bt s 0):=by
   rw [Int.toNat_natCast];exact qlk _ qoA
  have hF:∀ b:Bool,(bif b then (atS s 0).bind fun y1=>(qdb n (⟨#[97,98,99,100,101,102,103,104,105,106,107,108,109,110,111,112,113,114,115,116,117,118,119,120,121,122]⟩:ByteArray) (⟨y1⟩:IntK .u8)).bind fun r3=>some (decide (r3 ≥ 0)) else some false)=some (b&&letB (bt s 0)):=by
   intro b
   cases b with
   | false=>rfl
   | true =>
    rw [h0]
    simp only [cond_true,jd,qdb,jy]
    exact congrArg some hI2
  rw [hF]
  congr 1
  have hs':(decide (1≤s.size)&&decide (s.size≤8))=true:=by simp [hs]
  unfold nameB
  rw [hs',jy,ji,jg,qat,qat]
  simp only [chB,Bool.or_eq_true,jg,decide_eq_true_eq]
  constructor
  ·rintro ⟨h1,h2⟩ j hj
   rcases Nat.eq_zero_or_pos j with rfl|hp
   ·exact .inl h2
   ·exact (h1 j hj).imp id (fun h=>⟨h,hp⟩)
  ·intro h1
   refine ⟨fun j hj=>(h1 j hj).imp id (fun h=>h.1),?_⟩
   rcases h1 0 (by omega) with h2|h2
   ·exact h2
   ·omega
def strAt (xs:List ByteArray) (j:Nat):ByteArray:=xs.getD j ByteArray.empty
theorem qhY {xs:List ByteArray} {j:Nat} (h:j<xs.length):strAt xs j=xs[j]:=by simp [strAt,h]
theorem qiV {xs:List ByteArray} {j:Nat} (h:j<xs.length):idx xs (j:Int)=some (strAt xs j):=by rw [qd3 h,qhY h]
def neB (xs:List ByteArray) (j i:Nat):Bool:=!decide (strAt xs i=strAt xs j)
def namesB (xs:List ByteArray):Bool:=allN (fun j=>nameB (strAt xs j)&&allN (neB xs j) j) xs.length
theorem qg4 {xs:List ByteArray} (h:okL okS xs):Ev (fun n=>qc8 n xs) (namesB xs):=by
 have hl:=h.len
 have hL2:∀ j,j<xs.length→Ev (fun n=>qbU xs (j:Int) n 0) (bif allN (neB xs j) j then .nxt (j:Int) else .ret false):=by
  intro j hj
  refine qco ?_ (fun i hi X hX=>Ev.succ ?_)
  ·exact Ev.succ (by simp only [qbU,qg (je _),cond_false];exact .done)
  ·simp only [qbU,qh hi,cond_true,qiV (show i<xs.length by omega),qiV hj,jd,qdQ,wS i]
   unfold neB
   cases decide (strAt xs i=strAt xs j)
   ·exact hX
   ·exact .done
 have hL1:Ev (fun n=>qbQ xs n 0) (bif namesB xs then .nxt (xs.length:Int) else .ret false):=by
  refine qco ?_ (fun j hj X hX=>Ev.succ ?_)
  ·exact Ev.succ (by simp only [qbQ,qg (je _),cond_false];exact .done)
  ·simp only [qbQ,qh hj,cond_true,qiV hj,jd,wS j]
   refine Ev.bind (qhN (by rw [qhY hj];exact h.at hj)) ?_
   cases nameB (strAt xs j)
   ·exact .done
   ·refine Ev.ff rfl (Ev.bind (hL2 j hj) ?_)
    cases allN (neB xs j) j
    ·exact .done
    ·exact hX
 unfold qc8
 refine Ev.bind hL1 ?_
 cases namesB xs<;>exact .done
theorem qkV {xs:List ByteArray} {v:ByteArray} (hl:xs.length≤1048576):Ev (fun n=>qcu n xs v) (ixL (fun x=>decide (v=x)) xs) :=
 qev (fin:=(xs.length:Int)) (Lf:=qaG xs v) (pf:=fun _ x=>some (decide (v=x))) (fun _ _=>.done)
  (fun n=>by simp only [qaG,qg (je _),cond_false])
  (fun n j x hx=>by
   have hj:=(List.getElem?_eq_some_iff.1 hx).1
   simp only [qaG,qh hj,cond_true,qV hx,jd,qdQ,wS j])
  (fun n=>by unfold qcu;congr 1;funext o;cases o<;>rfl)
theorem qi4 {xs:List ByteArray} {v:ByteArray} (hl:xs.length≤1048576):Ev (fun n=>qbL n xs v) (xs.any fun x=>decide (v=x)):=by
 unfold qbL
 exact Ev.bind (qkV hl) (Ev.now (by rw [qgS]))
theorem qeW {xs:List ByteArray} (h:okL okS xs):Ev (fun n=>qbN n xs) (namesB xs):=by
 have hl:=h.len
 have hL1:Ev (fun n=>qbV xs n 0) (bif namesB xs then .nxt (xs.length:Int) else .ret false):=by
  refine qco ?_ (fun j hj X hX=>Ev.succ ?_)
  ·exact Ev.succ (by simp only [qbV,qg (je _),cond_false];exact .done)
  ·have hs:subS xs 0 (j:Int)=some (xs.take j):=by
    unfold subS
    rw [if_pos ⟨by omega,by omega,by omega⟩]
    simp
   simp only [qbV,qh hj,cond_true,qiV hj,jd,hs,qj6 (show okS (strAt xs j) by rw [qhY hj];exact h.at hj),wS j]
   cases nameB (strAt xs j)
   ·exact .done
   ·refine Ev.ff rfl (Ev.bind (qi4 (by simp;omega)) ?_)
    have:((xs.take j).any fun x=>decide (strAt xs j=x)) = !allN (neB xs j) j:=by
     rw [qkP (d:=ByteArray.empty)]
     congr 1
     rw [List.length_take,Nat.min_eq_left (by omega)]
     refine qd1 (fun i hi=>?_)
     unfold neB strAt
     congr 1
     have:(xs.take j).getD i ByteArray.empty=xs.getD i ByteArray.empty:=by simp [List.getD_eq_getElem?_getD,hi]
     rw [this]
     exact decide_eq_decide.2 eq_comm
    rw [this]
    cases allN (neB xs j) j
    ·exact .done
    ·exact hX
 unfold qbN
 refine Ev.bind hL1 ?_
 cases namesB xs<;>exact .done
end Go.Fw


namespace Go.Fw
open Go
set_option maxRecDepth 100000
theorem qjO {n:Nat} {x lo hi:Int}:qdr n x lo hi=some (!inI x lo hi):=by simp only [qdr,qcH,jd]
theorem qdw {xs:List Int} {lo hi:Int} (hl:xs.length≤1048576):Ev (fun n=>qaZ n xs lo hi) (xs.all fun x=>inI x lo hi):=by
 have h1:Ev (fun n=>qT n xs lo hi) (ixL (fun x=>!inI x lo hi) xs) :=
  qev (fin:=(xs.length:Int)) (Lf:=qx xs lo hi) (pf:=fun _ x=>some (!inI x lo hi)) (fun _ _=>.done)
   (fun n=>by simp only [qx,qg (je _),cond_false])
   (fun n j x hx=>by
    have hj:=(List.getElem?_eq_some_iff.1 hx).1
    simp only [qx,qh hj,cond_true,qV hx,jd,qjO,wS j])
   (fun n=>by unfold qT;congr 1;funext o;cases o<;>rfl)
 unfold qaZ qao
 refine Ev.bind (Ev.bind h1 (Ev.now rfl)) (Ev.now ?_)
 rw [qgS,qhS]
def stepB (xs:List Int) (j:Nat):Bool:=decide (j=0) || decide (at0 xs (j-1)<at0 xs j)
def incB (xs:List Int):Bool:=allN (stepB xs) xs.length
theorem qiN {xs:List Int} (hl:xs.length≤1048576):Ev (fun n=>qdc n xs) (incB xs):=by
 have hL:Ev (fun n=>qam xs n 1) (bif incB xs then .nxt (max 1 xs.length:Int) else .ret false):=by
  by_cases h0:xs.length=0
  ·have hb:incB xs=true:=by unfold incB;rw [h0];rfl
   rw [hb]
   refine Ev.succ ?_
   have:decide ((1:Int)<(xs.length:Int))=false:=by rw [h0];decide
   simp only [qam,this,cond_false]
   exact Ev.now (by rw [h0];rfl)
  ·have:=qlN (Lf:=qam xs) (len:=xs.length) (i0:=1) (f:=stepB xs) (bad:=false) (fin:=.nxt (max 1 xs.length:Int)) (by omega)
    (Ev.succ (by
     simp only [qam,qg (je _),cond_false]
     exact Ev.now (by congr 2;omega)))
    (fun j h1 hj X hX=>Ev.succ (by
     simp only [qam,qh hj,cond_true,wS j,show (j:Int)-1=((j-1:Nat):Int) by omega,qcL (show -9223372036854775808≤((j-1:Nat):Int) by omega) (by omega),qbi (show j-1<xs.length by omega),qbi hj,jd]
     unfold stepB
     by_cases hc:at0 xs (j-1)<at0 xs j
     ·have e1:decide (at0 xs (j-1) ≥ at0 xs j)=false:=by simp;omega
      rw [e1];simp only [hc,decide_true,Bool.or_true,cond_true,cond_false];exact hX
     ·have e1:decide (at0 xs (j-1) ≥ at0 xs j)=true:=by simp;omega
      have e2:decide (j=0)=false:=by simp;omega
      rw [e1,e2];simp only [hc,decide_false,Bool.or_self,cond_true,cond_false];exact .done))
   have e:allN (fun j=>stepB xs (1+j)) (xs.length-1)=incB xs:=by
    unfold incB
    rw [ji,qat,qat]
    constructor
    ·intro h j hj
     cases j with
     | zero=>rfl
     | succ j=>have:=h j (by omega);rwa [Nat.add_comm] at this
    ·intro h j hj
     exact h (1+j) (by omega)
   rw [e] at this
   exact this
 unfold qdc
 refine Ev.bind hL ?_
 cases incB xs<;>exact .done
def lenB {α:Type} (xs:List α) (lo hi:Nat):Bool:=decide (lo≤xs.length)&&decide (xs.length≤hi)
theorem qkj {α:Type} {xs:List α} {lo hi:Nat}:inI (xs.length:Int) (lo:Int) (hi:Int)=lenB xs lo hi:=by
 unfold inI lenB;rw [ji];simp
def axisB (xs:List Int):Bool:=lenB xs 1 4&&((xs.all fun x=>inI x 0 100000)&&incB xs)
theorem qj5 {xs:List Int} (hl:xs.length≤1048576):Ev (fun n=>qe3 n xs) (axisB xs):=by
 simp only [qe3,qaI,jd,qcH,show inI (xs.length:Int) 1 4=lenB xs 1 4 from qkj (lo:=1) (hi:=4)]
 unfold axisB
 cases lenB xs 1 4
 ·exact .done
 ·refine Ev.tt rfl (Ev.bind (qdw hl) ?_)
  cases (xs.all fun x=>inI x 0 100000)
  ·exact .done
  ·exact Ev.tt rfl (Ev.bind (qiN hl) .done)
theorem qi9 {xs:List Int} (hl:xs.length≤1048576):Ev (fun n=>qeg n xs) (axisB xs):=by
 have hL:Ev (fun n=>qbB xs n 0) (bif allN (fun j=>inI (at0 xs j) 0 100000&&stepB xs j) xs.length then .nxt (xs.length:Int) else .ret false):=by
  refine qco ?_ (fun j hj X hX=>Ev.succ ?_)
  ·exact Ev.succ (by simp only [qbB,qg (je _),cond_false];exact .done)
  ·simp only [qbB,qh hj,cond_true,qbi hj,jd,qdq,wS j]
   cases inI (at0 xs j) 0 100000
   ·exact .done
   ·simp only [Bool.not_true,cond_false,jy]
    unfold stepB
    by_cases h0:j=0
    ·subst h0
     exact Ev.ff (by decide) hX
    ·simp only [show (j:Int)-1=((j-1:Nat):Int) by omega,qcL (show -9223372036854775808≤((j-1:Nat):Int) by omega) (by omega),qbi (show j-1<xs.length by omega),jd]
     have e2:decide (j=0)=false:=by simp;omega
     have e3:decide ((j:Int) > 0)=true:=by simp;omega
     rw [e2,e3]
     simp only [cond_true,Bool.false_or]
     by_cases hc:at0 xs (j-1)<at0 xs j
     ·have e1:decide (at0 xs (j-1) ≥ at0 xs j)=false:=by simp;omega
      rw [e1];simp only [hc,decide_true,cond_true,cond_false];exact hX
     ·have e1:decide (at0 xs (j-1) ≥ at0 xs j)=true:=by simp;omega
      rw [e1];simp only [hc,decide_false,cond_true,cond_false];exact .done
 have e:axisB xs=(allN (fun j=>inI (at0 xs j) 0 100000&&stepB xs j) xs.length&&lenB xs 1 4):=by
  unfold axisB incB
  rw [qg7,qfz (d:=0),Bool.and_comm]
  rfl
 rw [e]
 unfold qeg
 refine Ev.bind hL ?_
 cases allN (fun j=>inI (at0 xs j) 0 100000&&stepB xs j) xs.length
 ·exact .done
 ·simp only [cond_true,qhd,qhQ,jy]
  exact Ev.now (by congr 1;unfold lenB;rw [ji];simp;omega)
def tableB (t:qb):Bool:=axisB t.Ay&&(axisB t.Aq&&(decide (t.Ab.length=t.Ay.length*t.Aq.length)&&(t.Ab.all fun x=>inI x (-1000000) 1000000)))
theorem qlO {a b:Nat} (ha:a≤1048576) (hb:b≤1048576):W64 ((a:Int)*(b:Int))=((a*b:Nat):Int):=by
 have h:a*b≤1048576*1048576:=Nat.mul_le_mul ha hb
 have e:(a:Int)*(b:Int)=((a*b:Nat):Int):=by simp
 rw [e]
 exact qcL (by omega) (by omega)
theorem qjj {t:qb} (h:qcD t):Ev (fun n=>qec n t) (tableB t):=by
 unfold qec tableB
 refine Ev.bind (qj5 h.Ay.len) ?_
 cases axisB t.Ay
 ·exact .done
 ·refine Ev.tt rfl (Ev.bind (qj5 h.Aq.len) ?_)
  cases axisB t.Aq
  ·exact .done
  ·rw [qlO h.Ay.len h.Aq.len]
   have e:(((t.Ab.length:Nat):Int)==((t.Ay.length*t.Aq.length:Nat):Int))=decide (t.Ab.length=t.Ay.length*t.Aq.length):=by rw [ji];simp;omega
   rw [e]
   cases decide (t.Ab.length=t.Ay.length*t.Aq.length)
   ·exact .done
   ·exact Ev.tt rfl (Ev.tt rfl (Ev.bind (qdw h.Ab.len) .done))
theorem qiu {t:qb} (h:qcD t):Ev (fun n=>qeu n t) (tableB t):=by
 have hl:=h.Ab.len
 have hL:Ev (fun n=>qb6 t n 0) (bif (t.Ab.all fun x=>inI x (-1000000) 1000000) then .nxt (t.Ab.length:Int) else .ret false) :=
  qek (fun n=>by simp only [qb6,qg (je _),cond_false]) (fun j hj X hX=>by
   simp only [qb6,qh hj,cond_true,qd3 hj,jd,qdq,wS j]
   cases inI t.Ab[j] (-1000000) 1000000
   ·exact .done
   ·exact hX)
 unfold qeu tableB
 refine Ev.bind (b:=!(axisB t.Ay&&(axisB t.Aq&&decide (t.Ab.length=t.Ay.length*t.Aq.length)))) ?_ ?_
 ·refine Ev.bind (qi9 h.Ay.len) ?_
  cases axisB t.Ay
  ·exact .done
  ·refine Ev.ff rfl (Ev.bind (qi9 h.Aq.len) ?_)
   cases axisB t.Aq
   ·exact .done
   ·refine Ev.ff rfl (Ev.now ?_)
    rw [qlO h.Ay.len h.Aq.len]
    congr 1
    rw [ji];simp;omega
 ·cases axisB t.Ay
  ·exact .done
  ·cases axisB t.Aq
   ·exact .done
   ·cases decide (t.Ab.length=t.Ay.length*t.Aq.length)
    ·exact .done
    ·refine Ev.ff rfl (Ev.bind hL ?_)
     cases (t.Ab.all fun x=>inI x (-1000000) 1000000)<;>exact .done
end Go.Fw


namespace Go.Fw
open Go
set_option maxRecDepth 100000
instance:Inhabited qI:=⟨⟨ByteArray.empty,0,0,false⟩⟩
instance:Inhabited qb:=⟨⟨[],[],[]⟩⟩
instance:Inhabited qE:=⟨⟨0,0,0,0,[],[]⟩⟩
instance:Inhabited ql:=⟨⟨ByteArray.empty,0,[],[],[],0,0⟩⟩
instance:Inhabited qd:=⟨⟨ByteArray.empty,0,[]⟩⟩
instance:Inhabited qF:=⟨⟨ByteArray.empty,0,0⟩⟩
instance:Inhabited qz:=⟨⟨[],[],[],[]⟩⟩
theorem lastE {j m:Nat} (h:j<m) (hm:m≤1048576):((j:Int)==W64 ((m:Int)-1))=decide (j+1=m):=by
 rcases qnv h with h|h
 ·exact h
 ·omega
theorem qfu {α:Type} [Inhabited α] {xs:List α} {g:α→ByteArray} {j:Nat} (h:j<xs.length):strAt (xs.map g) j=g (gt xs j):=by
 rw [qhY (by simpa using h),qhx h];simp
theorem qhe {α:Type} {xs:List α} {g:α→ByteArray} {ok:α→Prop} (h:okL ok xs) (hg:∀ x,ok x→okS (g x)):okL okS (xs.map g) :=
 ⟨by rw [List.length_map];exact h.1,fun y hy=>by
  obtain ⟨x,hx,rfl⟩:=List.mem_map.1 hy
  exact hg x (h.2 x hx)⟩
theorem qgd {α β:Type} {xs:List α} {g:α→β} {j:Nat} (h:j<xs.length) (hl:xs.length≤1048576) {y:β}:appS ((xs.take j).map g) [y]=some ((xs.take j).map g++[y]) :=
 qf9 (by simp;omega)
def pinB (ps:List qI) (j:Nat):Bool :=
 bif decide (j+1=ps.length) then ((gt ps j).Bf==2)&&(((gt ps j).Bg==0)&&!(gt ps j).Av) else ((gt ps j).Bf==1)&&inI (gt ps j).Bg 0 500
def pinsB (ps:List qI):Bool:=allN (pinB ps) ps.length&&(lenB ps 2 5&&namesB (ps.map qI.Ap))
def clkN (ps:List qI) (j:Nat):Nat:=cntP (fun i=>(gt ps i).Av) j
theorem qlq {ps:List qI} (h:okL qg3 ps):Ev (fun n=>qfe n ps) (pinsB ps):=by
 have hl:=h.len
 have hL:Ev (fun n=>qba ps n ([]:List ByteArray) 0) (bif allN (pinB ps) ps.length then .nxt (ps.map qI.Ap,(ps.length:Int)) else .ret false):=by
  refine loopN (Lf:=qba ps) (S:=fun j=>(ps.take j).map qI.Ap) (pinB ps) (fun n=>?_) (fun j hj hp X hX=>?_)
  ·simp only [qba,qg (je _),cond_false,List.take_length]
  ·simp only [qba,qh hj,cond_true,qaM hj,jd,qgd hj hl,qdD (g:=qI.Ap) hj,lastE hj hl,bne,qbc,qcH,wS j]
   generalize hc:pinB ps j=c at hX ⊢
   unfold pinB at hc
   cases hd:decide (j+1=ps.length)
   ·rw [hd] at hc
    simp only [cond_false] at hc ⊢
    subst hc
    exact Ev.okP (fun h1=>Ev.okP1 (fun h2=>hX (by rw [h1,h2];rfl)))
   ·rw [hd] at hc
    simp only [cond_true] at hc ⊢
    subst hc
    refine Ev.okP (fun h1=>Ev.okP (fun h2=>Ev.chkP1 (fun h3=>hX (by rw [h1,h2,h3];rfl))))
 unfold qfe pinsB
 refine Ev.bind hL ?_
 cases allN (pinB ps) ps.length
 ·exact .done
 ·simp only [cond_true,qaP,qcH,jd,show inI (ps.length:Int) 2 5=lenB ps 2 5 from qkj (lo:=2) (hi:=5),jy]
  exact Ev.andP (fun _=>Ev.last (qeW (qhe h (fun x hx=>hx.Ap))))
def pinS (ps:List qI) (j:Nat):Bool:=allN (neB (ps.map qI.Ap) j) j&&((nameB (gt ps j).Ap&&inI (gt ps j).Bg 0 500)&&(bif decide (j+1=ps.length) then ((gt ps j).Bf==2)&&(((gt ps j).Bg==0)&&!(gt ps j).Av) else ((gt ps j).Bf==1)))
theorem qnI {ps:List qI}:(lenB ps 2 5&&allN (pinS ps) ps.length)=pinsB ps:=by
 have e:namesB (ps.map qI.Ap)=allN (fun j=>nameB (gt ps j).Ap&&allN (neB (ps.map qI.Ap) j) j) ps.length:=by
  unfold namesB
  rw [List.length_map]
  exact qd1 (fun j hj=>by rw [qfu hj])
 unfold pinsB
 rw [e,←Bool.and_assoc,Bool.and_comm (allN (pinB ps) ps.length),Bool.and_assoc,←qg7]
 congr 1
 refine qd1 (fun j hj=>?_)
 unfold pinS pinB
 cases hd:decide (j+1=ps.length)
 ·simp only [cond_false]
  cases allN (neB (ps.map qI.Ap) j) j<;>cases nameB (gt ps j).Ap<;>cases inI (gt ps j).Bg 0 500<;>cases ((gt ps j).Bf==1)<;>rfl
 ·simp only [cond_true]
  cases hcap:((gt ps j).Bg==0)
  ·simp
  ·have:inI (gt ps j).Bg 0 500=true:=by rw [beq_iff_eq] at hcap;rw [hcap];rfl
   rw [this]
   cases allN (neB (ps.map qI.Ap) j) j<;>cases nameB (gt ps j).Ap<;>cases ((gt ps j).Bf==2)<;>cases (gt ps j).Av<;>rfl
theorem qlf {c:ql} (h:okL qg3 c.Am):Ev (fun n=>qfs n c) (bif pinsB c.Am then (((clkN c.Am c.Am.length:Nat):Int),true) else (0,false)):=by
 have hl:=h.len
 have hL2:∀ j,j<c.Am.length→Ev (fun n=>qca c (j:Int) (gt c.Am j) n 0) (bif allN (neB (c.Am.map qI.Ap) j) j then .nxt (j:Int) else .ret (0,false)):=by
  intro j hj
  refine qco ?_ (fun i hi X hX=>Ev.succ ?_)
  ·exact Ev.succ (by simp only [qca,qg (je _),cond_false];exact .done)
  ·simp only [qca,qh hi,cond_true,qaM (show i<c.Am.length by omega),jd,qdQ,wS i]
   unfold neB
   rw [qfu (g:=qI.Ap) (show i<c.Am.length by omega),qfu (g:=qI.Ap) hj]
   exact Ev.chkP1 (fun _=>hX)
 have hL1:Ev (fun n=>qa6 c n 0 0) (bif allN (pinS c.Am) c.Am.length then .nxt (((clkN c.Am c.Am.length:Nat):Int),(c.Am.length:Int)) else .ret (0,false)):=by
  refine loopN (Lf:=qa6 c) (S:=fun j=>((clkN c.Am j:Nat):Int)) (pinS c.Am) (fun n=>?_) (fun j hj hp X hX=>?_)
  ·simp only [qa6,qg (je _),cond_false]
  ·have hn:clkN c.Am j≤j:=qej
   have ejl:((j:Int)==W64 ((c.Am.length:Int)-1))=decide (j+1=c.Am.length):=lastE hj hl
   have elt:decide ((j:Int)<W64 ((c.Am.length:Int)-1)) = !decide (j+1=c.Am.length):=by
    rw [qcL (by omega) (by omega),ji];simp;omega
   simp only [qa6,qh hj,cond_true,qaM hj,jd,wS j,qh2 (show clkN c.Am j<9223372036854775807 by omega),ejl,elt,qdq]
   unfold pinS
   refine Ev.bind (hL2 j hj) ?_
   cases ha:allN (neB (c.Am.map qI.Ap) j) j
   ·exact .done
   ·simp only [cond_true,jy]
    refine Ev.chkT ?_ (fun h1=>?_)
    ·exact Ev.or (qhN (qgY h hj).Ap) (fun _=>.done)
    ·refine Ev.chkT1 ?_ (fun h2=>?_)
     ·cases decide (j+1=c.Am.length)
      ·exact .done
      ·simp only [cond_true,Bool.not_true,cond_false,bne,qbc]
       cases ((gt c.Am j).Bf==2)<;>cases ((gt c.Am j).Bg==0)<;>cases (gt c.Am j).Av<;>exact .done
     ·have hX:=hX (by unfold pinS;rw [ha,h1,h2];rfl)
      have hck:clkN c.Am (j+1)=clkN c.Am j+(bif (gt c.Am j).Av then 1 else 0):=rfl
      rw [hck] at hX
      cases hc:(gt c.Am j).Av
      ·rw [hc] at hX;exact Ev.ff rfl hX
      ·rw [hc] at hX;exact Ev.tt rfl hX
 rw [←qnI]
 unfold qfs
 refine Ev.guard ?_ (fun h1=>?_)
 ·unfold lenB
  have e1:decide ((c.Am.length:Int)<2) = !decide (2≤c.Am.length):=by rw [ji];simp;omega
  have e2:decide ((c.Am.length:Int) > 5) = !decide (c.Am.length≤5):=by rw [ji];simp;omega
  rw [e1,e2]
  cases decide (2≤c.Am.length)<;>cases decide (c.Am.length≤5)<;>exact .done
 ·refine Ev.bind hL1 ?_
  cases allN (pinS c.Am) c.Am.length<;>exact .done
def mnL (xs:List Int):Int:=(xs.drop 1).foldl (fun m y=>if y<m then y else m) (at0 xs 0)
def mxL (xs:List Int):Int:=(xs.drop 1).foldl (fun m y=>if y > m then y else m) (at0 xs 0)
theorem qjv {t:qb} (h:tableB t=true):1≤t.Ab.length:=by
 unfold tableB axisB lenB at h
 simp only [jg,decide_eq_true_eq] at h
 obtain ⟨⟨⟨h1,_⟩,_⟩,⟨⟨h2,_⟩,_⟩,h3,_⟩:=h
 rw [h3]
 exact Nat.mul_pos h1 h2
theorem qnH {xs:List Int} (h1:1≤xs.length) (hl:xs.length≤1048576):Ev (fun n=>qdz n xs) (mnL xs):=by
 have hL:=(qjY (Lf:=fun n t j=>qa4 xs n t j) (xs:=xs) (step:=fun (m y:Int)=>if y<m then y else m) (fin:=fun t=>(t,(xs.length:Int))) 1 (at0 xs 0) (fun _ _=>True) h1 trivial (fun _ _ _ _=>trivial)
  (fun n t=>by simp only [qa4,qg (je _),cond_false])
  (fun j t hj _ X hX=>by simpa only [qa4,qh hj,cond_true,qd3 hj,jd,wS j] using hX)).1
 unfold qdz
 rw [show decide ((xs.length:Int)<1)=false by simp;omega,show idx xs (0:Int)=some (at0 xs 0) from qbi (j:=0) (by omega)]
 simp only [cond_false,jd]
 exact Ev.bind hL .done
theorem qlu {t:qb} (h:qcD t):Ev (fun n=>qdA n t) (bif tableB t then (⟨mnL t.Ab,mxL t.Ab⟩,0) else (⟨0,0⟩,1)):=by
 unfold qdA
 refine Ev.chk1 (qiu h) (fun hb=>?_)
 have h1:=qjv hb
 have hl:=h.Ab.len
 have hL:=(qjY (Lf:=fun n (t':Int × Int) j=>qa5 t n t'.1 t'.2 j) (xs:=t.Ab) (step:=fun (m:Int × Int) y=>(if y<m.1 then y else m.1,if y > m.2 then y else m.2)) (fin:=fun t'=>(t'.1,t'.2,(t.Ab.length:Int))) 1 (at0 t.Ab 0,at0 t.Ab 0) (fun _ _=>True) h1 trivial (fun _ _ _ _=>trivial)
  (fun n t=>by simp only [qa5,qg (je _),cond_false])
  (fun j t hj _ X hX=>by simpa only [qa5,qh hj,cond_true,qd3 hj,jd,wS j] using hX)).1
 have hf:∀ (ys:List Int) (a b:Int),ys.foldl (fun (m:Int × Int) y=>(if y<m.1 then y else m.1,if y > m.2 then y else m.2)) (a,b)=(ys.foldl (fun m y=>if y<m then y else m) a,ys.foldl (fun m y=>if y > m then y else m) b):=by
  intro ys
  induction ys with
  | nil=>intro a b;rfl
  | cons y ys ih=>intro a b;simp only [List.foldl_cons,ih]
 rw [hf] at hL
 rw [show idx t.Ab (0:Int)=some (at0 t.Ab 0) from qbi (j:=0) (by omega)]
 simp only [jd]
 exact Ev.bind hL .done
def tabB (pos:Bool) (t:qb):Bool:=tableB t&&(!pos || decide (0≤mnL t.Ab))
def tablesB (ts:List qb) (pos:Bool):Bool:=decide (ts.length=2)&&ts.all (tabB pos)
theorem qgo {ts:List qb} {pos:Bool} (h:okL qcD ts):Ev (fun n=>qcA n ts pos) (tablesB ts pos):=by
 have hl:=h.len
 have h1:Ev (fun n=>qL n ts pos) (ixL (fun x=>!tabB pos x) ts) :=
  qev (fin:=(ts.length:Int)) (Lf:=qu ts pos) (pf:=fun n x=>qdy n x pos) (fun x hx=>by
    unfold qdy tabB
    refine Ev.or (qjj (h.2 x hx)) (fun hb=>?_)
    cases pos
    ·exact .done
    ·refine Ev.tt rfl (Ev.bind (qnH (qjv hb) (h.2 x hx).Ab.len) (Ev.now ?_))
     congr 1
     rw [ji];simp)
   (fun n=>by simp only [qu,qg (je _),cond_false])
   (fun n j x hx=>by
    have hj:=(List.getElem?_eq_some_iff.1 hx).1
    simp only [qu,qh hj,cond_true,qV hx,jd,wS j])
   (fun n=>by unfold qL;congr 1;funext o;cases o<;>rfl)
 unfold qcA qaa tablesB
 rw [show ((ts.length:Int)==2)=decide (ts.length=2) by rw [ji];simp;omega]
 refine Ev.andP (fun _=>Ev.bind (Ev.bind h1 (Ev.now rfl)) (Ev.now ?_))
 rw [qgS,qhS]
theorem qet {ts:List qb} {pos:Bool} (h:okL qcD ts):Ev (fun n=>qbq n ts pos) (tablesB ts pos):=by
 unfold qbq tablesB
 rw [show ((ts.length:Int) != 2) = !decide (ts.length=2) by rw [ji];simp;omega]
 simp only [qbc]
 refine Ev.andP (fun h2=>?_)
 have h2:ts.length=2:=by simpa using h2
 have hL:Ev (fun n=>qaU ts pos n 0) (bif allN (fun j=>tabB pos (gt ts j)) ts.length then .nxt (2:Int) else .ret false):=by
  refine qco (len:=ts.length) ?_ (fun j hj X hX=>Ev.succ ?_)
  ·rw [h2];exact Ev.succ (by simp only [qaU];exact .done)
  ·simp only [qaU,show decide ((j:Int)<2)=true by simp;omega,cond_true,qaM hj,jd,wS j]
   refine Ev.bind (qlu (qgY h hj)) ?_
   unfold tabB
   cases tableB (gt ts j)
   ·exact .done
   ·simp only [cond_true,jy]
    refine Ev.ff rfl ?_
    cases pos
    ·exact hX
    ·refine Ev.tt rfl ?_
     rw [show decide (mnL (gt ts j).Ab<0) = !decide (0≤mnL (gt ts j).Ab) by rw [ji];simp]
     simp only [qbc]
     exact Ev.okP1 (fun _=>hX)
 rw [qfT]
 refine Ev.bind hL ?_
 cases allN (fun j=>tabB pos (gt ts j)) ts.length<;>exact .done
end Go.Fw


namespace Go.Fw
open Go
set_option maxRecDepth 100000
theorem qjh {α:Type} [Inhabited α] {xs:List α} {x:Int} (h0:0≤x) (h1:x<xs.length):idx xs x=some (gt xs x.toNat):=by
  have:=qaM (xs:=xs) (j:=x.toNat) (by omega)
  rwa [←qls h0] at this
theorem qjT {q:Nat→Bool} {m n:Nat} (h:m≤n):cntP q m≤cntP q n:=by
  induction n with
  | zero =>
    obtain rfl:m=0:=by omega
    exact je _
  | succ n ih =>
    rcases Nat.lt_or_eq_of_le h with h|rfl
    · exact Nat.le_trans (ih (by omega)) (Nat.le_add_right _ _)
    · exact je _
theorem qhl {m k:Nat}:decide ((m:Int)≤(k:Int))=decide (m≤k):=by rw [ji];simp
theorem qkW {q:Nat→Bool} {n i j:Nat} (hi:i<j) (hj:j<n) (h1:q i=true) (h2:q j=true):2≤cntP q n:=by
  have e1:cntP q (i+1)=cntP q i+1:=by rw [cntP,h1];rfl
  have e2:cntP q (j+1)=cntP q j+1:=by rw [cntP,h2];rfl
  have m1:=qjT (q:=q) (show i+1≤j by omega)
  have m2:=qjT (q:=q) (show j+1≤n by omega)
  omega
theorem qmZ {q:Nat→Bool} {n i j:Nat} (hn:cntP q n≤1) (hi:i<n) (hj:j<n) (h1:q i=true) (h2:q j=true):i=j:=by
  rcases Nat.lt_trichotomy i j with h|h|h
  · have:=qkW h hj h1 h2;omega
  · exact h
  · have:=qkW h hi h2 h1;omega
def clkIx (ps:List qI):Int:=ixL (fun p=>p.Av) ps
def clkAt (ps:List qI) (x:Int):Bool:=(gt ps x.toNat).Av
theorem qmW {c:ql} (hl:c.Am.length≤1048576):Ev (fun n=>qdW n c) (clkIx c.Am):=by
  unfold qdW
  refine Ev.bind (b:=clkIx c.Am) ?_ .done
  exact qev (fin:=(c.Am.length:Int)) (Lf:=qv c.Am) (pf:=fun n x=>qd9 n x) (fun _ _=>.done)
    (fun n=>by simp only [qv,qg (je _),cond_false])
    (fun n j x hx=>by
      have hj:=(List.getElem?_eq_some_iff.1 hx).1
      simp only [qv,qh hj,cond_true,qV hx,jd,wS j])
    (fun n=>by unfold qal;congr 1;funext o;cases o<;>rfl)
def arcI (ps:List qI) (a:qE):Bool :=
  bif (a.Ar==4) || (a.Ar==5) then
    (a.Bc==0)&&(((a.Bb.length:Int)==0)&&(tablesB a.Au false&&((a.Ba==clkIx ps)&&(decide (a.Ba ≥ 0)&&(inI a.To 0 (ps.length-2)&&!(a.To==a.Ba))))))
  else
    (tablesB a.Au true&&(tablesB a.Bb true&&((a.To==(ps.length:Int)-1)&&inI a.Ba 0 (ps.length-2)))) &&
      (bif a.Ar==1 then !clkAt ps a.Ba&&inI a.Bc 1 3 else (bif (a.Ar==2) || (a.Ar==3) then clkAt ps a.Ba&&(a.Bc==0) else false))
def arcS (ps:List qI) (a:qE):Bool :=
  (inI a.Ba 0 (ps.length-2)&&inI a.To 0 (ps.length-1)) &&
    (bif a.Ar==1 then !clkAt ps a.Ba&&((a.To==(ps.length:Int)-1)&&(inI a.Bc 1 3&&(tablesB a.Au true&&tablesB a.Bb true)))
     else (bif (a.Ar==2) || (a.Ar==3) then clkAt ps a.Ba&&((a.To==(ps.length:Int)-1)&&((a.Bc==0)&&(tablesB a.Au true&&tablesB a.Bb true)))
     else (bif (a.Ar==4) || (a.Ar==5) then clkAt ps a.Ba&&(decide (a.To<(ps.length:Int)-1)&&(!clkAt ps a.To&&((a.Bc==0)&&(tablesB a.Au false&&((a.Bb.length:Int)==0))))) else false)))
theorem qit {c d:Bool}:(bif c then some c else some d)=some (c || d):=by cases c<;>rfl
theorem qkQ {c d:Bool}:(bif c then some true else some d)=some (c || d):=by cases c<;>rfl
theorem qjt {n:Nat} {k:Int}:qeb n k=some ((k==4) || (k==5)):=by simp only [qeb,qkQ]
theorem qm4 {c:ql} {a:qE} (h:okL qg3 c.Am) (ha:qgD a) (hm:2≤c.Am.length):Ev (fun n=>qdX n c a) (arcI c.Am a):=by
  have hl:=h.len
  have e1:W64 ((c.Am.length:Int)-1)=(c.Am.length:Int)-1:=qdo (by omega)
  have e2:W64 ((c.Am.length:Int)-1-1)=(c.Am.length:Int)-2:=by rw [qcL (by omega) (by omega)];omega
  simp only [qdX,qjt,jd,qda,qbT,qaP,e1,e2,qcH,qit,bne]
  unfold arcI
  refine Ev.iff (fun _=>Ev.last ?_) (fun _=>Ev.guardB ?_ (fun hb=>?_))
  · exact Ev.andP fun _=>Ev.andP fun _=>Ev.and (qgo ha.Au) fun _=>Ev.bind (qmW hl) (Ev.andP fun _=>Ev.andP fun _=>Ev.andP fun _=>.done)
  · refine Ev.or (qgo ha.Au) fun _=>Ev.or (qgo ha.Bb) fun _=>?_
    simp only [qbc]
    exact Ev.orBP fun _=>.done
  · have hf:0≤a.Ba∧a.Ba≤(c.Am.length:Int)-2:=by
      simp only [jg,qcd] at hb
      exact hb.2.2.2
    simp only [qjh hf.1 (show a.Ba<(c.Am.length:Int) by omega),jd]
    exact Ev.iff (fun _=>Ev.andP fun _=>.done) (fun _=>Ev.iff (fun _=>Ev.andP fun _=>.done) (fun _=>.done))
theorem qlV {c:ql} {a:qE} (h:okL qg3 c.Am) (ha:qgD a) (hm:2≤c.Am.length):Ev (fun n=>qf6 n c a) (arcS c.Am a):=by
  have hl:=h.len
  have e1:W64 ((c.Am.length:Int)-1)=(c.Am.length:Int)-1:=qdo (by omega)
  have e2:W64 ((c.Am.length:Int)-1-1)=(c.Am.length:Int)-2:=by rw [qcL (by omega) (by omega)];omega
  simp only [qf6,jd,e1,e2,qdq,qit]
  unfold arcS
  refine Ev.guardB ?_ (fun hb=>?_)
  · simp only [qbc]
    exact Ev.orBP fun _=>.done
  · have hf:(0≤a.Ba∧a.Ba≤(c.Am.length:Int)-2)∧(0≤a.To∧a.To≤(c.Am.length:Int)-1):=by
      simp only [jg,qcd] at hb
      exact hb
    simp only [qjh hf.1.1 (show a.Ba<(c.Am.length:Int) by omega),qjh hf.2.1 (show a.To<(c.Am.length:Int) by omega),jd]
    refine Ev.iff (fun _=>?_) (fun _=>Ev.iff (fun _=>?_) (fun _=>Ev.iff (fun _=>?_) (fun _=>.done)))
    · exact Ev.andP fun _=>Ev.andP fun _=>Ev.andP fun _=>Ev.and (qet ha.Au) fun _=>Ev.last (qet ha.Bb)
    · exact Ev.andP fun _=>Ev.andP fun _=>Ev.andP fun _=>Ev.and (qet ha.Au) fun _=>Ev.last (qet ha.Bb)
    · exact Ev.andP fun _=>Ev.andP fun _=>Ev.andP fun _=>Ev.andP fun _=>Ev.and (qet ha.Au) fun _=>.done
theorem qif {ps:List qI} (h1:clkN ps ps.length≤1) {x:Int} (hx:0≤x):clkIx ps=x↔x<ps.length∧clkAt ps x=true:=by
  unfold clkIx ixL
  cases hf:ps.findIdx? (fun p=>p.Av) with
  | some j =>
    obtain ⟨hj,hp,_⟩:=List.findIdx?_eq_some_iff_getElem.1 hf
    have hpj:(gt ps j).Av=true:=by rw [qhx hj];exact hp
    constructor
    · intro e
      have e:(j:Int)=x:=e
      subst e
      exact ⟨by omega,by unfold clkAt;rw [Int.toNat_natCast];exact hpj⟩
    · rintro ⟨hl,hc⟩
      have:=qmZ h1 hj (show x.toNat<ps.length by omega) hpj hc
      show (j:Int)=x
      omega
  | none =>
    have hn:=List.findIdx?_eq_none_iff.1 hf
    constructor
    · intro e
      have e:(-1:Int)=x:=e
      omega
    · rintro ⟨hl,hc⟩
      have hxl:x.toNat<ps.length:=by omega
      unfold clkAt at hc
      rw [qhx hxl] at hc
      have:=hn _ (jn hxl)
      rw [hc] at this
      exact absurd this (by decide)
theorem qfx {ps:List qI} (h:pinsB ps=true):(2≤ps.length∧ps.length≤5)∧clkAt ps ((ps.length:Int)-1)=false:=by
  unfold pinsB lenB at h
  simp only [jg,decide_eq_true_eq] at h
  refine ⟨h.2.1,?_⟩
  have h1:=qat.1 h.1 (ps.length-1) (by omega)
  unfold pinB at h1
  rw [show decide (ps.length-1+1=ps.length)=true by simp;omega] at h1
  simp only [cond_true,jg,jA] at h1
  unfold clkAt
  rw [show ((ps.length:Int)-1).toNat=ps.length-1 by omega]
  exact h1.2.2
theorem qm8 {ps:List qI} {a:qE} (h:pinsB ps=true) (h1:clkN ps ps.length≤1):arcI ps a=arcS ps a:=by
  obtain ⟨⟨hm,hm5⟩,hlast⟩:=qfx h
  rw [ji]
  unfold arcI arcS
  cases h45:((a.Ar==4) || (a.Ar==5)) with
  | true =>
    have k1:(a.Ar==1)=false:=by simp at h45 ⊢;omega
    have k23:((a.Ar==2) || (a.Ar==3))=false:=by simp at h45 ⊢;omega
    rw [k1,k23]
    simp only [cond_true,cond_false,jg,qcd,decide_eq_true_eq,beq_iff_eq,jA,beq_eq_false_iff_ne,ne_eq]
    constructor
    · rintro ⟨hs,hsl,hd,hf,hf0,ht,hne⟩
      obtain ⟨hl,hc⟩:=(qif h1 hf0).1 hf.symm
      have hfl:a.Ba ≠ (ps.length:Int)-1:=by intro e;rw [e,hlast] at hc;cases hc
      refine ⟨⟨⟨hf0,by omega⟩,⟨ht.1,by omega⟩⟩,hc,by omega,?_,hs,hd,hsl⟩
      cases hct:clkAt ps a.To with
      | false=>rfl
      | true =>
        have:=(qif h1 ht.1).2 ⟨by omega,hct⟩
        omega
    · rintro ⟨⟨hf,ht⟩,hc,hlt,hct,hs,hd,hsl⟩
      have:=(qif h1 hf.1).2 ⟨by omega,hc⟩
      refine ⟨hs,hsl,hd,this.symm,hf.1,⟨ht.1,by omega⟩,?_⟩
      intro e
      rw [e,hc] at hct
      cases hct
  | false =>
    simp only [cond_false,jg,qcd,beq_iff_eq]
    cases (a.Ar==1)
    · cases ((a.Ar==2) || (a.Ar==3))
      · simp
      · simp only [cond_true,cond_false,jg,beq_iff_eq]
        constructor
        · rintro ⟨⟨h1,h2,h3,h4⟩,h5,h6⟩
          exact ⟨⟨h4,by omega⟩,h5,h3,h6,h1,h2⟩
        · rintro ⟨⟨h4,h7⟩,h5,h3,h6,h1,h2⟩
          exact ⟨⟨h1,h2,h3,h4⟩,h5,h6⟩
    · simp only [cond_true,jg,qcd,jA,beq_iff_eq]
      constructor
      · rintro ⟨⟨h1,h2,h3,h4⟩,h5,h6⟩
        exact ⟨⟨h4,by omega⟩,h5,h3,h6,h1,h2⟩
      · rintro ⟨⟨h4,h7⟩,h5,h3,h6,h1,h2⟩
        exact ⟨⟨h1,h2,h3,h4⟩,h5,h6⟩
theorem qj1 {ps:List qI} {a:qE} (h:arcS ps a=true):1≤a.Ar∧a.Ar≤5:=by
  unfold arcS at h
  rw [jg] at h
  have h:=h.2
  cases h1:(a.Ar==1)
  · cases h2:((a.Ar==2) || (a.Ar==3))
    · cases h4:((a.Ar==4) || (a.Ar==5))
      · rw [h1,h2,h4] at h;cases h
      · simp at h4;omega
    · simp at h2;omega
  · simp at h1;omega
def sameArc (x y:qE):Bool:=(x.Ar==y.Ar)&&((x.Ba==y.Ba)&&(x.To==y.To))
def newArc (ar:List qE) (j:Nat):Bool:=allN (fun i=>!sameArc (gt ar i) (gt ar j)) j
theorem qlo {c:ql} (h:okL qg3 c.Am) (ha:okL qgD c.Af) (hm:2≤c.Am.length):Ev (fun n=>qdd n c) (allN (fun j=>arcI c.Am (gt c.Af j)&&newArc c.Af j) c.Af.length&&decide (c.Af.length≤8)):=by
  have hl:=ha.len
  have h1:∀ (ar:List qE) (y:qE),ar.length≤1048576→Ev (fun n=>qG n ar y) (ar.any fun x=>sameArc x y):=by
    intro ar y hl
    unfold qG
    refine Ev.bind (b:=ixL (fun x=>sameArc x y) ar) (qev (fin:=(ar.length:Int)) (Lf:=qt ar y) (pf:=fun n x=>qcw n x y) (fun x _=>?_)
      (fun n=>by simp only [qt,qg (je _),cond_false])
      (fun n j x hx=>by
        have hj:=(List.getElem?_eq_some_iff.1 hx).1
        simp only [qt,qh hj,cond_true,qV hx,jd,wS j])
      (fun n=>by unfold qab;congr 1;funext o;cases o<;>rfl)) (Ev.now (by rw [qgS]))
    unfold qcw sameArc
    exact Ev.andP fun _=>Ev.andP fun _=>.done
  have hL:Ev (fun n=>qaR c n 0) (bif allN (fun j=>arcI c.Am (gt c.Af j)&&newArc c.Af j) c.Af.length then .nxt (c.Af.length:Int) else .ret false):=by
    refine qco ?_ (fun j hj X hX=>Ev.succ ?_)
    · exact Ev.succ (by simp only [qaR,qg (je _),cond_false];exact .done)
    · simp only [qaR,qh hj,cond_true,qaM hj,jd,qmh (Nat.le_of_lt hj),wS j]
      refine Ev.chk (qm4 h (qgY ha hj) hm) fun _=>Ev.chkT1 ?_ (fun _=>hX)
      refine (h1 _ _ (by simp;omega)).cast ?_
      rw [qmM (Nat.le_of_lt hj)];rfl
  unfold qdd
  refine Ev.bind hL ?_
  cases allN (fun j=>arcI c.Am (gt c.Af j)&&newArc c.Af j) c.Af.length
  · exact .done
  · refine Ev.now ?_
    show some (decide ((c.Af.length:Int)≤((8:Nat):Int)))=some (true&&decide (c.Af.length≤8))
    rw [qhl,jy]
def hasB (ar:List qE) (k:Int):Bool:=ar.any fun a=>a.Ar==k
theorem qih {c:ql} {k:Int} (hl:c.Af.length≤1048576):Ev (fun n=>qbj n c k) (hasB c.Af k):=by
  unfold qbj qaj
  exact Ev.last (Ev.bind (b:=ixL (fun x=>x.Ar==k) c.Af) (qev (fin:=(c.Af.length:Int)) (Lf:=qw c.Af k) (pf:=fun n x=>qe8 n x k) (fun x _=>.done)
      (fun n=>by simp only [qw,qg (je _),cond_false])
      (fun n j x hx=>by
        have hj:=(List.getElem?_eq_some_iff.1 hx).1
        simp only [qw,qh hj,cond_true,qV hx,jd,wS j])
      (fun n=>by unfold qap;congr 1;funext o;cases o<;>rfl)) (Ev.now (by rw [qgS];rfl)))
def kindN (ar:List qE) (k:Nat) (j:Nat):Nat:=cntP (fun i=>(gt ar i).Ar==(k:Int)) j
theorem qjV {ar:List qE} {k:Nat}:decide (((kindN ar k ar.length:Nat):Int) > 0)=hasB ar k:=by
  rw [show decide (((kindN ar k ar.length:Nat):Int) > 0)=decide (0<kindN ar k ar.length) by simp]
  unfold kindN hasB
  rw [qmP,qmD]
theorem qk5 {ar:List qE} {k:Nat}:(((kindN ar k ar.length:Nat):Int)==0) = !hasB ar k:=by
  rw [←qjV,ji];simp
theorem qkA {c:ql} (ha:okL qgD c.Af) (hk:∀ j,j<c.Af.length→1≤(gt c.Af j).Ar∧(gt c.Af j).Ar≤5):Ev (fun n=>qeE n c) (vecC (fun k=>kindN c.Af k c.Af.length) 6):=by
  have hl:=ha.len
  have hL:Ev (fun n=>qbd c n (vecC (fun _=>0) 6) 0) (vecC (fun k=>kindN c.Af k c.Af.length) 6,(c.Af.length:Int)):=by
    refine loopF (Lf:=qbd c) (S:=fun j=>vecC (fun k=>kindN c.Af k j) 6) (len:=c.Af.length) (fun n=>?_) (fun j hj X hX=>?_)
    · simp only [qbd,qg (je _),cond_false]
    · obtain ⟨k1,k5⟩:=hk j hj
      have ek:(gt c.Af j).Ar=(((gt c.Af j).Ar.toNat:Nat):Int):=qls (by omega)
      have hc:kindN c.Af (gt c.Af j).Ar.toNat j≤j:=qej
      simp only [qbd,qh hj,cond_true,qaM hj,jd,wS j]
      rw [ek,qfB (show (gt c.Af j).Ar.toNat<6 by omega)]
      simp only [jd]
      rw [qjU (c:=fun k=>kindN c.Af k j) (by show kindN c.Af _ j<_;omega)]
      have:vecC (fun i=>kindN c.Af i j+(bif decide ((gt c.Af j).Ar.toNat=i) then 1 else 0)) 6=vecC (fun k=>kindN c.Af k (j+1)) 6:=by
        refine qfP (fun k _=>?_)
        show _=kindN c.Af k j+(bif (gt c.Af j).Ar==(k:Int) then 1 else 0)
        congr 2
        rw [ji];simp;omega
      rw [this]
      exact hX
  unfold qeE
  rw [show mkS 6 (0:Int)=some (vecC (fun _=>0) 6) from qhm (m:=6) (by omega)]
  simp only [jd]
  exact Ev.bind hL .done
def kindB (c:ql):Bool :=
  bif c.Ar==1 then (((clkN c.Am c.Am.length:Nat):Int)==0)&&(((c.Az.length:Int)==((2 ^ (c.Am.length-1):Nat):Int))&&(c.Az.all fun x=>inI x 0 1))
  else bif c.Ar==2 then (((clkN c.Am c.Am.length:Nat):Int)==1)&&(((c.Az.length:Int)==0)&&(!hasB c.Af 1&&!(hasB c.Af 2==hasB c.Af 3)))
  else bif c.Ar==3 then (((clkN c.Am c.Am.length:Nat):Int)==1)&&(((c.Az.length:Int)==0)&&(hasB c.Af 1&&(hasB c.Af 2&&!hasB c.Af 3)))
  else false
theorem qjR {c:ql} (h:kindB c=true):clkN c.Am c.Am.length≤1:=by
  unfold kindB at h
  cases h1:(c.Ar==1)
  · cases h2:(c.Ar==2)
    · cases h3:(c.Ar==3)
      · rw [h1,h2,h3] at h;cases h
      · rw [h1,h2,h3] at h
        simp only [cond_true,cond_false,jg,beq_iff_eq] at h
        omega
    · rw [h1,h2] at h
      simp only [cond_true,cond_false,jg,beq_iff_eq] at h
      omega
  · rw [h1] at h
    simp only [cond_true,jg,beq_iff_eq] at h
    omega
theorem qkL {m:Nat} (h1:2≤m) (h2:m≤5):shlS 1 (W64 ((m:Int)-1))=some ((2 ^ (m-1):Nat):Int)∧shlS 1 (IntKind.wrap .u64 (W64 ((m:Int)-1)))=some ((2 ^ (m-1):Nat):Int):=by
  have:m=2∨m=3∨m=4∨m=5:=by omega
  rcases this with rfl|rfl|rfl|rfl<;>exact ⟨by decide,by decide⟩
theorem qkN {c:ql} (hc:qhf c) (hm:2≤c.Am.length) (hm5:c.Am.length≤5):Ev (fun n=>qcQ n c) (kindB c):=by
  have hl:=hc.Am.len
  have hL:Ev (fun n=>qac c n 0 0) (((clkN c.Am c.Am.length:Nat):Int),(c.Am.length:Int)):=by
    refine loopF (Lf:=qac c) (S:=fun j=>((clkN c.Am j:Nat):Int)) (len:=c.Am.length) (fun n=>?_) (fun j hj X hX=>?_)
    · simp only [qac,qg (je _),cond_false]
    · have hn:clkN c.Am j≤j:=qej
      simp only [qac,qh hj,cond_true,qaM hj,jd,wS j,qh2 (show clkN c.Am j<9223372036854775807 by omega)]
      have hck:clkN c.Am (j+1)=clkN c.Am j+(bif (gt c.Am j).Av then 1 else 0):=rfl
      rw [hck] at hX
      cases hc:(gt c.Am j).Av
      · rw [hc] at hX;exact Ev.ff rfl hX
      · rw [hc] at hX;exact Ev.tt rfl hX
  unfold qcQ kindB
  refine Ev.bind hL ?_
  simp only [qbT,qaP,jd,(qkL hm hm5).1]
  have hal:=hc.Af.len
  refine Ev.iff (fun _=>?_) (fun _=>Ev.iff (fun _=>?_) (fun _=>Ev.iff (fun _=>?_) (fun _=>.done)))
  · exact Ev.andP fun _=>Ev.andP fun _=>Ev.last (qdw hc.Az.len)
  · exact Ev.andP fun _=>Ev.andP fun _=>Ev.bind (qih hal) (Ev.andP fun _=>Ev.bind (qih hal) (Ev.bind (qih hal) .done))
  · exact Ev.andP fun _=>Ev.andP fun _=>Ev.and (qih hal) fun _=>Ev.and (qih hal) fun _=>Ev.bind (qih hal) .done
def cellB (c:ql):Bool :=
  nameB c.Ap&&(pinsB c.Am&&((allN (fun j=>arcI c.Am (gt c.Af j)&&newArc c.Af j) c.Af.length&&decide (c.Af.length≤8))&&(inI c.Bo 0 100000&&(inI c.Be 0 100000&&kindB c))))
theorem qmd {c:ql} (hc:qhf c):Ev (fun n=>qf7 n c) (cellB c):=by
  simp only [qf7,qj6 hc.Ap,qcH,jd]
  unfold cellB
  refine Ev.andP fun _=>Ev.and (qlq hc.Am) fun hp=>?_
  obtain ⟨⟨hm,hm5⟩,_⟩:=qfx hp
  exact Ev.and (qlo hc.Am hc.Af hm) fun _=>Ev.andP fun _=>Ev.andP fun _=>Ev.last (qkN hc hm hm5)
theorem qln {c:ql} (hc:qhf c):Ev (fun n=>qf3 n c) (cellB c):=by
  have hal:=hc.Af.len
  have htl:=hc.Az.len
  have e:cellB c=((pinsB c.Am&&(nameB c.Ap&&(decide (c.Af.length≤8)&&(inI c.Bo 0 100000&&inI c.Be 0 100000))))&&(allN (fun j=>arcS c.Am (gt c.Af j)&&newArc c.Af j) c.Af.length&&kindB c)):=by
    unfold cellB
    cases hk:kindB c
    · simp
    · cases hp:pinsB c.Am
      · simp
      · rw [qd1 (fun j _=>by rw [qm8 hp (qjR hk)])]
        cases nameB c.Ap<;>cases allN (fun j=>arcS c.Am (gt c.Af j)&&newArc c.Af j) c.Af.length<;>cases decide (c.Af.length≤8)<;>cases inI c.Bo 0 100000<;>cases inI c.Be 0 100000<;>rfl
  rw [e]
  unfold qf3
  refine Ev.bind (qlf hc.Am) ?_
  cases hp:pinsB c.Am
  · exact .done
  · obtain ⟨⟨hm,hm5⟩,_⟩:=qfx hp
    simp only [cond_true,jy,Bool.not_true,cond_false]
    refine Ev.guardB ?_ (fun _=>?_)
    · simp only [qdq,jd,qbc]
      refine Ev.orB (qhN hc.Ap) fun _=>?_
      rw [show decide ((c.Af.length:Int) > 8) = !decide (c.Af.length≤8) by rw [ji];simp;omega,qbc]
      exact Ev.orBP fun _=>Ev.orBP fun _=>.done
    · have hL2:∀ j,j<c.Af.length→Ev (fun n=>qbp c (j:Int) (gt c.Af j) n 0) (bif newArc c.Af j then .nxt (j:Int) else .ret false):=by
        intro j hj
        refine qco ?_ (fun i hi X hX=>Ev.succ ?_)
        · exact Ev.succ (by simp only [qbp,qg (je _),cond_false];exact .done)
        · simp only [qbp,qh hi,cond_true,qaM (show i<c.Af.length by omega),jd,wS i]
          unfold sameArc
          cases ((gt c.Af i).Ar==(gt c.Af j).Ar)
          · exact hX
          · cases ((gt c.Af i).Ba==(gt c.Af j).Ba)
            · exact hX
            · cases ((gt c.Af i).To==(gt c.Af j).To)
              · exact hX
              · exact .done
      have hL1:Ev (fun n=>qcx c n 0) (bif allN (fun j=>arcS c.Am (gt c.Af j)&&newArc c.Af j) c.Af.length then .nxt (c.Af.length:Int) else .ret false):=by
        refine qco ?_ (fun j hj X hX=>Ev.succ ?_)
        · exact Ev.succ (by simp only [qcx,qg (je _),cond_false];exact .done)
        · simp only [qcx,qh hj,cond_true,qaM hj,jd,wS j]
          refine Ev.chk (qlV hc.Am (qgY hc.Af hj) hm) fun _=>Ev.bind (hL2 j hj) ?_
          cases newArc c.Af j
          · exact .done
          · exact hX
      have hL3:Ev (fun n=>qcC c n 0) (bif (c.Az.all fun x=>inI x 0 1) then .nxt (c.Az.length:Int) else .ret false) :=
        qek (fun n=>by simp only [qcC,qg (je _),cond_false]) (fun j hj X hX=>by
          simp only [qcC,qh hj,cond_true,qd3 hj,jd,qdq,wS j,qbc]
          exact Ev.okP1 fun _=>hX)
      refine Ev.bind hL1 ?_
      cases hA:allN (fun j=>arcS c.Am (gt c.Af j)&&newArc c.Af j) c.Af.length
      · exact .done
      · have hk:∀ j,j<c.Af.length→1≤(gt c.Af j).Ar∧(gt c.Af j).Ar≤5:=fun j hj=>by
          have:=qat.1 hA j hj
          rw [jg] at this
          exact qj1 this.1
        simp only [cond_true,jy]
        refine Ev.bind (qkA hc.Af hk) ?_
        simp only [(qkL hm hm5).2,jd,
          show idx (vecC (fun k=>kindN c.Af k c.Af.length) 6) (1:Int)=some ((kindN c.Af 1 c.Af.length:Nat):Int) from qfB (k:=1) (by omega),
          show idx (vecC (fun k=>kindN c.Af k c.Af.length) 6) (2:Int)=some ((kindN c.Af 2 c.Af.length:Nat):Int) from qfB (k:=2) (by omega),
          show idx (vecC (fun k=>kindN c.Af k c.Af.length) 6) (3:Int)=some ((kindN c.Af 3 c.Af.length:Nat):Int) from qfB (k:=3) (by omega),qjV,qk5]
        unfold kindB
        refine Ev.iff (fun _=>?_) (fun _=>Ev.iff (fun _=>?_) (fun _=>Ev.iff (fun _=>?_) (fun _=>.done)))
        · refine Ev.bind hL3 ?_
          cases (c.Az.all fun x=>inI x 0 1)
          · exact Ev.now (by simp)
          · exact (Ev.andP (fun _=>.done)).cast (by rw [Bool.and_true])
        · refine (Ev.andP fun _=>Ev.andP fun _=>Ev.andP fun _=>.done).cast ?_
          cases (((clkN c.Am c.Am.length:Nat):Int)==1)<;>cases ((c.Az.length:Int)==0)<;>cases hasB c.Af ((1:Nat):Int)<;>cases hasB c.Af ((2:Nat):Int)<;>cases hasB c.Af ((3:Nat):Int)<;>rfl
        · refine (Ev.andP fun _=>Ev.andP fun _=>Ev.andP fun _=>Ev.andP fun _=>.done).cast ?_
          cases (((clkN c.Am c.Am.length:Nat):Int)==1)<;>cases ((c.Az.length:Int)==0)<;>cases hasB c.Af ((1:Nat):Int)<;>cases hasB c.Af ((2:Nat):Int)<;>cases hasB c.Af ((3:Nat):Int)<;>rfl
def libB (l:qm):Bool:=l.Ai.all cellB&&(decide (l.Ai.length≤8)&&namesB (l.Ai.map ql.Ap))
theorem qkf {l:qm} (h:qd0 l):Ev (fun n=>qee n l) (libB l):=by
  have hl:=h.Ai.len
  have hL:Ev (fun n=>qaX l n ([]:List ByteArray) 0) (bif allN (fun j=>cellB (gt l.Ai j)) l.Ai.length then .nxt (l.Ai.map ql.Ap,(l.Ai.length:Int)) else .ret false):=by
    refine loopN (Lf:=qaX l) (S:=fun j=>(l.Ai.take j).map ql.Ap) (fun j=>cellB (gt l.Ai j)) (fun n=>?_) (fun j hj hp X hX=>?_)
    · simp only [qaX,qg (je _),cond_false,List.take_length]
    · simp only [qaX,qh hj,cond_true,qaM hj,jd,qgd hj hl,qdD (g:=ql.Ap) hj,wS j]
      exact Ev.chk1 (qmd (qgY h.Ai hj)) hX
  unfold qee libB
  rw [qfT]
  refine Ev.bind hL ?_
  cases allN (fun j=>cellB (gt l.Ai j)) l.Ai.length
  · exact .done
  · simp only [cond_true,jy,show decide ((l.Ai.length:Int)≤8)=decide (l.Ai.length≤8) from qhl (k:=8)]
    exact Ev.andP fun _=>Ev.last (qeW (qhe h.Ai (fun x hx=>hx.Ap)))
end Go.Fw


namespace Go.Fw
open Go
set_option maxRecDepth 100000
theorem qlc {c:ql} (h:cellB c=true):nameB c.Ap=true:=by
 unfold cellB at h;rw [jg] at h;exact h.1
theorem qjm {c:ql} (h:cellB c=true):pinsB c.Am=true:=by
 unfold cellB at h;simp only [jg] at h;exact h.2.1
theorem qjK {l:qm} (h:qd0 l):Ev (fun n=>qen n l) (libB l):=by
 have hl:=h.Ai.len
 have hL2:∀ j,j<l.Ai.length→Ev (fun n=>qbw l (j:Int) n 0) (bif allN (neB (l.Ai.map ql.Ap) j) j then .nxt (j:Int) else .ret false):=by
  intro j hj
  refine qco ?_ (fun i hi X hX=>Ev.succ ?_)
  ·exact Ev.succ (by simp only [qbw,qg (je _),cond_false];exact .done)
  ·simp only [qbw,qh hi,cond_true,qaM (show i<l.Ai.length by omega),qaM hj,jd,qdQ,wS i]
   unfold neB
   rw [qfu (g:=ql.Ap) (show i<l.Ai.length by omega),qfu (g:=ql.Ap) hj]
   exact Ev.chkP1 (fun _=>hX)
 have hL1:Ev (fun n=>qbu l n 0) (bif allN (fun j=>cellB (gt l.Ai j)&&allN (neB (l.Ai.map ql.Ap) j) j) l.Ai.length then .nxt (l.Ai.length:Int) else .ret false):=by
  refine qco ?_ (fun j hj X hX=>Ev.succ ?_)
  ·exact Ev.succ (by simp only [qbu,qg (je _),cond_false];exact .done)
  ·simp only [qbu,qh hj,cond_true,qaM hj,jd,wS j]
   refine Ev.chk (qln (qgY h.Ai hj)) fun _=>Ev.bind (hL2 j hj) ?_
   cases allN (neB (l.Ai.map ql.Ap) j) j
   ·exact .done
   ·exact hX
 have e:libB l=(allN (fun j=>cellB (gt l.Ai j)&&allN (neB (l.Ai.map ql.Ap) j) j) l.Ai.length&&decide (l.Ai.length≤8)):=by
  unfold libB namesB
  rw [qfT,List.length_map,Bool.and_comm (decide (l.Ai.length≤8)),←Bool.and_assoc,←qg7]
  congr 1
  refine qd1 (fun j hj=>?_)
  rw [qfu (g:=ql.Ap) hj]
  cases hc:cellB (gt l.Ai j)
  ·rfl
  ·rw [qlc hc];rfl
 rw [e]
 unfold qen
 refine Ev.bind hL1 ?_
 cases allN (fun j=>cellB (gt l.Ai j)&&allN (neB (l.Ai.map ql.Ap) j) j) l.Ai.length
 ·exact .done
 ·refine Ev.now ?_
  show some (decide ((l.Ai.length:Int)≤((8:Nat):Int)))=some (true&&decide (l.Ai.length≤8))
  rw [qhl,jy]
theorem qgk {c c':Nat→Nat} {m:Nat} {x:Int} (h0:0≤x) (h1:x<m) (hc:c x.toNat<9223372036854775807) (he:∀ k,k<m→c' k=c k+(bif x==(k:Int) then 1 else 0)) :
  idx (vecC c m) x=some (c x.toNat:Int)∧setS (vecC c m) x (W64 ((c x.toNat:Int)+1))=vecC c' m:=by
 have ex:x=(x.toNat:Int):=qls h0
 have e1:=qfB (c:=c) (m:=m) (k:=x.toNat) (by omega)
 have e2:=qjU (c:=c) (m:=m) (k:=x.toNat) hc
 rw [←ex] at e1 e2
 refine ⟨e1,e2.trans (qfP (fun k hk=>?_))⟩
 rw [he k hk]
 congr 2
 rw [ji];simp;omega
def netB (d:qc) (x:Int):Bool:=inI x 0 ((d.Ah.length:Int)-1)
theorem qkZ {n:Nat} {d:qc} {x:Int} (hl:d.Ah.length≤1048576):qbx n d x=some (netB d x):=by
 simp only [qbx,qdZ,jd,qcH,qdo (show d.Ah.length≤9223372036854775807 by omega)];rfl
theorem qkc {n:Nat} {d:qc} {x:Int} (hl:d.Ah.length≤1048576):qU n x 0 (W64 ((d.Ah.length:Int)-1))=some (netB d x):=by
 rw [qdq,qdo (show d.Ah.length≤9223372036854775807 by omega)];rfl
def hasNamesB (d:qc):Bool:=(decide (d.Aa.length≤14)&&(decide (d.Ah.length≤30)&&decide (d.Ac.length≤8)))&&(namesB (d.Aa.map qd.Ap)&&(namesB d.Ah&&namesB (d.Ac.map qF.Ap)))
theorem qkF {d:qc} (h:qfw d):Ev (fun n=>qck n d) (hasNamesB d):=by
 have hli:=h.Aa.len
 have hlp:=h.Ac.len
 have hL1:Ev (fun n=>qak d n ([]:List ByteArray) 0) (d.Aa.map qd.Ap,(d.Aa.length:Int)):=by
  refine loopF (Lf:=qak d) (S:=fun j=>(d.Aa.take j).map qd.Ap) (len:=d.Aa.length) (fun n=>?_) (fun j hj X hX=>?_)
  ·simp only [qak,qg (je _),cond_false,List.take_length]
  ·simpa only [qak,qh hj,cond_true,qaM hj,jd,qgd hj hli,qdD (g:=qd.Ap) hj,wS j] using hX
 have hL2:Ev (fun n=>qah d n ([]:List ByteArray) 0) (d.Ac.map qF.Ap,(d.Ac.length:Int)):=by
  refine loopF (Lf:=qah d) (S:=fun j=>(d.Ac.take j).map qF.Ap) (len:=d.Ac.length) (fun n=>?_) (fun j hj X hX=>?_)
  ·simp only [qah,qg (je _),cond_false,List.take_length]
  ·simpa only [qah,qh hj,cond_true,qaM hj,jd,qgd hj hlp,qdD (g:=qF.Ap) hj,wS j] using hX
 unfold qck hasNamesB
 refine Ev.bind hL1 (Ev.bind hL2 ?_)
 simp only [List.length_map]
 rw [show decide ((d.Aa.length:Int)≤14)=decide (d.Aa.length≤14) from qhl (k:=14),show decide ((d.Ah.length:Int)≤30)=decide (d.Ah.length≤30) from qhl (k:=30),show decide ((d.Ac.length:Int)≤8)=decide (d.Ac.length≤8) from qhl (k:=8)]
 rw [Bool.and_assoc,Bool.and_assoc]
 exact Ev.andP fun _=>Ev.andP fun _=>Ev.andP fun _=>Ev.and (qeW (qhe h.Aa (fun x hx=>hx.Ap))) fun _=>Ev.and (qeW h.Ah) fun _=>Ev.last (qeW (qhe h.Ac (fun x hx=>hx.Ap)))
def instB (l:qm) (d:qc) (x:qd):Bool:=inI x.Bh 0 ((l.Ai.length:Int)-1)&&(((x.Ah.length:Int)==((gt l.Ai x.Bh.toNat).Am.length:Int))&&x.Ah.all (netB d))
theorem qjH {d:qc} {l:qm} {x:qd} (hn:d.Ah.length≤1048576) (hc:l.Ai.length≤1048576) (hx:x.Ah.length≤1048576):Ev (fun n=>qbJ n d l x) (instB l d x):=by
 simp only [qbJ,qc9,jd,qcH,qdo (show l.Ai.length≤9223372036854775807 by omega)]
 unfold instB
 refine Ev.andP fun hI=>?_
 rw [qcd] at hI
 rw [qjh hI.1 (by omega)]
 simp only [jd]
 refine Ev.andP fun _=>Ev.bind (b:=x.Ah.any fun y=>!netB d y) ?_ (Ev.now (by rw [qhS]))
 unfold qS
 exact Ev.bind (b:=ixL (fun y=>!netB d y) x.Ah) (qev (fin:=(x.Ah.length:Int)) (Lf:=qr x.Ah d) (pf:=fun n y=>qbl n y d) (fun y _=>⟨0,fun n _=>by simp only [qbl,qkZ hn,jd]⟩)
   (fun n=>by simp only [qr,qg (je _),cond_false])
   (fun n j y hx=>by
    have hj:=(List.getElem?_eq_some_iff.1 hx).1
    simp only [qr,qh hj,cond_true,qV hx,jd,wS j])
   (fun n=>by unfold qY;congr 1;funext o;cases o<;>rfl)) (Ev.now (by rw [qgS]))
def portB (d:qc) (p:qF):Bool:=inI p.Bf 1 2&&netB d p.Bi
theorem qop {x:Int}:inI x 1 2=((x==1) || (x==2)):=by
 unfold inI;rw [ji];simp;omega
def lastN (x:qd):Int:=at0 x.Ah (x.Ah.length-1)
theorem qkU {x:qd} (h1:1≤x.Ah.length) (h2:x.Ah.length≤1048576):idx x.Ah (W64 ((x.Ah.length:Int)-1))=some (lastN x):=by
 rw [qdo (by omega),show ((x.Ah.length:Int)-1)=((x.Ah.length-1:Nat):Int) by omega,qbi (by omega)];rfl
theorem ql1 {d:qc} {x:qd} (h1:1≤x.Ah.length) (h:x.Ah.all (netB d)=true):0≤lastN x∧lastN x<d.Ah.length:=by
 rw [qfz (d:=0),qat] at h
 have:=h (x.Ah.length-1) (by omega)
 unfold netB at this
 rw [qcd] at this
 unfold lastN at0
 omega
theorem qiY {l:qm} {d:qc} {x:qd} (hl:libB l=true) (h:instB l d x=true):1≤x.Ah.length∧0≤lastN x∧lastN x<d.Ah.length:=by
 unfold instB at h
 simp only [jg,qcd,beq_iff_eq] at h
 obtain ⟨h1,h2,h3⟩:=h
 unfold libB at hl
 simp only [jg] at hl
 have hc:=hl.1
 rw [qfT,qat] at hc
 have:=qfx (qjm (hc x.Bh.toNat (by omega)))
 have h4:1≤x.Ah.length:=by omega
 exact ⟨h4,ql1 h4 h3⟩
def drvI (d:qc) (k j:Nat):Nat:=cntP (fun i=>lastN (gt d.Aa i)==(k:Int)) j
def drvP (d:qc) (k j:Nat):Nat:=cntP (fun i=>((gt d.Ac i).Bf==1)&&((gt d.Ac i).Bi==(k:Int))) j
def drvB (d:qc):Bool:=allN (fun k=>((drvI d k d.Aa.length+drvP d k d.Ac.length:Nat):Int)==1) d.Ah.length
def designB (l:qm) (d:qc):Bool:=(libB l&&hasNamesB d)&&(d.Aa.all (instB l d)&&(d.Ac.all (portB d)&&drvB d))
theorem qj7 {d:qc} {k j:Nat}:drvI d k (j+1)=drvI d k j+(bif lastN (gt d.Aa j)==(k:Int) then 1 else 0):=rfl
theorem qhj {d:qc} {k j:Nat}:drvP d k (j+1)=drvP d k j+(bif ((gt d.Ac j).Bf==1)&&((gt d.Ac j).Bi==(k:Int)) then 1 else 0):=rfl
theorem qkM {l:qm} {d:qc} (h:qd0 l) (hd:qfw d):Ev (fun n=>qeG n l d) (designB l d):=by
 have hli:=hd.Aa.len
 have hlp:=hd.Ac.len
 have hln:=hd.Ah.len
 have hlc:=h.Ai.len
 unfold qeG designB
 refine Ev.guardB (Ev.or (qkf h) fun _=>Ev.neg (qkF hd)) fun hb=>?_
 rw [jg] at hb
 rw [qhm (m:=d.Ah.length) (by omega)]
 simp only [jd]
 have hL1:Ev (fun n=>qbg l d n (vecC (fun _=>0) d.Ah.length) 0) (bif allN (fun j=>instB l d (gt d.Aa j)) d.Aa.length then .nxt (vecC (fun k=>drvI d k d.Aa.length) d.Ah.length,(d.Aa.length:Int)) else .ret false):=by
  refine loopN (Lf:=qbg l d) (S:=fun j=>vecC (fun k=>drvI d k j) d.Ah.length) (fun j=>instB l d (gt d.Aa j)) (fun n=>?_) (fun j hj hp X hX=>?_)
  ·simp only [qbg,qg (je _),cond_false]
  ·simp only [qbg,qh hj,cond_true,qaM hj,jd,wS j]
   have hxl:=(qgY hd.Aa hj).Ah.len
   refine Ev.chk1 (qjH hln hlc hxl) fun hi=>?_
   obtain ⟨h1,h2,h3⟩:=qiY hb.1 hi
   have hc:drvI d (lastN (gt d.Aa j)).toNat j≤j:=qej
   obtain ⟨e1,e2⟩:=qgk (c:=fun k=>drvI d k j) (c':=fun k=>drvI d k (j+1)) h2 h3 (by show drvI _ _ _<_;omega) (fun k _=>qj7)
   simp only [qkU h1 hxl,jd,e1,e2]
   exact hX hi
 have hL2:Ev (fun n=>qaS d n (vecC (fun k=>drvI d k d.Aa.length) d.Ah.length) 0) (bif allN (fun j=>portB d (gt d.Ac j)) d.Ac.length then .nxt (vecC (fun k=>drvI d k d.Aa.length+drvP d k d.Ac.length) d.Ah.length,(d.Ac.length:Int)) else .ret false):=by
  refine loopN (Lf:=qaS d) (S:=fun j=>vecC (fun k=>drvI d k d.Aa.length+drvP d k j) d.Ah.length) (fun j=>portB d (gt d.Ac j)) (fun n=>?_) (fun j hj hp X hX=>?_)
  ·simp only [qaS,qg (je _),cond_false]
  ·simp only [qaS,qh hj,cond_true,qaM hj,jd,qkZ hln,bne,wS j]
   refine Ev.chkT1 ?_ fun hi=>?_
   ·unfold portB
    rw [qop]
    cases ((gt d.Ac j).Bf==1)<;>cases ((gt d.Ac j).Bf==2)<;>exact .done
   ·have hX:=hX hi
    unfold portB netB at hi
    simp only [jg,qcd] at hi
    have hc1:drvI d (gt d.Ac j).Bi.toNat d.Aa.length≤d.Aa.length:=qej
    have hc2:drvP d (gt d.Ac j).Bi.toNat j≤j:=qej
    cases h1:((gt d.Ac j).Bf==1)
    ·have:vecC (fun k=>drvI d k d.Aa.length+drvP d k (j+1)) d.Ah.length=vecC (fun k=>drvI d k d.Aa.length+drvP d k j) d.Ah.length:=by
      refine qfP (fun k _=>?_)
      rw [qhj,h1];rfl
     rw [this] at hX
     exact hX
    ·obtain ⟨e1,e2⟩:=qgk (c:=fun k=>drvI d k d.Aa.length+drvP d k j) (c':=fun k=>drvI d k d.Aa.length+drvP d k (j+1)) (x:=(gt d.Ac j).Bi) (m:=d.Ah.length) hi.2.1 (by omega) (by show drvI _ _ _+drvP _ _ _<_;omega) (fun k _=>by rw [qhj,h1,jy];omega)
     simp only [cond_true,jd,e1,e2]
     exact hX
 rw [qfT,qfT]
 refine Ev.bind hL1 ?_
 cases allN (fun j=>instB l d (gt d.Aa j)) d.Aa.length
 ·exact .done
 ·refine Ev.bind hL2 ?_
  cases allN (fun j=>portB d (gt d.Ac j)) d.Ac.length
  ·exact .done
  ·simp only [cond_true,jy]
   unfold qaw
   refine Ev.bind (b:=(vecC (fun k=>drvI d k d.Aa.length+drvP d k d.Ac.length) d.Ah.length).any fun x=>!(x==1)) (Ev.bind (b:=ixL (fun x=>!(x==1)) (vecC (fun k=>drvI d k d.Aa.length+drvP d k d.Ac.length) d.Ah.length)) (qev (fin:=(((vecC (fun k=>drvI d k d.Aa.length+drvP d k d.Ac.length) d.Ah.length).length:Nat):Int)) (Lf:=qA (vecC (fun k=>drvI d k d.Aa.length+drvP d k d.Ac.length) d.Ah.length)) (pf:=fun n y=>qe6 n y) (fun y _=>.done)
    (fun n=>by simp only [qA,qg (je _),cond_false])
    (fun n j y hx=>by
     have hj:=(List.getElem?_eq_some_iff.1 hx).1
     have:j<d.Ah.length:=by rw [qg9] at hj;exact hj
     simp only [qA,qh hj,cond_true,qV hx,jd,wS j])
    (fun n=>by unfold qaH;congr 1;funext o;cases o<;>rfl)) (Ev.now (by rw [qgS]))) (Ev.now ?_)
   rw [qhS,qfz (d:=0),qg9]
   unfold drvB
   congr 1
   exact qd1 (fun k hk=>by
    have:=qky (c:=fun k=>drvI d k d.Aa.length+drvP d k d.Ac.length) hk
    unfold at0 at this
    rw [this])
theorem qkI {l:qm} {d:qc} (h:qd0 l) (hd:qfw d):Ev (fun n=>qeJ n l d) (d.Aa.all (instB l d)&&d.Ac.all (portB d)):=by
 have hli:=hd.Aa.len
 have hlp:=hd.Ac.len
 have hln:=hd.Ah.len
 have hlc:=h.Ai.len
 have hL2:∀ x:qd,x.Ah.length≤1048576→Ev (fun n=>qbR d x n 0) (bif x.Ah.all (netB d) then .nxt (x.Ah.length:Int) else .ret false):=fun x hx =>
  qek (fun n=>by simp only [qbR,qg (je _),cond_false]) (fun j hj X hX=>by
   simp only [qbR,qh hj,cond_true,qd3 hj,jd,qkc hln,wS j,qbc]
   exact Ev.okP1 fun _=>hX)
 have hL1:Ev (fun n=>qbY l d n 0) (bif allN (fun j=>instB l d (gt d.Aa j)) d.Aa.length then .nxt (d.Aa.length:Int) else .ret false):=by
  refine qco ?_ (fun j hj X hX=>Ev.succ ?_)
  ·exact Ev.succ (by simp only [qbY,qg (je _),cond_false];exact .done)
  ·simp only [qbY,qh hj,cond_true,qaM hj,jd,qdq,qdo (show l.Ai.length≤9223372036854775807 by omega),wS j,bne]
   have hxl:=(qgY hd.Aa hj).Ah.len
   unfold instB
   rw [←Bool.and_assoc]
   refine Ev.chkT ?_ fun _=>Ev.bind (hL2 _ hxl) ?_
   ·simp only [qbc]
    refine Ev.orBP fun hI=>?_
    rw [qcd] at hI
    rw [qjh hI.1 (by omega)]
    exact .done
   ·cases (gt d.Aa j).Ah.all (netB d)
    ·exact .done
    ·exact hX
 have hL3:Ev (fun n=>qbS d n 0) (bif allN (fun j=>portB d (gt d.Ac j)) d.Ac.length then .nxt (d.Ac.length:Int) else .ret false):=by
  refine qco ?_ (fun j hj X hX=>Ev.succ ?_)
  ·exact Ev.succ (by simp only [qbS,qg (je _),cond_false];exact .done)
  ·simp only [qbS,qh hj,cond_true,qaM hj,jd,qkc hln,wS j]
   simp only [qdq,jd,qbc]
   unfold portB
   exact Ev.okP fun _=>Ev.okP1 fun _=>hX
 unfold qeJ
 rw [qfT,qfT]
 refine Ev.bind hL1 ?_
 cases allN (fun j=>instB l d (gt d.Aa j)) d.Aa.length
 ·exact .done
 ·refine Ev.bind hL3 ?_
  cases allN (fun j=>portB d (gt d.Ac j)) d.Ac.length<;>exact .done
theorem qkq {l:qm} {d:qc} (h:qd0 l) (hd:qfw d):Ev (fun n=>qeI n l d) (designB l d):=by
 have hli:=hd.Aa.len
 have hlp:=hd.Ac.len
 have hln:=hd.Ah.len
 have hlc:=h.Ai.len
 have e:designB l d=((libB l&&(decide (d.Aa.length≤14)&&(decide (d.Ah.length≤30)&&(decide (d.Ac.length≤8)&&(d.Aa.all (instB l d)&&d.Ac.all (portB d))))))&&((namesB (d.Aa.map qd.Ap)&&(namesB (d.Ac.map qF.Ap)&&namesB d.Ah))&&drvB d)):=by
  unfold designB hasNamesB
  generalize libB l=a1
  generalize decide (d.Aa.length≤14)=a2
  generalize decide (d.Ah.length≤30)=a3
  generalize decide (d.Ac.length≤8)=a4
  generalize d.Aa.all (instB l d)=a5
  generalize d.Ac.all (portB d)=a6
  generalize namesB (d.Aa.map qd.Ap)=a7
  generalize namesB (d.Ac.map qF.Ap)=a8
  generalize namesB d.Ah=a9
  generalize drvB d=a10
  rw [ji]
  simp only [jg]
  constructor
  ·rintro ⟨⟨h1,⟨h2,h3,h4⟩,h7,h9,h8⟩,h5,h6,h10⟩
   exact ⟨⟨h1,h2,h3,h4,h5,h6⟩,⟨h7,h8,h9⟩,h10⟩
  ·rintro ⟨⟨h1,h2,h3,h4,h5,h6⟩,⟨h7,h8,h9⟩,h10⟩
   exact ⟨⟨h1,⟨h2,h3,h4⟩,h7,h9,h8⟩,h5,h6,h10⟩
 rw [e]
 unfold qeI
 refine Ev.guardB ?_ fun hb=>?_
 ·refine Ev.or (qjK h) fun _=>?_
  rw [show decide ((d.Aa.length:Int) > 14) = !decide (d.Aa.length≤14) by rw [ji];simp;omega,show decide ((d.Ah.length:Int) > 30) = !decide (d.Ah.length≤30) by rw [ji];simp;omega,show decide ((d.Ac.length:Int) > 8) = !decide (d.Ac.length≤8) by rw [ji];simp;omega]
  simp only [qbc]
  exact Ev.orBP fun _=>Ev.orBP fun _=>Ev.orBP fun _=>Ev.neg (qkI h hd)
 ·simp only [jg] at hb
  obtain ⟨hlib,_,_,_,hI,hP⟩:=hb
  rw [qfT,qat] at hI hP
  have hL1:Ev (fun n=>qbf d n ([]:List ByteArray) 0) (d.Aa.map qd.Ap,(d.Aa.length:Int)):=by
   refine loopF (Lf:=qbf d) (S:=fun j=>(d.Aa.take j).map qd.Ap) (len:=d.Aa.length) (fun n=>?_) (fun j hj X hX=>?_)
   ·simp only [qbf,qg (je _),cond_false,List.take_length]
   ·simpa only [qbf,qh hj,cond_true,qaM hj,jd,qgd hj hli,qdD (g:=qd.Ap) hj,wS j] using hX
  have hL2:Ev (fun n=>qbe d n ([]:List ByteArray) 0) (d.Ac.map qF.Ap,(d.Ac.length:Int)):=by
   refine loopF (Lf:=qbe d) (S:=fun j=>(d.Ac.take j).map qF.Ap) (len:=d.Ac.length) (fun n=>?_) (fun j hj X hX=>?_)
   ·simp only [qbe,qg (je _),cond_false,List.take_length]
   ·simpa only [qbe,qh hj,cond_true,qaM hj,jd,qgd hj hlp,qdD (g:=qF.Ap) hj,wS j] using hX
  have hL3:Ev (fun n=>qbh d n (vecC (fun _=>0) d.Ah.length) 0) (vecC (fun k=>drvI d k d.Aa.length) d.Ah.length,(d.Aa.length:Int)):=by
   refine loopF (Lf:=qbh d) (S:=fun j=>vecC (fun k=>drvI d k j) d.Ah.length) (len:=d.Aa.length) (fun n=>?_) (fun j hj X hX=>?_)
   ·simp only [qbh,qg (je _),cond_false]
   ·have hxl:=(qgY hd.Aa hj).Ah.len
    obtain ⟨h1,h2,h3⟩:=qiY hlib (hI j hj)
    have hc:drvI d (lastN (gt d.Aa j)).toNat j≤j:=qej
    obtain ⟨e1,e2⟩:=qgk (c:=fun k=>drvI d k j) (c':=fun k=>drvI d k (j+1)) h2 h3 (by show drvI _ _ _<_;omega) (fun k _=>qj7)
    simpa only [qbh,qh hj,cond_true,qaM hj,jd,wS j,qkU h1 hxl,e1,e2] using hX
  have hL4:Ev (fun n=>qaT d n (vecC (fun k=>drvI d k d.Aa.length) d.Ah.length) 0) (vecC (fun k=>drvI d k d.Aa.length+drvP d k d.Ac.length) d.Ah.length,(d.Ac.length:Int)):=by
   refine loopF (Lf:=qaT d) (S:=fun j=>vecC (fun k=>drvI d k d.Aa.length+drvP d k j) d.Ah.length) (len:=d.Ac.length) (fun n=>?_) (fun j hj X hX=>?_)
   ·simp only [qaT,qg (je _),cond_false]
   ·have hi:=hP j hj
    unfold portB netB at hi
    simp only [jg,qcd] at hi
    have hc1:drvI d (gt d.Ac j).Bi.toNat d.Aa.length≤d.Aa.length:=qej
    have hc2:drvP d (gt d.Ac j).Bi.toNat j≤j:=qej
    simp only [qaT,qh hj,cond_true,qaM hj,jd,wS j]
    cases h1:((gt d.Ac j).Bf==1)
    ·have:vecC (fun k=>drvI d k d.Aa.length+drvP d k (j+1)) d.Ah.length=vecC (fun k=>drvI d k d.Aa.length+drvP d k j) d.Ah.length:=by
      refine qfP (fun k _=>?_)
      rw [qhj,h1];rfl
     rw [this] at hX
     exact hX
    ·obtain ⟨e1,e2⟩:=qgk (c:=fun k=>drvI d k d.Aa.length+drvP d k j) (c':=fun k=>drvI d k d.Aa.length+drvP d k (j+1)) (x:=(gt d.Ac j).Bi) (m:=d.Ah.length) hi.2.1 (by omega) (by show drvI _ _ _+drvP _ _ _<_;omega) (fun k _=>by rw [qhj,h1,jy];omega)
     simp only [cond_true,jd,e1,e2]
     exact hX
  have hL5:Ev (fun n=>qbP (vecC (fun _=>0) d.Ah.length) (vecC (fun k=>drvI d k d.Aa.length+drvP d k d.Ac.length) d.Ah.length) n 0) (bif drvB d then .nxt (d.Ah.length:Int) else .ret false):=by
   refine qco ?_ (fun j hj X hX=>Ev.succ ?_)
   ·exact Ev.succ (by simp only [qbP,qg9,qg (je _),cond_false];exact .done)
   ·simp only [qbP,qg9,qh hj,cond_true,qfB hj,jd,bne,qbc,wS j]
    exact Ev.okP1 fun _=>hX
  refine Ev.bind hL1 (Ev.bind hL2 ?_)
  refine Ev.guardB (Ev.or (qg4 (qhe hd.Aa (fun x hx=>hx.Ap))) fun _=>Ev.or (qg4 (qhe hd.Ac (fun x hx=>hx.Ap))) fun _=>Ev.neg (qg4 hd.Ah)) fun _=>?_
  rw [qhm (m:=d.Ah.length) (by omega)]
  simp only [jd]
  refine Ev.bind hL3 (Ev.bind hL4 (Ev.bind hL5 ?_))
  cases drvB d<;>exact .done
end Go.Fw


namespace Go.Fw
open Go
set_option maxRecDepth 100000
theorem qnT {m k:Nat}:decide ((m:Int)<(k:Int)) = !decide (k≤m):=by rw [ji];simp
theorem qnC {m k:Nat}:decide ((m:Int) > (k:Int)) = !decide (m≤k):=by rw [ji];simp
def treeB (w:qz) (j:Nat):Bool:=bif decide (j=0) then (at0 w.Aj j==-1)&&(at0 w.Bj j==0) else inI (at0 w.Aj j) 0 ((j:Int)-1)
def wireB (w:qz) (s:Int):Bool :=
 lenB w.Aj 1 8&&(((w.Bj.length:Int)==(w.Aj.length:Int))&&(((w.Bg.length:Int)==(w.Aj.length:Int))&&(allN (treeB w) w.Aj.length &&
  ((w.Bj.all fun x=>inI x 0 1000)&&((w.Bg.all fun x=>inI x 0 500)&&(((w.Bd.length:Int)==s)&&(w.Bd.all fun x=>inI x 0 ((w.Aj.length:Int)-1))))))))
theorem qmg {w:qz} (hl:w.Aj.length≤1048576) (hr:((w.Bj.length:Int)==(w.Aj.length:Int))=true):Ev (fun n=>qdI n w) (allN (treeB w) w.Aj.length):=by
 rw [beq_iff_eq] at hr
 have hL:Ev (fun n=>qad w n 0) (bif allN (treeB w) w.Aj.length then .nxt (w.Aj.length:Int) else .ret false):=by
  refine qco ?_ (fun j hj X hX=>Ev.succ ?_)
  ·exact Ev.succ (by simp only [qad,qg (je _),cond_false];exact .done)
  ·simp only [qad,qh hj,cond_true,qbi hj,jd,qcH,wS j,bne,qbc]
   unfold treeB
   by_cases h0:j=0
   ·subst h0
    rw [show idx w.Bj (0:Int)=some (at0 w.Bj 0) from qbi (j:=0) (by omega)]
    simp only [jd]
    refine Ev.tt (by simp) (Ev.okP fun _=>Ev.okP1 fun _=>Ev.ff (by simp) hX)
   ·have e1:decide (j=0)=false:=by simp;omega
    have e2:((j:Int)==0)=false:=by simp;omega
    have e3:decide ((j:Int) > 0)=true:=by simp;omega
    rw [e1,e2,e3,qdo (show j≤9223372036854775807 by omega)]
    simp only [cond_false,cond_true]
    exact Ev.okP1 fun _=>hX
 unfold qdI
 refine Ev.bind hL ?_
 cases allN (treeB w) w.Aj.length<;>exact .done
theorem ql7 {w:qz} {s:Int} (h:qhU w):Ev (fun n=>qf1 n w s) (wireB w s):=by
 have hl:=h.Aj.len
 simp only [qf1,qaI,jd,qcH,qdo (show w.Aj.length≤9223372036854775807 by omega)]
 unfold wireB
 rw [show inI (w.Aj.length:Int) 1 8=lenB w.Aj 1 8 from qkj (lo:=1) (hi:=8)]
 exact Ev.andP fun _=>Ev.andP fun hr=>Ev.andP fun _=>Ev.and (qmg hl hr) fun _=>Ev.and (qdw h.Bj.len) fun _=>Ev.and (qdw h.Bg.len) fun _=>Ev.andP fun _=>Ev.last (qdw h.Bd.len)
theorem qk7 {w:qz} {s:Int} (h:qhU w):Ev (fun n=>qf0 n w s) (wireB w s):=by
 have hl:=h.Aj.len
 have hsl:=h.Bd.len
 have e:wireB w s=((decide (1≤w.Aj.length)&&(decide (w.Aj.length≤8)&&(((w.Bj.length:Int)==(w.Aj.length:Int))&&(((w.Bg.length:Int)==(w.Aj.length:Int))&&((w.Bd.length:Int)==s)))))&&(allN (fun j=>(inI (at0 w.Bg j) 0 500&&inI (at0 w.Bj j) 0 1000)&&treeB w j) w.Aj.length&&(w.Bd.all fun x=>inI x 0 ((w.Aj.length:Int)-1)))):=by
  unfold wireB lenB
  cases h1:((w.Bj.length:Int)==(w.Aj.length:Int))
  ·simp
  ·cases h2:((w.Bg.length:Int)==(w.Aj.length:Int))
   ·simp
   ·rw [beq_iff_eq] at h1 h2
    rw [qg7,qg7]
    rw [qfz (p:=fun x=>inI x 0 1000) (d:=0),qfz (p:=fun x=>inI x 0 500) (d:=0),show w.Bj.length=w.Aj.length by omega,show w.Bg.length=w.Aj.length by omega]
    show _=(_&&((allN (fun j=>inI (w.Bg.getD j 0) 0 500) _&&allN (fun j=>inI (w.Bj.getD j 0) 0 1000) _&&_)&&_))
    generalize allN (fun j=>inI (w.Bg.getD j 0) 0 500) w.Aj.length=a1
    generalize allN (fun j=>inI (w.Bj.getD j 0) 0 1000) w.Aj.length=a2
    generalize allN (fun j=>treeB w j) w.Aj.length=a3
    generalize ((w.Bd.length:Int)==s)=a4
    generalize decide (1≤w.Aj.length)=a5
    generalize decide (w.Aj.length≤8)=a6
    generalize (w.Bd.all fun x=>inI x 0 ((w.Aj.length:Int)-1))=a7
    cases a1<;>cases a2<;>cases a3<;>cases a4<;>cases a5<;>cases a6<;>rfl
 rw [e]
 unfold qf0
 refine Ev.guardB ?_ fun hb=>?_
 ·rw [show decide ((w.Aj.length:Int)<1) = !decide (1≤w.Aj.length) from qnT (k:=1),show decide ((w.Aj.length:Int) > 8) = !decide (w.Aj.length≤8) from qnC (k:=8)]
  simp only [bne,qbc]
  exact Ev.orBP fun _=>Ev.orBP fun _=>Ev.orBP fun _=>Ev.orBP fun _=>.done
 ·simp only [jg,beq_iff_eq] at hb
  have hL1:Ev (fun n=>qaW w n 0) (bif allN (fun j=>(inI (at0 w.Bg j) 0 500&&inI (at0 w.Bj j) 0 1000)&&treeB w j) w.Aj.length then .nxt (w.Aj.length:Int) else .ret false):=by
   refine qco ?_ (fun j hj X hX=>Ev.succ ?_)
   ·exact Ev.succ (by simp only [qaW,qg (je _),cond_false];exact .done)
   ·simp only [qaW,qh hj,cond_true,qbi hj,qbi (show j<w.Bg.length by omega),qbi (show j<w.Bj.length by omega),jd,qdq,wS j,bne,qbc]
    refine Ev.chkT (Ev.orBP fun _=>.done) fun _=>?_
    unfold treeB
    by_cases h0:j=0
    ·subst h0
     refine Ev.tt (by simp) (Ev.okP fun _=>Ev.okP1 fun _=>Ev.ff (by simp) hX)
    ·have e1:decide (j=0)=false:=by simp;omega
     have e2:((j:Int)==0)=false:=by simp;omega
     have e3:decide ((j:Int) > 0)=true:=by simp;omega
     rw [e1,e2,e3,qdo (show j≤9223372036854775807 by omega)]
     simp only [cond_false,cond_true]
     exact Ev.okP1 fun _=>hX
  have hL2:Ev (fun n=>qcG w n 0) (bif (w.Bd.all fun x=>inI x 0 ((w.Aj.length:Int)-1)) then .nxt (w.Bd.length:Int) else .ret false) :=
   qek (fun n=>by simp only [qcG,qg (je _),cond_false]) (fun j hj X hX=>by
    simp only [qcG,qh hj,cond_true,qd3 hj,jd,qdq,qdo (show w.Aj.length≤9223372036854775807 by omega),wS j,qbc]
    exact Ev.okP1 fun _=>hX)
  refine Ev.bind hL1 ?_
  cases allN (fun j=>(inI (at0 w.Bg j) 0 500&&inI (at0 w.Bj j) 0 1000)&&treeB w j) w.Aj.length
  ·exact .done
  ·refine Ev.bind hL2 ?_
   cases (w.Bd.all fun x=>inI x 0 ((w.Aj.length:Int)-1))<;>exact .done
instance:Inhabited Tplace:=⟨⟨0,0,0,false⟩⟩
instance:Inhabited Tl05Place:=⟨⟨0,0,0,false⟩⟩
def toSp (p:Tplace):Tl05Place:=⟨p.instance_,p.pin,p.net,p.drives⟩
def plX (i:Nat) (x:qd) (j:Nat):List Tplace:=(List.range j).map fun (k:Nat)=>⟨(i:Int),(k:Int),at0 x.Ah k,decide (k+1=x.Ah.length)⟩
def plI (d:qc) (j:Nat):List Tplace:=(List.range j).flatMap fun (i:Nat)=>plX i (gt d.Aa i) (gt d.Aa i).Ah.length
def plP (d:qc) (j:Nat):List Tplace:=(List.range j).map fun (i:Nat)=>⟨-1,(i:Int),(gt d.Ac i).Bi,(gt d.Ac i).Bf==1⟩
def places (d:qc):List Tplace:=plI d d.Aa.length++plP d d.Ac.length
theorem qkz {i:Nat} {x:qd} {j:Nat}:plX i x (j+1)=plX i x j++[⟨(i:Int),(j:Int),at0 x.Ah j,decide (j+1=x.Ah.length)⟩]:=by
 unfold plX;rw [List.range_succ,List.map_append];rfl
theorem qi3 {d:qc} {j:Nat}:plI d (j+1)=plI d j++plX j (gt d.Aa j) (gt d.Aa j).Ah.length:=by
 unfold plI;rw [List.range_succ,List.flatMap_append];simp
theorem qkG {d:qc} {j:Nat}:plP d (j+1)=plP d j++[⟨-1,(j:Int),(gt d.Ac j).Bi,(gt d.Ac j).Bf==1⟩]:=by
 unfold plP;rw [List.range_succ,List.map_append];rfl
theorem qko {i:Nat} {x:qd} {j:Nat}:(plX i x j).length=j:=by simp [plX]
theorem qki {d:qc} {j:Nat}:(plP d j).length=j:=by simp [plP]
structure smallD (d:qc):Prop where
 ni:d.Aa.length≤14
 nn:d.Ah.length≤30
 np:d.Ac.length≤8
 nx:∀ i,i<d.Aa.length→2≤(gt d.Aa i).Ah.length∧(gt d.Aa i).Ah.length≤5
theorem qhB {l:qm} {d:qc} (h:designB l d=true):smallD d:=by
 unfold designB hasNamesB libB at h
 simp only [jg,decide_eq_true_eq] at h
 obtain ⟨⟨⟨hc,_⟩,⟨h1,h2,h3⟩,_⟩,hI,_⟩:=h
 refine ⟨h1,h2,h3,fun i hi=>?_⟩
 rw [qfT,qat] at hI hc
 have:=hI i hi
 unfold instB at this
 simp only [jg,qcd,beq_iff_eq] at this
 have h5:=qfx (qjm (hc (gt d.Aa i).Bh.toNat (by omega)))
 omega
theorem qhZ {d:qc} (h:smallD d) {j:Nat} (hj:j≤d.Aa.length):(plI d j).length≤5*j:=by
 induction j with
 | zero=>exact je _
 | succ j ih =>
  rw [qi3,jm,qko]
  have:=ih (by omega)
  have:=h.nx j (by omega)
  omega
theorem qju {d:qc} (h:smallD d):(places d).length≤78:=by
 unfold places
 rw [jm,qki]
 have:=qhZ h (je _)
 have:=h.ni
 have:=h.np
 omega
theorem qlW {d:qc} (h:smallD d):Ev (fun n=>qcW n d) (places d):=by
 have h1:=h.ni
 have h2:=h.np
 have hL2:∀ i,i<d.Aa.length→∀ pre:List Tplace,pre.length≤100→Ev (fun n=>qaq (i:Int) (gt d.Aa i) n pre 0) (pre++plX i (gt d.Aa i) (gt d.Aa i).Ah.length,((gt d.Aa i).Ah.length:Int)):=by
  intro i hi pre hp
  have h5:=h.nx i hi
  have:=loopF (Lf:=qaq (i:Int) (gt d.Aa i)) (S:=fun j=>pre++plX i (gt d.Aa i) j) (len:=(gt d.Aa i).Ah.length) (fin:=(pre++plX i (gt d.Aa i) (gt d.Aa i).Ah.length,((gt d.Aa i).Ah.length:Int))) (fun n=>by
    simp only [qaq,qg (je _),cond_false])
   (fun j hj X hX=>by
    have hc:(pre++plX i (gt d.Aa i) j).length+[(⟨(i:Int),(j:Int),at0 (gt d.Aa i).Ah j,decide (j+1=(gt d.Aa i).Ah.length)⟩:Tplace)].length≤2147483648:=by
     rw [jm,qko];simp;omega
    simp only [qaq,qh hj,cond_true,qbi hj,jd,lastE hj (show (gt d.Aa i).Ah.length≤1048576 by omega),qf9 hc,jC,←qkz,wS j]
    exact hX)
  simpa [plX] using this
 have hL1:Ev (fun n=>qas d n ([]:List Tplace) 0) (plI d d.Aa.length,(d.Aa.length:Int)):=by
  refine loopF (Lf:=qas d) (S:=fun j=>plI d j) (len:=d.Aa.length) (fun n=>?_) (fun j hj X hX=>?_)
  ·simp only [qas,qg (je _),cond_false]
  ·simp only [qas,qh hj,cond_true,qaM hj,jd,wS j]
   refine Ev.bind (hL2 j hj _ (by have:=qhZ h (Nat.le_of_lt hj);omega)) ?_
   rw [←qi3]
   exact hX
 have hL3:Ev (fun n=>qar d n (plI d d.Aa.length) 0) (places d,(d.Ac.length:Int)):=by
  have:=loopF (Lf:=qar d) (S:=fun j=>plI d d.Aa.length++plP d j) (len:=d.Ac.length) (fin:=(places d,(d.Ac.length:Int))) (fun n=>by
    simp only [qar,qg (je _),cond_false];rfl)
   (fun j hj X hX=>by
    have hc:(plI d d.Aa.length++plP d j).length+[(⟨-1,(j:Int),(gt d.Ac j).Bi,(gt d.Ac j).Bf==1⟩:Tplace)].length≤2147483648:=by
     rw [jm,qki];have:=qhZ h (je _);simp;omega
    simp only [qar,qh hj,cond_true,qaM hj,jd,qf9 hc,jC,←qkG,wS j]
    exact hX)
  simpa [plP] using this
 unfold qcW
 exact Ev.bind hL1 (Ev.bind hL3 .done)
theorem qlp {d:qc} (h:smallD d):Ev (fun n=>qea n d) ((places d).map toSp):=by
 have h1:=h.ni
 have h2:=h.np
 have hL2:∀ i,i<d.Aa.length→∀ pre:List Tplace,pre.length≤100→Ev (fun n=>qaV (i:Int) (gt d.Aa i) n (pre.map toSp) 0) ((pre++plX i (gt d.Aa i) (gt d.Aa i).Ah.length).map toSp,((gt d.Aa i).Ah.length:Int)):=by
  intro i hi pre hp
  have h5:=h.nx i hi
  have:=loopF (Lf:=qaV (i:Int) (gt d.Aa i)) (S:=fun j=>(pre++plX i (gt d.Aa i) j).map toSp) (len:=(gt d.Aa i).Ah.length) (fin:=((pre++plX i (gt d.Aa i) (gt d.Aa i).Ah.length).map toSp,((gt d.Aa i).Ah.length:Int))) (fun n=>by
    simp only [qaV,qg (je _),cond_false])
   (fun j hj X hX=>by
    have hc:((pre++plX i (gt d.Aa i) j).map toSp).length+[(⟨(i:Int),(j:Int),at0 (gt d.Aa i).Ah j,decide (j+1=(gt d.Aa i).Ah.length)⟩:Tl05Place)].length≤2147483648:=by
     rw [List.length_map,jm,qko];simp;omega
    simp only [qaV,qh hj,cond_true,qbi hj,jd,lastE hj (show (gt d.Aa i).Ah.length≤1048576 by omega),qf9 hc,wS j]
    rw [qkz,←jC,List.map_append] at hX
    exact hX)
  simpa [plX] using this
 have hL1:Ev (fun n=>qa0 d n ([]:List Tl05Place) 0) ((plI d d.Aa.length).map toSp,(d.Aa.length:Int)):=by
  refine loopF (Lf:=qa0 d) (S:=fun j=>(plI d j).map toSp) (len:=d.Aa.length) (fun n=>?_) (fun j hj X hX=>?_)
  ·simp only [qa0,qg (je _),cond_false]
  ·simp only [qa0,qh hj,cond_true,qaM hj,jd,wS j]
   refine Ev.bind (hL2 j hj _ (by have:=qhZ h (Nat.le_of_lt hj);omega)) ?_
   rw [←qi3]
   exact hX
 have hL3:Ev (fun n=>qa1 d n ((plI d d.Aa.length).map toSp) 0) ((places d).map toSp,(d.Ac.length:Int)):=by
  have:=loopF (Lf:=qa1 d) (S:=fun j=>(plI d d.Aa.length++plP d j).map toSp) (len:=d.Ac.length) (fin:=((places d).map toSp,(d.Ac.length:Int))) (fun n=>by
    simp only [qa1,qg (je _),cond_false];rfl)
   (fun j hj X hX=>by
    have hc:((plI d d.Aa.length++plP d j).map toSp).length+[(⟨-1,(j:Int),(gt d.Ac j).Bi,(gt d.Ac j).Bf==1⟩:Tl05Place)].length≤2147483648:=by
     rw [List.length_map,jm,qki];have:=qhZ h (je _);simp;omega
    simp only [qa1,qh hj,cond_true,qaM hj,jd,qf9 hc,wS j]
    rw [qkG,←jC,List.map_append] at hX
    exact hX)
  simpa [plP] using this
 unfold qea
 exact Ev.bind hL1 (Ev.bind hL3 .done)
def snkQ (d:qc) (k:Int) (i:Nat):Bool:=((gt (places d) i).net==k)&&!(gt (places d) i).drives
def sinksL (d:qc) (k:Int) (j:Nat):List Int:=((List.range j).filter (snkQ d k)).map fun (i:Nat)=>(i:Int)
def snkN (d:qc) (k:Int):Nat:=cntP (snkQ d k) (places d).length
theorem qir {d:qc} {k:Int} {j:Nat}:sinksL d k (j+1)=sinksL d k j++(bif snkQ d k j then [(j:Int)] else []):=by
 unfold sinksL
 rw [List.range_succ,List.filter_append,List.map_append]
 congr 1
 cases h:snkQ d k j<;>simp [h]
theorem qi8 {d:qc} {k:Int} {j:Nat}:(sinksL d k j).length=cntP (snkQ d k) j:=by
 induction j with
 | zero=>rfl
 | succ j ih =>
  rw [qir,jm,ih]
  show _=cntP (snkQ d k) j+_
  congr 1
  cases snkQ d k j<;>rfl
theorem qov {α β:Type} [Inhabited α] [Inhabited β] {xs:List α} {g:α→β} {j:Nat} (h:j<xs.length):gt (xs.map g) j=g (gt xs j):=by
 rw [qhx (by simpa using h),qhx h];simp
theorem qkH {d:qc} {k:Int} (h:smallD d):Ev (fun n=>qeK n d k) (sinksL d k (places d).length):=by
 have hl:=qju h
 have hL:Ev (fun n=>qaQ k ((places d).map toSp) n ([]:List Int) 0) (sinksL d k (places d).length,((places d).length:Int)):=by
  refine loopF (Lf:=qaQ k ((places d).map toSp)) (S:=fun j=>sinksL d k j) (len:=(places d).length) (fun n=>?_) (fun j hj X hX=>?_)
  ·simp only [qaQ,List.length_map,qg (je _),cond_false]
  ·have hj':j<((places d).map toSp).length:=by simpa using hj
   have hc:(sinksL d k j).length+[(j:Int)].length≤2147483648:=by
    rw [qi8]
    have:cntP (snkQ d k) j≤j:=qej
    simp;omega
   simp only [qaQ,qh hj',cond_true,qaM hj',qov hj,jd,wS j]
   rw [show ∀ p:Tplace,(toSp p).net=p.net from fun _=>rfl,show ∀ p:Tplace,(toSp p).drives=p.drives from fun _=>rfl]
   refine Ev.bind (b:=snkQ d k j) (Ev.andP fun _=>.done) ?_
   rw [qir] at hX
   cases hq:snkQ d k j
   ·rw [hq] at hX
    simp only [cond_false,List.append_nil] at hX ⊢
    exact hX
   ·rw [hq] at hX
    simp only [cond_true,qf9 hc,jd] at hX ⊢
    exact hX
 unfold qeK
 exact Ev.bind (qlp h) (Ev.bind hL .done)
theorem qlr {l:qm} {d:qc} (h:designB l d=true) {i:Nat} (hi:i<(places d).length):0≤(gt (places d) i).net∧(gt (places d) i).net<d.Ah.length:=by
 unfold designB at h
 simp only [jg] at h
 obtain ⟨_,hI,hP,_⟩:=h
 rw [qfT,qat] at hI hP
 have hm:gt (places d) i ∈ places d:=by rw [qhx hi];exact jn hi
 generalize gt (places d) i=p at hm
 unfold places at hm
 rcases List.mem_append.1 hm with hm|hm
 ·unfold plI at hm
  obtain ⟨i,hi,hm⟩:=List.mem_flatMap.1 hm
  unfold plX at hm
  obtain ⟨k,hk,rfl⟩:=List.mem_map.1 hm
  have:=hI i (List.mem_range.1 hi)
  unfold instB at this
  simp only [jg] at this
  have h3:=this.2.2
  rw [qfz (d:=0),qat] at h3
  have h4:=h3 k (List.mem_range.1 hk)
  unfold netB at h4
  rw [qcd] at h4
  show 0≤at0 _ _∧at0 _ _<_
  unfold at0
  omega
 ·unfold plP at hm
  obtain ⟨i,hi,rfl⟩:=List.mem_map.1 hm
  have:=hP i (List.mem_range.1 hi)
  unfold portB netB at this
  simp only [jg,qcd] at this
  show 0≤(gt d.Ac i).Bi∧(gt d.Ac i).Bi<_
  omega
def blockB (b:qq):Bool:=(designB b.As b.Ak&&((b.At.length:Int)==(b.Ak.Ah.length:Int)))&&allN (fun j=>wireB (gt b.At j) (snkN b.Ak (j:Int))) b.At.length
theorem qlb {b:qq} (h:qgm b):Ev (fun n=>qfh n b) (blockB b):=by
 have hwl:=h.At.len
 unfold qfh blockB
 refine Ev.guardB (Ev.or (qkM h.As h.Ak) fun _=>.done) fun hb=>?_
 rw [jg,beq_iff_eq] at hb
 obtain ⟨hd,hw⟩:=hb
 have hs:=qhB hd
 have hl:=qju hs
 have hn:=hs.nn
 rw [qhm (m:=b.At.length) (by omega)]
 simp only [jd]
 have hL1:Ev (fun n=>qa9 (places b.Ak) n (vecC (fun _=>0) b.At.length) 0) (vecC (fun k=>snkN b.Ak (k:Int)) b.At.length,((places b.Ak).length:Int)):=by
  refine loopF (Lf:=qa9 (places b.Ak)) (S:=fun j=>vecC (fun k=>cntP (snkQ b.Ak (k:Int)) j) b.At.length) (len:=(places b.Ak).length) (fun n=>?_) (fun j hj X hX=>?_)
  ·simp only [qa9,qg (je _),cond_false];rfl
  ·simp only [qa9,qh hj,cond_true,qaM hj,jd,wS j]
   obtain ⟨n0,n1⟩:=qlr hd hj
   cases h1:(gt (places b.Ak) j).drives
   ·have hc:cntP (snkQ b.Ak (((gt (places b.Ak) j).net.toNat:Nat):Int)) j≤j:=qej
    obtain ⟨e1,e2⟩:=qgk (c:=fun k=>cntP (snkQ b.Ak (k:Int)) j) (c':=fun k=>cntP (snkQ b.Ak (k:Int)) (j+1)) (x:=(gt (places b.Ak) j).net) (m:=b.At.length) n0 (by omega) (by show cntP _ _<_;omega) (fun k _=>by
     show cntP _ j+(bif snkQ b.Ak (k:Int) j then 1 else 0)=_
     unfold snkQ
     rw [h1,Bool.not_false,Bool.and_true])
    simp only [Bool.not_false,cond_true,jd,e1,e2]
    exact hX
   ·have:vecC (fun k=>cntP (snkQ b.Ak (k:Int)) (j+1)) b.At.length=vecC (fun k=>cntP (snkQ b.Ak (k:Int)) j) b.At.length:=by
     refine qfP (fun k _=>?_)
     show cntP _ j+(bif snkQ b.Ak (k:Int) j then 1 else 0)=_
     unfold snkQ
     rw [h1,Bool.not_true,Bool.and_false];rfl
    rw [this] at hX
    exact hX
 have hL2:Ev (fun n=>qb5 b (vecC (fun k=>snkN b.Ak (k:Int)) b.At.length) n 0) (bif allN (fun j=>wireB (gt b.At j) (snkN b.Ak (j:Int))) b.At.length then .nxt (b.At.length:Int) else .ret false):=by
  refine qco ?_ (fun j hj X hX=>Ev.succ ?_)
  ·exact Ev.succ (by simp only [qb5,qg (je _),cond_false];exact .done)
  ·simp only [qb5,qh hj,cond_true,qaM hj,qfB hj,jd,wS j]
   exact Ev.chk1 (ql7 (qgY h.At hj)) fun _=>hX
 refine Ev.bind (qlW hs) (Ev.bind hL1 (Ev.bind hL2 ?_))
 cases allN (fun j=>wireB (gt b.At j) (snkN b.Ak (j:Int))) b.At.length<;>exact .done
theorem qkX {b:qq} (h:qgm b):Ev (fun n=>qfo n b) (blockB b):=by
 have hwl:=h.At.len
 unfold qfo blockB
 refine Ev.guardB (Ev.or (qkq h.As h.Ak) fun _=>.done) fun hb=>?_
 rw [jg] at hb
 have hs:=qhB hb.1
 have hL:Ev (fun n=>qb8 b n 0) (bif allN (fun j=>wireB (gt b.At j) (snkN b.Ak (j:Int))) b.At.length then .nxt (b.At.length:Int) else .ret false):=by
  refine qco ?_ (fun j hj X hX=>Ev.succ ?_)
  ·exact Ev.succ (by simp only [qb8,qg (je _),cond_false];exact .done)
  ·simp only [qb8,qh hj,cond_true,qaM hj,jd,wS j]
   refine Ev.bind (qkH hs) ?_
   rw [qi8]
   exact Ev.chk1 (qk7 (qgY h.At hj)) fun _=>hX
 refine Ev.bind hL ?_
 cases allN (fun j=>wireB (gt b.At j) (snkN b.Ak (j:Int))) b.At.length<;>exact .done
end Go.Fw


namespace Go.Fw
open Go
set_option maxRecDepth 100000
def off (d:qc) (i:Nat):Nat:=(plI d i).length
def drvQ (d:qc) (k:Int) (j:Nat):Bool:=((gt (places d) j).net==k)&&(gt (places d) j).drives
def cellAt (b:qq) (i:Int):ql:=gt b.As.Ai (gt b.Ak.Aa i.toNat).Bh.toNat
theorem qkD {c:ql} (h:cellB c=true) {j:Nat} (hj:j<c.Af.length):(1≤(gt c.Af j).Ar∧(gt c.Af j).Ar≤5)∧(0≤(gt c.Af j).Ba∧(gt c.Af j).Ba<(c.Am.length:Int)-1)∧(0≤(gt c.Af j).To∧(gt c.Af j).To≤(c.Am.length:Int)-1)∧arcS c.Am (gt c.Af j)=true:=by
 unfold cellB at h
 simp only [jg] at h
 obtain ⟨_,hp,⟨ha,_⟩,_,_,hk⟩:=h
 have:=qat.1 ha j hj
 rw [jg,qm8 hp (qjR hk)] at this
 have h1:=this.1
 refine ⟨qj1 h1,?_⟩
 have h2:=h1
 unfold arcS at h2
 simp only [jg,qcd] at h2
 refine ⟨⟨h2.1.1.1,by omega⟩,h2.1.2,h1⟩
theorem qlh {b:qq} (h:blockB b=true):designB b.As b.Ak=true:=by
 unfold blockB at h;simp only [jg] at h;exact h.1.1
end Go.Fw


namespace Go.Fw
open Go Go.Proofs
open Go.RowKit (Below)
set_option maxRecDepth 100000
set_option maxHeartbeats 1600000
variable {n:Nat} {w:World} {cs1 cs2 cs3 cs4 cs5 cs6 cs7 cs8 cs9:List Value}
end Go.Fw


namespace Go.Fw
open Go Go.Proofs
open Go.RowKit (Below)
set_option maxRecDepth 100000
set_option maxHeartbeats 1600000
variable {n:Nat} {w:World} {cs1 cs2 cs3 cs4 cs5 cs6 cs7 cs8 cs9:List Value}
end Go.Fw


namespace Go.Fw
open Go
set_option maxRecDepth 100000
structure wireOk (b:qq) (i:Nat):Prop where
 lo:1≤(gt b.At i).Aj.length
 hi:(gt b.At i).Aj.length≤8
 res:(gt b.At i).Bj.length=(gt b.At i).Aj.length
 cap:(gt b.At i).Bg.length=(gt b.At i).Aj.length
 par:∀ j,0<j→j<(gt b.At i).Aj.length→0≤at0 (gt b.At i).Aj j∧at0 (gt b.At i).Aj j<j
 snk:(gt b.At i).Bd.length=(sinksL b.Ak (i:Int) (places b.Ak).length).length
 sin:∀ j,j<(gt b.At i).Bd.length→0≤at0 (gt b.At i).Bd j∧at0 (gt b.At i).Bd j<(gt b.At i).Aj.length
end Go.Fw


namespace Go.Fw
open Go
set_option maxRecDepth 100000
instance:Inhabited qdR:=⟨⟨0,0,0,0⟩⟩
instance:Inhabited qhh:=⟨⟨0,0⟩⟩
end Go.Fw


namespace Go.Fw
open Go
set_option maxRecDepth 100000
def sumZ (f:Nat→Int):Nat→Int
 | 0=>0
 | n+1=>sumZ f n+f n
def skL (b:qq) (i:Nat):List Int:=sinksL b.Ak (i:Int) (places b.Ak).length
structure LdOk (t:List Int) (L:Nat) (S:Int):Prop where
 len:t.length=L
 nn:∀ k,k<L→0≤gt t k
 sum:sumZ (gt t) L≤S
end Go.Fw


namespace Go.Fw
open Go
set_option maxRecDepth 100000
def pre {α:Type} (f:Nat→α) (j:Nat):List α:=(List.range j).map f
def fm {α:Type} (f:Nat→List α) (j:Nat):List α:=(List.range j).flatMap f
def transL (a:qE):List qhh :=
 bif (a.Ar==2) then [⟨0,0⟩,⟨0,1⟩] else bif (a.Ar==3) then [⟨1,0⟩,⟨1,1⟩] else bif (a.Ar != 1) then [] else
 bif (a.Bc==1) then [⟨0,0⟩,⟨1,1⟩] else bif (a.Bc==2) then [⟨0,1⟩,⟨1,0⟩] else [⟨0,0⟩,⟨0,1⟩,⟨1,0⟩,⟨1,1⟩]
def al1 (first:Int) (k:Nat) (a:qE) (t:qhh):qdR:=⟨2*(first+a.Ba)+t.e0,2*(first+a.To)+t.e1,1,(k:Int)⟩
def arcLs (first:Int) (k:Nat) (a:qE):List qdR:=(transL a).map (al1 first k a)
def cellLs (c:ql) (first:Int) (j:Nat):List qdR:=fm (fun k=>arcLs first k (gt c.Af k)) j
def instLs (b:qq) (j:Nat):List qdR:=fm (fun i=>cellLs (cellAt b (i:Int)) (off b.Ak i:Int) (cellAt b (i:Int)).Af.length) j
def dvN (d:qc) (k:Nat):Nat:=((List.range (places d).length).find? fun j=>drvQ d (k:Int) j).getD 0
def wl1 (dv:Nat) (s:Int) (k:Nat):List qdR:=[⟨2*(dv:Int),2*s,2,(k:Int)⟩,⟨2*(dv:Int)+1,2*s+1,2,(k:Int)⟩]
def wlN (b:qq) (i j:Nat):List qdR:=fm (fun k=>wl1 (dvN b.Ak i) (at0 (skL b i) k) k) j
def wireLs (b:qq) (j:Nat):List qdR:=fm (fun i=>wlN b i (skL b i).length) j
def linksL (b:qq):List qdR:=instLs b b.Ak.Aa.length++wireLs b b.At.length
end Go.Fw


namespace Go.Fw
open Go Go.Proofs
open Go.RowKit (Below)
set_option maxRecDepth 100000
set_option maxHeartbeats 1600000
variable {n:Nat} {w:World} {cs1 cs2 cs3 cs4 cs5 cs6 cs7 cs8 cs9:List Value}
end Go.Fw


namespace Go.Fw
open Go Go.Proofs
open Go.RowKit (Below)
set_option maxRecDepth 100000
set_option maxHeartbeats 1600000
variable {n:Nat} {w:World} {cs1 cs2 cs3 cs4 cs5 cs6 cs7 cs8 cs9:List Value}
end Go.Fw


namespace Go.Fw
open Go
set_option maxRecDepth 100000
structure LkOk (ls:List qdR) (M:Nat):Prop where
 len:ls.length≤10000
 nodes:M≤156
 fr0:∀ x,x<ls.length→0≤(gt ls x).Ba
 fr1:∀ x,x<ls.length→(gt ls x).Ba<(M:Int)
 to0:∀ x,x<ls.length→0≤(gt ls x).To
 to1:∀ x,x<ls.length→(gt ls x).To<(M:Int)
def frL (ls:List qdR) (x:Nat):Int:=(gt ls x).Ba
def toL (ls:List qdR) (x:Nat):Int:=(gt ls x).To
def lvL (lv:List Bool) (x:Nat):Bool:=gt lv x
abbrev ordL (ls:List qdR) (lv:List Bool) (M m:Nat) (R:List Nat):Option (List Nat):=ordN ls.length (frL ls) (toL ls) (lvL lv) M m R
section
variable {ls:List qdR} {lv:List Bool} {M:Nat} {ps:List Tplace} {b:qq} {lo:List Int} {de:List (List Int)} {ex:List Int}
end
end Go.Fw


namespace Go.Fw
open Go Go.Proofs
open Go.RowKit (Below)
set_option maxRecDepth 100000
set_option maxHeartbeats 1600000
variable {n:Nat} {w:World} {cs1 cs2 cs3 cs4 cs5 cs6 cs7 cs8 cs9:List Value}
end Go.Fw


namespace Go.Fw
open Go Go.Proofs
open Go.RowKit (Below)
set_option maxRecDepth 100000
set_option maxHeartbeats 1600000
variable {n:Nat} {w:World} {cs1 cs2 cs3 cs4 cs5 cs6 cs7 cs8 cs9:List Value}
end Go.Fw


namespace Go.Fw
open Go Go.Proofs
open Go.RowKit (Below)
set_option maxRecDepth 100000
set_option maxHeartbeats 1600000
variable {n:Nat} {w:World} {cs1 cs2 cs3 cs4 cs5 cs6 cs7 cs8 cs9:List Value}
end Go.Fw


namespace Go.Fw
open Go Go.Proofs
open Go.RowKit (Below)
set_option maxRecDepth 100000
set_option maxHeartbeats 1600000
variable {n:Nat} {w:World} {cs1 cs2 cs3 cs4 cs5 cs6 cs7 cs8 cs9:List Value}
end Go.Fw
