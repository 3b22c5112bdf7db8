/- By a program of mine (gen.py): for each function a plain function and the proof that the code computes it. -/
import Derived.Test.YteofoidaapgdkaaGreatDoorA2
import Derived.Test.YteofoidaapgdkaaGreatDoorFw31
open Option renaming bind_some → jd, some → V, none → U
open Nat renaming le_refl → je, le_of_ble_eq_true → jr, mul_le_mul_right → js, lt_of_lt_of_le → jv, succ_mul → jM, zero_add → Jg
open Bool renaming and_eq_true → jf, eq_iff_iff → jj, not_eq_true' → jD, true_and → jG, not_true → jW
open Go.Result renaming andThen_ok → jg
open List renaming length_append → jh, getElem?_eq_getElem → ji, mem_cons_of_mem → jn, getElem_mem → jo, append_assoc → jp, length_singleton → jt, length_map → ju, getElem?_append_left → jw, mem_cons_self → jx, take_succ_eq_append_getElem → jy, getElem?_take → jz, length_cons → jA, getElem?_append_right → jB, getD_eq_getElem?_getD → jC, getElem?_toArray → jE, map_append → jF, take_length → jH, eq_nil_of_length_eq_zero → jK, drop_eq_getElem_cons → jL, all_eq_true → jN, not_mem_nil → jO, getElem_of_mem → jP, length_replicate → jQ, size_toArray → jR, mem_of_getElem? → jS, mem_append_left → jT, length_nil → jV, append_nil → jX, ext_getElem → jZ, mem_cons → Jb, getElem?_map → Jc, range_succ → Je, length_take → Jf
open Go.Sem renaming run_bind → jk, run_pure → jm
open Int renaming toNat_natCast → jq, tdiv_eq_ediv_of_nonneg → jJ, mul_nonneg → jU, le_refl → jY, mul_assoc → Ja, mul_le_mul → Jd
open Array renaming getElem?_append_left → jI

namespace Go.Fw
open Go Go.Proofs Go.Proofs.Tryz
open Go.RowKit (Below)
set_option maxRecDepth 100000
set_option maxHeartbeats 1600000
variable {n:Nat}{w:World}{cs1 cs2 cs3 cs4 cs5 cs6 cs7 cs8 cs9:List Value}
def qdN (l:qr)(i1:Int):Nat→Int→Option (Flow Bool Int)
 | 0,_=>U
 | n+1,i2=>
  bif decide (i2<i1) then
   (idx l.Am i2).bind fun y2=>
   (idx l.Am i1).bind fun y3=>
   bif (y2.Au.toList==y3.Au.toList) then V (.ret false) else
   qdN l i1 n (W64 (i2+1))
  else
   V (.nxt i2)
def qdO (l:qr):Nat→Int→Option (Flow Bool Int)
 | 0,_=>U
 | n+1,i1=>
  bif decide (i1<(l.Am.length:Int)) then
   (idx l.Am i1).bind fun y1=>
   (qlp n y1).bind fun r1=>
   bif (!r1) then V (.ret false) else
   (qdN l i1 n 0).bind fun o=>match o with
   | .ret r=>V (.ret r)
   | .nxt _=>
    qdO l n (W64 (i1+1))
  else
   V (.nxt i1)
def qi6 (n:Nat)(l:qr):Option Bool:=
 (qdO l n 0).bind fun o=>match o with
 | .ret r=>V r
 | .nxt _=>
  V (decide ((l.Am.length:Int)≤8))
theorem qoI {l:qr}(ha1:Ro w l cs1){r:Bool}(F:qi6 n l=V r):RetV prog 215 [GoT.v qr cs1] w r:=by
 obtain⟨p1,k1,rfl,s1⟩:=qbN ha1;refine zV 41 func215 Z fun h=>zSR (qx h Z Z fun _ bb1 h=>X0 7 Z ?_);obtain⟨o1,F,hK1⟩:=qc F;refine qn (rL (fun m e w'=>∃(i1:Int),qdO l m i1=V o1∧e=[(1,.pointer (V ⟨bb1,0,U⟩)),(3,.int .i64 i1)]∧SH w w' [Ch.box bb1 [.slice p1 l.Am.length k1] 46]) n ⟨_,F,rfl,h⟩ Z ?_);rintro m1 _ _ ⟨i1,F,rfl,h⟩;rcases m1 with _|m1
 ·cases F
 refine X1 9 0 h Z (qh Z F ?_ ?_)<;>intro F
 ·refine X1 9 0 h Z ?_;obtain⟨y1,_,F,he1,_,_,_,_,hp1,hq1,hr1,hc2⟩:=s1.ix F;obtain⟨_,_,_,_,_,_,rfl,s2,s3,s4⟩:=qO hr1;refine zxe hp1 hq1 he1 Z (zc 0 (hc2.below h.below) Z (zcB h F (qqZ (qjq y1 (h.oldS s2) (h.oldS s3) (h.oldS s4))) Z fun _ _ h F=>X0 2 Z (qh Z F ?_ ?_)))<;>intro F
  ·refine X0 4 Z ?_;obtain rfl:=qb F;replace F:=hK1;exact rb h F Z
  refine X0 5 Z ?_;obtain⟨o2,F,hK2⟩:=qc F;refine qn (rL (fun m e w'=>∃(i2:Int),qdN l i1 m i2=V o2∧e=[(1,.pointer (V ⟨bb1,0,U⟩)),(3,.int .i64 i1),(4,.int .i64 i2)]∧SH w w' [Ch.box bb1 [.slice p1 l.Am.length k1] 46]) m1 ⟨_,F,rfl,h⟩ Z ?_);rintro m2 _ _ ⟨i2,F,rfl,h⟩;rcases m2 with _|m2
  ·cases F
  refine X0 7 Z (qh Z F ?_ ?_)<;>intro F
  ·refine X0 4 Z (rD (Y1 2 0 h Z ?_));refine zd1 Z ?_;obtain⟨_,_,F,he2,_,_,_,_,hp2,hq2,hr3,hc5⟩:=s1.ix F;obtain⟨_,_,_,_,_,_,rfl,_,_,_⟩:=qO hr3;refine zdxe hp2 hq2 he2 Z (zd1 Z (zdc 0 (hc5.below h.below) Z (Y1 2 0 h Z ?_)));refine zd1 Z ?_;obtain⟨_,_,F,he3,_,_,_,_,hp3,hq3,hr4,hc6⟩:=s1.ix F;obtain⟨_,_,_,_,_,_,rfl,_,_,_⟩:=qO hr4;refine zdxe hp3 hq3 he3 Z (zd1 Z (zdc 0 (hc6.below h.below) Z (zd1 Z (dN h fun _ h=>qh Z F ?_ ?_))))<;>intro F
   ·refine X0 4 Z ?_;obtain rfl:=qb F;replace F:=hK2;obtain rfl:=qb F;replace F:=hK1;exact rb h F Z
   exact X0 7 Z (rK ⟨_,F,rfl,h⟩ Z)
  refine qq Z ?_;obtain rfl:=qb F;replace F:=hK2;exact X0 6 Z (rK ⟨_,F,rfl,h⟩ Z)
 refine qq Z ?_;obtain rfl:=qb F;replace F:=hK1;exact X1 8 0 h Z (rb h F Z)
def qeN (a_1:qe)(y1:qk):Nat→Int→Option (Flow Bool Int)
 | 0,_=>U
 | n+1,i2=>
  bif decide (i2<(y1.Ah.length:Int)) then
   (idx y1.Ah i2).bind fun y2=>
   (qaq n y2 0 (W64 ((a_1.Ah.length:Int)-1))).bind fun r1=>
   bif (!r1) then V (.ret false) else
   qeN a_1 y1 n (W64 (i2+1))
  else
   V (.nxt i2)
def qew (a_1:qe):Nat→Int→Option (Flow Bool Int)
 | 0,_=>U
 | n+1,i3=>
  bif decide (i3<(a_1.Af.length:Int)) then
   (idx a_1.Af i3).bind fun y4=>
   (qaq n y4.Bu 1 2).bind fun r3=>
   bif (!r3) then V (.ret false) else
   (idx a_1.Af i3).bind fun y5=>
   (qaq n y5.Bx 0 (W64 ((a_1.Ah.length:Int)-1))).bind fun r4=>
   bif (!r4) then V (.ret false) else
   qew a_1 n (W64 (i3+1))
  else
   V (.nxt i3)
def qez (a_0:qr)(a_1:qe):Nat→Int→Option (Flow Bool Int)
 | 0,_=>U
 | n+1,i1=>
  bif decide (i1<(a_1.Ab.length:Int)) then
   (idx a_1.Ab i1).bind fun y1=>
   (
    (qaq n y1.Bp 0 (W64 ((a_0.Am.length:Int)-1))).bind fun r2=>
    bif (!r2) then V true else
    (idx a_0.Am y1.Bp).bind fun y3=>
    V ((y1.Ah.length:Int) != (y3.As.length:Int))).bind fun b2=>
   bif b2 then V (.ret false) else
   (qeN a_1 y1 n 0).bind fun o=>match o with
   | .ret r=>V (.ret r)
   | .nxt _=>
    qez a_0 a_1 n (W64 (i1+1))
  else
   V (.nxt i1)
def qjK (n:Nat)(a_0:qr)(a_1:qe):Option Bool:=
 (qez a_0 a_1 n 0).bind fun o=>match o with
 | .ret r=>V r
 | .nxt _=>
  (qew a_1 n 0).bind fun o=>match o with
  | .ret r=>V r
  | .nxt _=>
   V true
theorem qpe {a_0:qr}{a_1:qe}(ha1:Ro w a_0 cs1)(ha2:Ro w a_1 cs2){r:Bool}(F:qjK n a_0 a_1=V r):RetV prog 216 [GoT.v qr cs1,GoT.v qe cs2] w r:=by
 obtain⟨p1,k1,rfl,s1⟩:=qbN ha1;obtain⟨p2,k2,p3,k3,p4,k4,rfl,s2,_,s4⟩:=qaD ha2;refine zV 90 func216 Z fun h=>zSR (qx h Z Z fun _ bb1 h=>qx h Z Z fun _ bb2 h=>X1 14 0 h Z ?_);obtain⟨o1,F,hK1⟩:=qc F;refine qn (rL (fun m e w'=>∃(i1:Int),qez a_0 a_1 m i1=V o1∧e=[(2,.pointer (V ⟨bb1,0,U⟩)),(3,.pointer (V ⟨bb2,0,U⟩)),(5,.int .i64 (a_1.Ah.length:Int)),(6,.int .i64 i1)]∧SH w w' [Ch.box bb2 (qaQ a_1 p2 p3 p4 k2 k3 k4) 50,Ch.box bb1 [.slice p1 a_0.Am.length k1] 46]) n ⟨_,F,rfl,h⟩ Z ?_);rintro m1 _ _ ⟨i1,F,rfl,h⟩;rcases m1 with _|m1
 ·cases F
 refine X1 9 0 h Z (qh Z F ?_ ?_)<;>intro F
 ·refine X1 8 0 h Z ?_;obtain⟨y1,_,F,he1,_,_,_,_,hp1,hq1,hr1,hc2⟩:=s2.ix F;obtain⟨p5,k5,rfl,s5⟩:=qF hr1;refine zxe hp1 hq1 he1 Z (zc 0 (hc2.below h.below) Z (qp qa h Z Z Z fun _ bb3 h=>zs 0 h Z fun _ h=>zNSS ?_));obtain⟨KF1,hKF1,_,F,hK3⟩:=bindE F;refine qbe (fun e w'=>∃(b2:Bool),KF1 b2=V o1∧e=[(2,.pointer (V ⟨bb1,0,U⟩)),(3,.pointer (V ⟨bb2,0,U⟩)),(5,.int .i64 (a_1.Ah.length:Int)),(6,.int .i64 i1),(7,.pointer (V ⟨bb3,0,U⟩)),(46,.bool b2)]∧SH w w' [Ch.box bb3 (qjT y1 p5 k5) 174,Ch.box bb2 (qaQ a_1 p2 p3 p4 k2 k3 k4) 50,Ch.box bb1 [.slice p1 a_0.Am.length k1] 46]) ?_ ?_
  ·refine rD (Y1 2 0 h Z ?_);refine Y1 2 2 h Z ?_;refine zd2 Z ?_;obtain⟨r2,hr4,F⟩:=qc F;refine qbJ r2 (vsB _) (cB 84 Z) (fun _ hb=>qai  hr4) Z Z Z Z (zd2 Z (qbZ (t:=33) F Z ?_ ?_))<;>intro F
   ·refine Y0 13 Z (dN h fun _ h=>?_);obtain rfl:=qb F;exact rG ⟨_,hK3,rfl,h⟩ Z
   refine Y1 4 0 h Z ?_;refine Y1 6 2 h Z ?_;refine Y1 4 0 h Z ?_;refine Y0 1 Z ?_;obtain⟨_,_,F,he3,_,_,_,_,hp3,hq3,hr5,hc7⟩:=s1.ix F;obtain⟨_,_,_,_,_,_,rfl,_,_,_⟩:=qO hr5;refine zdxe hp3 hq3 he3 Z (Y0 3 Z (zdc 2 (hc7.below h.below) Z (Y0 5 Z (dN h fun _ h=>?_))));obtain rfl:=qb F;exact rG ⟨_,hK3,rfl,h⟩ Z
  rintro _ _ ⟨b2,F,rfl,h⟩;subst hKF1;refine qh Z F ?_ ?_<;>intro F
  ·refine X0 4 Z ?_;obtain rfl:=qb F;replace F:=hK1;exact rb h F Z
  refine X0 5 Z ?_;obtain⟨o2,F,hK2⟩:=qc F;refine qn (rL (fun m e w'=>∃(i2:Int),qeN a_1 y1 m i2=V o2∧e=[(2,.pointer (V ⟨bb1,0,U⟩)),(3,.pointer (V ⟨bb2,0,U⟩)),(5,.int .i64 (a_1.Ah.length:Int)),(6,.int .i64 i1),(7,.pointer (V ⟨bb3,0,U⟩)),(8,.int .i64 i2)]∧SH w w' [Ch.box bb3 (qjT y1 p5 k5) 174,Ch.box bb2 (qaQ a_1 p2 p3 p4 k2 k3 k4) 50,Ch.box bb1 [.slice p1 a_0.Am.length k1] 46]) m1 ⟨_,F,rfl,h⟩ Z ?_);rintro m2 _ _ ⟨i2,F,rfl,h⟩;rcases m2 with _|m2
  ·cases F
  refine X1 9 0 h Z (qh Z F ?_ ?_)<;>intro F
  ·refine X1 8 0 h Z ?_;obtain⟨_,_,F,he2,_,_,_,_,hp2,hq2,rfl,hc5⟩:=s5.ix F;refine zxe hp2 hq2 he2 Z (zc 0 (hc5.below h.below) Z (zp2 Z (zcB h F qai Z fun _ _ h F=>X0 2 Z (qh Z F ?_ ?_))))<;>intro F
   ·refine X0 4 Z ?_;obtain rfl:=qb F;replace F:=hK2;obtain rfl:=qb F;replace F:=hK1;exact rb h F Z
   exact X0 7 Z (rK ⟨_,F,rfl,h⟩ Z)
  refine qq Z ?_;obtain rfl:=qb F;replace F:=hK2;refine X0 6 Z ?_;replace h:=h.pick [1,2] Z;exact rK ⟨_,F,rfl,h⟩ Z
 refine qq Z ?_;obtain rfl:=qb F;replace F:=hK1;refine X0 5 Z ?_;obtain⟨o4,F,hK4⟩:=qc F;refine qn ?_;replace h:=h.pick [0] Z;refine rL (fun m e w'=>∃(i3:Int),qew a_1 m i3=V o4∧e=[(3,.pointer (V ⟨bb2,0,U⟩)),(5,.int .i64 (a_1.Ah.length:Int)),(9,.int .i64 i3)]∧SH w w' [Ch.box bb2 (qaQ a_1 p2 p3 p4 k2 k3 k4) 50]) n ⟨_,F,rfl,h⟩ Z ?_;rintro m3 _ _ ⟨i3,F,rfl,h⟩;rcases m3 with _|m3
 ·cases F
 refine X1 9 0 h Z (qh Z F ?_ ?_)<;>intro F
 ·refine X1 8 0 h Z ?_;obtain⟨_,_,F,he4,_,_,_,_,hp4,hq4,hr6,hc9⟩:=s4.ix F;obtain rfl:=qaU hr6;refine zxe hp4 hq4 he4 Z (zp1 Z (zc 1 (hc9.below h.below) Z (zcB h F qai Z fun _ _ h F=>zp2 Z (qm (t:=78) F Z ?_ ?_))))<;>intro F
  ·refine X0 12 Z (qfQ Z Z (X0 4 Z ?_));obtain rfl:=qb F;replace F:=hK4;exact rb h F Z
  refine X1 7 0 h Z ?_;obtain⟨_,_,F,he5,_,_,_,_,hp5,hq5,hr8,hc10⟩:=s4.ix F;obtain rfl:=qaU hr8;refine zxe hp5 hq5 he5 Z (X0 3 Z (zc 2 (hc10.below h.below) Z (X0 5 Z (zcB h F qai Z fun _ _ h F=>X0 4 Z (qh Z F ?_ ?_)))))<;>intro F
  ·refine X0 4 Z ?_;obtain rfl:=qb F;replace F:=hK4;exact rb h F Z
  exact X0 7 Z (rK ⟨_,F,rfl,h⟩ Z)
 refine qq Z ?_;obtain rfl:=qb F;replace F:=hK4;exact X0 4 Z (rb h F Z)
def qeD (list:(List ByteArray))(i1:Int):Nat→Int→Option (Flow Bool Int)
 | 0,_=>U
 | n+1,i2=>
  bif decide (i2<i1) then
   (idx list i2).bind fun y2=>
   (idx list i1).bind fun y3=>
   bif (y2.toList==y3.toList) then V (.ret false) else
   qeD list i1 n (W64 (i2+1))
  else
   V (.nxt i2)
def qeF (list:(List ByteArray)):Nat→Int→Option (Flow Bool Int)
 | 0,_=>U
 | n+1,i1=>
  bif decide (i1<(list.length:Int)) then
   (idx list i1).bind fun y1=>
   (qgi n y1).bind fun r1=>
   bif (!r1) then V (.ret false) else
   (qeD list i1 n 0).bind fun o=>match o with
   | .ret r=>V (.ret r)
   | .nxt _=>
    qeF list n (W64 (i1+1))
  else
   V (.nxt i1)
def qgV (n:Nat)(list:(List ByteArray)):Option Bool:=
 (qeF list n 0).bind fun o=>match o with
 | .ret r=>V r
 | .nxt _=>
  V true
theorem qjt {list:(List ByteArray)}(ha1:Ro w list cs1){r:Bool}(F:qgV n list=V r):RetV prog 217 [GoT.v (List ByteArray) cs1] w r:=by
 obtain⟨p1,k1,rfl,s1⟩:=ha1;refine zV 31 func217 Z fun h=>X0 9 Z ?_;obtain⟨o1,F,hK1⟩:=qc F;refine qn (rL (fun m e w'=>∃(i1:Int),qeF list m i1=V o1∧e=[(0,.slice p1 list.length k1),(3,.int .i64 i1)]∧SH w w' []) n ⟨_,F,rfl,h⟩ Z ?_);rintro m1 _ _ ⟨i1,F,rfl,h⟩;rcases m1 with _|m1
 ·cases F
 refine X0 8 Z (qh Z F ?_ ?_)<;>intro F
 ·refine X0 8 Z ?_;obtain⟨_,_,F,he1,_,_,_,_,hp1,hq1,rfl,hc2⟩:=s1.ix F;refine zxe hp1 hq1 he1 Z (zc 0 (hc2.below h.below) Z (zcB h F qif Z fun _ _ h F=>X0 2 Z (qh Z F ?_ ?_)))<;>intro F
  ·refine X0 4 Z ?_;obtain rfl:=qb F;replace F:=hK1;exact rb h F Z
  refine X0 5 Z ?_;obtain⟨o2,F,hK2⟩:=qc F;refine qn (rL (fun m e w'=>∃(i2:Int),qeD list i1 m i2=V o2∧e=[(0,.slice p1 list.length k1),(3,.int .i64 i1),(4,.int .i64 i2)]∧SH w w' []) m1 ⟨_,F,rfl,h⟩ Z ?_);rintro m2 _ _ ⟨i2,F,rfl,h⟩;rcases m2 with _|m2
  ·cases F
  refine X0 7 Z (qh Z F ?_ ?_)<;>intro F
  ·refine X0 4 Z (rD (zd2 Z ?_));obtain⟨_,_,F,he2,_,_,_,_,hp2,hq2,rfl,hc5⟩:=s1.ix F;refine zdxe hp2 hq2 he2 Z (zdc 0 (hc5.below h.below) Z (zd2 Z ?_));obtain⟨_,_,F,he3,_,_,_,_,hp3,hq3,rfl,hc6⟩:=s1.ix F;refine zdxe hp3 hq3 he3 Z (zdc 0 (hc6.below h.below) Z (zd1 Z (dN h fun _ h=>qh Z F ?_ ?_)))<;>intro F
   ·refine X0 4 Z ?_;obtain rfl:=qb F;replace F:=hK2;obtain rfl:=qb F;replace F:=hK1;exact rb h F Z
   exact X0 7 Z (rK ⟨_,F,rfl,h⟩ Z)
  refine qq Z ?_;obtain rfl:=qb F;replace F:=hK2;exact X0 6 Z (rK ⟨_,F,rfl,h⟩ Z)
 refine qq Z ?_;obtain rfl:=qb F;replace F:=hK1;exact X0 4 Z (rb h F Z)
def qeA (x5:(List Int))(x7:(List Int)):Nat→Int→Option (Flow Bool Int)
 | 0,_=>U
 | n+1,i5=>
  bif decide (i5<(x5.length:Int)) then
   (idx x7 i5).bind fun y11=>
   bif (y11 != 1) then V (.ret false) else
   qeA x5 x7 n (W64 (i5+1))
  else
   V (.nxt i5)
def qcI (a_1:qe):Nat→(List Int)→Int→Option ((List Int)×Int)
 | 0,_,_=>U
 | n+1,x7,i4=>
  bif decide (i4<(a_1.Af.length:Int)) then
   (idx a_1.Af i4).bind fun y7=>
   bif (y7.Bu==1) then
    (idx a_1.Af i4).bind fun y8=>
    (idx x7 y8.Bx).bind fun y9=>
    (idx x7 y8.Bx).bind fun _=>
    qcI a_1 n (setS x7 y8.Bx (W64 (y9+1))) (W64 (i4+1))
   else
    qcI a_1 n x7 (W64 (i4+1))
  else
   V (x7,i4)
def qdz (a_1:qe):Nat→(List Int)→Int→Option ((List Int)×Int)
 | 0,_,_=>U
 | n+1,x6,i3=>
  bif decide (i3<(a_1.Ab.length:Int)) then
   (idx a_1.Ab i3).bind fun y3=>
   (idx y3.Ah (W64 ((y3.Ah.length:Int)-1))).bind fun y4=>
   (idx x6 y4).bind fun y5=>
   (idx x6 y4).bind fun _=>
   qdz a_1 n (setS x6 y4 (W64 (y5+1))) (W64 (i3+1))
  else
   V (x6,i3)
def qdv (a_1:qe):Nat→(List ByteArray)→Int→Option ((List ByteArray)×Int)
 | 0,_,_=>U
 | n+1,x3,i2=>
  bif decide (i2<(a_1.Af.length:Int)) then
   (idx a_1.Af i2).bind fun y2=>
   (appS x3 ([y2.Au]:List ByteArray)).bind fun x4=>
   qdv a_1 n x4 (W64 (i2+1))
  else
   V (x3,i2)
def qdw (a_1:qe):Nat→(List ByteArray)→Int→Option ((List ByteArray)×Int)
 | 0,_,_=>U
 | n+1,x1,i1=>
  bif decide (i1<(a_1.Ab.length:Int)) then
   (idx a_1.Ab i1).bind fun y1=>
   (appS x1 ([y1.Au]:List ByteArray)).bind fun x2=>
   qdw a_1 n x2 (W64 (i1+1))
  else
   V (x1,i1)
def qjz (n:Nat)(a_0:qr)(a_1:qe):Option Bool:=
 (
  (qi6 n a_0).bind fun r4=>
  bif (!r4) then V true else
  bif decide ((a_1.Ab.length:Int) > 14) then V true else
  bif decide ((a_1.Ah.length:Int) > 30) then V true else
  bif decide ((a_1.Af.length:Int) > 8) then V true else
  (qjK n a_0 a_1).bind fun r5=>
  V (!r5)).bind fun b1=>
 bif b1 then V false else
 (qdw a_1 n ([]:List ByteArray) 0).bind fun o=>match o with
 | (x1,_)=>
  (qdv a_1 n ([]:List ByteArray) 0).bind fun o=>match o with
  | (x3,_)=>
   (
    (qgV n x1).bind fun r1=>
    bif (!r1) then V true else
    (qgV n x3).bind fun r2=>
    bif (!r2) then V true else
    (qgV n a_1.Ah).bind fun r3=>
    V (!r3)).bind fun b4=>
   bif b4 then V false else
   (mkS (a_1.Ah.length:Int) (0:Int)).bind fun x5=>
   (qdz a_1 n x5 0).bind fun o=>match o with
   | (x6,_)=>
    (qcI a_1 n x6 0).bind fun o=>match o with
    | (x7,_)=>
     (qeA x5 x7 n 0).bind fun o=>match o with
     | .ret r=>V r
     | .nxt _=>
      V true
theorem qo5 {a_0:qr}{a_1:qe}(ha1:Ro w a_0 cs1)(ha2:Ro w a_1 cs2){r:Bool}(F:qjz n a_0 a_1=V r):RetV prog 144 [GoT.v qr cs1,GoT.v qe cs2] w r:=by
 obtain⟨_,_,rfl,_⟩:=qbN ha1;obtain⟨p2,k2,p3,k3,p4,k4,rfl,s2,s3,s4⟩:=qaD ha2;refine zV 153 func144 Z fun h=>zSR (qx h Z Z fun _ _ h=>qx h Z Z fun _ bb2 h=>X0 4 Z ?_);obtain⟨KF2,hKF2,_,F,hK7⟩:=bindE F;refine qbe (fun e w'=>∃(b1:Bool),KF2 b1=V r∧e=[(3,.pointer (V ⟨bb2,0,U⟩)),(40,.bool b1)]∧SH w w' [Ch.box bb2 (qaQ a_1 p2 p3 p4 k2 k3 k4) 50]) ?_ ?_
 ·refine X1 2 1 h Z (zcB h F (qoI (h.old ha1)) Z fun _ _ h F=>zp2 Z (qm (t:=17) F Z ?_ ?_))<;>intro F
  ·refine X0 24 Z ?_;replace h:=h.pick [0] Z;obtain rfl:=qb F;exact rG ⟨_,hK7,rfl,h⟩ Z
  refine X1 10 0 h Z (qm (t:=23) F Z ?_ ?_)<;>intro F
  ·refine X0 18 Z ?_;replace h:=h.pick [0] Z;obtain rfl:=qb F;exact rG ⟨_,hK7,rfl,h⟩ Z
  refine X1 10 0 h Z (qm (t:=29) F Z ?_ ?_)<;>intro F
  ·refine X0 12 Z ?_;replace h:=h.pick [0] Z;obtain rfl:=qb F;exact rG ⟨_,hK7,rfl,h⟩ Z
  refine X1 10 0 h Z (qm (t:=35) F Z ?_ ?_)<;>intro F
  ·refine X0 6 Z ?_;replace h:=h.pick [0] Z;obtain rfl:=qb F;exact rG ⟨_,hK7,rfl,h⟩ Z
  refine X2 5 1 0 h Z (zcB h F (qpe (h.old ha1) (h.old ha2)) Z fun _ _ h F=>X0 4 Z ?_);replace h:=h.pick [0] Z;obtain rfl:=qb F;exact rG ⟨_,hK7,rfl,h⟩ Z
 rintro _ _ ⟨b1,F,rfl,h⟩;subst hKF2;refine qh Z F ?_ ?_<;>intro F
 ·exact X0 4 Z (rb h F Z)
 refine zKSR (qK qa [] _ ([]:List ByteArray) h Z Z Z Z Z Z Z Z Z trivial Z fun _ _ _ h=>X0 7 Z ?_);obtain⟨o1,F,hK1⟩:=qc F;refine qn (rL (fun m e w'=>∃(S2:Nat→Prop) (p6:Option Addr) (ln1:Nat) (k5:Nat) (x1:(List ByteArray)) (i1:Int),qdw a_1 m x1 i1=V o1∧e=[(3,.pointer (V ⟨bb2,0,U⟩)),(5,.slice p6 ln1 k5),(6,.int .i64 i1)]∧SH w w' [Ch.own S2 (x1:List ByteArray) [.slice p6 ln1 k5],Ch.box bb2 (qaQ a_1 p2 p3 p4 k2 k3 k4) 50]) n ⟨_,_,_,_,_,_,F,rfl,h⟩ Z ?_);rintro m1 _ _ ⟨S2,p6,ln1,k5,x1,i1,F,rfl,h⟩;obtain rfl:=(h.sl 0 Z).2;rcases m1 with _|m1
 ·cases F
 refine X1 9 1 h Z (qh Z F ?_ ?_)<;>intro F
 ·refine X1 8 1 h Z ?_;obtain⟨y1,_,F,he1,_,_,_,_,hp1,hq1,hr1,hc3⟩:=s2.ix F;obtain⟨_,_,rfl,_⟩:=qF hr1;refine zxe hp1 hq1 he1 Z (zp1 Z (zc 0 (hc3.below h.below) Z (qK qa [.tmp 55] _ ([y1.Au]:List ByteArray) h Z Z Z Z Z Z Z Z Z ⟨rfl,trivial⟩ Z fun _ _ _ h=>?_)));obtain⟨_,hx1,F⟩:=qc F;obtain⟨g1,hx1⟩:=qan hx1;refine qbW qa 1 h Z (h.sl 0 Z).1 (h.sl 0 Z).2 Z Z Z Z Z Z Z Z Z g1 hx1 Z fun _ _ _ _ h=>X0 8 Z ?_;replace h:=h.pick [1,2] Z;exact rK ⟨_,_,_,_,_,_,F,rfl,h⟩ Z
 refine qq Z ?_;obtain rfl:=qb F;replace F:=hK1;refine zSR (qK qa [] _ ([]:List ByteArray) h Z Z Z Z Z Z Z Z Z trivial Z fun _ _ _ h=>X0 7 Z ?_);obtain⟨o2,F,hK2⟩:=qc F;refine qn (rL (fun m e w'=>∃(S6:Nat→Prop) (p11:Option Addr) (ln2:Nat) (k8:Nat) (x3:(List ByteArray)) (i2:Int),qdv a_1 m x3 i2=V o2∧e=[(3,.pointer (V ⟨bb2,0,U⟩)),(5,.slice p6 x1.length k5),(7,.slice p11 ln2 k8),(8,.int .i64 i2)]∧SH w w' [Ch.own S6 (x3:List ByteArray) [.slice p11 ln2 k8],Ch.own S2 (x1:List ByteArray) [.slice p6 x1.length k5],Ch.box bb2 (qaQ a_1 p2 p3 p4 k2 k3 k4) 50]) n ⟨_,_,_,_,_,_,F,rfl,h⟩ Z ?_);rintro m2 _ _ ⟨S6,p11,ln2,k8,x3,i2,F,rfl,h⟩;obtain rfl:=(h.sl 0 Z).2;rcases m2 with _|m2
 ·cases F
 refine X1 9 2 h Z (qh Z F ?_ ?_)<;>intro F
 ·refine X1 8 2 h Z ?_;obtain⟨y2,_,F,he2,_,_,_,_,hp2,hq2,hr2,hc5⟩:=s4.ix F;obtain rfl:=qaU hr2;refine zxe hp2 hq2 he2 Z (zp1 Z (zc 0 (hc5.below h.below) Z (qK qa [.tmp 72] _ ([y2.Au]:List ByteArray) h Z Z Z Z Z Z Z Z Z ⟨rfl,trivial⟩ Z fun _ _ _ h=>?_)));obtain⟨_,hx2,F⟩:=qc F;obtain⟨g2,hx2⟩:=qan hx2;refine qbW qa 1 h Z (h.sl 0 Z).1 (h.sl 0 Z).2 Z Z Z Z Z Z Z Z Z g2 hx2 Z fun _ _ _ _ h=>X0 8 Z ?_;replace h:=h.pick [1,2,3] Z;exact rK ⟨_,_,_,_,_,_,F,rfl,h⟩ Z
 refine qq Z ?_;obtain rfl:=qb F;replace F:=hK2;refine zSS ?_;obtain⟨KF1,hKF1,_,F,hK6⟩:=bindE F;refine qbe (fun e w'=>∃(b4:Bool),KF1 b4=V r∧e=[(3,.pointer (V ⟨bb2,0,U⟩)),(88,.bool b4)]∧SH w w' [Ch.box bb2 (qaQ a_1 p2 p3 p4 k2 k3 k4) 50]) ?_ ?_
 ·refine X0 2 Z (zcB h F (qjt (h.own 1 Z)) Z fun _ _ h F=>zp2 Z (qm (t:=78) F Z ?_ ?_))<;>intro F
  ·refine X0 11 Z ?_;replace h:=h.pick [2] Z;obtain rfl:=qb F;exact rG ⟨_,hK6,rfl,h⟩ Z
  refine X0 3 Z (zcB h F (qjt (h.own 0 Z)) Z fun _ _ h F=>X0 4 Z (qm (t:=83) F Z ?_ ?_))<;>intro F
  ·refine X0 6 Z ?_;replace h:=h.pick [2] Z;obtain rfl:=qb F;exact rG ⟨_,hK6,rfl,h⟩ Z
  refine X1 5 2 h Z (zcB h F (qjt ⟨_,_,rfl,(h.oldS s3)⟩) Z fun _ _ h F=>X0 4 Z ?_);replace h:=h.pick [2] Z;obtain rfl:=qb F;exact rG ⟨_,hK6,rfl,h⟩ Z
 rintro _ _ ⟨b4,F,rfl,h⟩;subst hKF1;refine qh Z F ?_ ?_<;>intro F
 ·exact X0 4 Z (rb h F Z)
 refine X1 6 0 h Z ?_;obtain⟨x5,hx3,F⟩:=qc F;obtain⟨g3,g4,hx3⟩:=qac hx3;refine qaw qa Int h Z Z Z Z Z Z Z Z Z g3 g4 hx3 Z fun _ S9 p14 h=>X0 7 Z ?_;obtain⟨o3,F,hK3⟩:=qc F;refine qn (rL (fun m e w'=>∃(x6:(List Int)) (i3:Int),qdz a_1 m x6 i3=V o3∧e=[(3,.pointer (V ⟨bb2,0,U⟩)),(9,.slice p14 x5.length x5.length),(10,.int .i64 i3)]∧SH w w' [Ch.own S9 (x6:List Int) [.slice p14 x5.length x5.length],Ch.box bb2 (qaQ a_1 p2 p3 p4 k2 k3 k4) 50]) n ⟨_,_,F,rfl,h⟩ Z ?_);rintro m3 _ _ ⟨x6,i3,F,rfl,h⟩;rcases m3 with _|m3
 ·cases F
 refine X1 9 1 h Z (qh Z F ?_ ?_)<;>intro F
 ·refine X1 8 1 h Z ?_;obtain⟨_,_,F,he3,_,_,_,_,hp3,hq3,hr3,hc8⟩:=s2.ix F;obtain⟨_,_,rfl,s6⟩:=qF hr3;refine zxe hp3 hq3 he3 Z (zp1 Z (zc 2 (hc8.below h.below) Z (X0 8 Z ?_)));obtain⟨_,_,F,he4,_,_,_,_,hp4,hq4,rfl,hc9⟩:=s6.ix F;refine zxe hp4 hq4 he4 Z (zc 0 (hc9.below h.below) Z ?_);obtain⟨y5,_,F,he5,_,_,_,_,hp5,hq5,rfl,hc10⟩:=(h.sl 0 Z).1.ix F;refine zx hp5 hq5 ⟨he5.1,qC he5.2.1 (h.sl 0 Z).2⟩ Z (zc 0 hc10 Z (zp1 Z ?_));obtain⟨_,hy6,F,he6,_,_,_,_,hp6,hq6,rfl,hc11⟩:=(h.sl 0 Z).1.ix F;exact zx hp6 hq6 ⟨he6.1,qC he6.2.1 (h.sl 0 Z).2⟩ Z (qay qa 0 0 (W64 (y5+1)) h Z hy6 hp6 hq6 Z hc11 Z Z Z Z Z Z Z fun _ h=>X0 7 Z (rK ⟨_,_,F,rfl,h⟩ Z))
 refine qq Z ?_;obtain rfl:=qb F;replace F:=hK3;refine X0 5 Z ?_;obtain⟨o4,F,hK4⟩:=qc F;refine qn (rL (fun m e w'=>∃(x7:(List Int)) (i4:Int),qcI a_1 m x7 i4=V o4∧e=[(3,.pointer (V ⟨bb2,0,U⟩)),(9,.slice p14 x5.length x5.length),(12,.int .i64 i4)]∧SH w w' [Ch.own S9 (x7:List Int) [.slice p14 x5.length x5.length],Ch.box bb2 (qaQ a_1 p2 p3 p4 k2 k3 k4) 50]) n ⟨_,_,F,rfl,h⟩ Z ?_);rintro m4 _ _ ⟨x7,i4,F,rfl,h⟩;rcases m4 with _|m4
 ·cases F
 refine X1 9 1 h Z (qh Z F ?_ ?_)<;>intro F
 ·refine X1 8 1 h Z ?_;obtain⟨_,_,F,he7,_,_,_,_,hp7,hq7,hr7,hc13⟩:=s4.ix F;obtain rfl:=qaU hr7;refine zxe hp7 hq7 he7 Z (zp1 Z (zc 1 (hc13.below h.below) Z (X0 2 Z (qh Z F ?_ ?_))))<;>intro F
  ·refine X1 5 1 h Z ?_;obtain⟨_,_,F,he8,_,_,_,_,hp8,hq8,hr8,hc15⟩:=s4.ix F;obtain rfl:=qaU hr8;refine zxe hp8 hq8 he8 Z (zp1 Z (zc 2 (hc15.below h.below) Z ?_));obtain⟨y9,_,F,he9,_,_,_,_,hp9,hq9,rfl,hc16⟩:=(h.sl 0 Z).1.ix F;refine zx hp9 hq9 ⟨he9.1,qC he9.2.1 (h.sl 0 Z).2⟩ Z (zc 0 hc16 Z (zp1 Z ?_));obtain⟨_,hy10,F,he10,_,_,_,_,hp10,hq10,rfl,hc17⟩:=(h.sl 0 Z).1.ix F;exact zx hp10 hq10 ⟨he10.1,qC he10.2.1 (h.sl 0 Z).2⟩ Z (qay qa 0 0 (W64 (y9+1)) h Z hy10 hp10 hq10 Z hc17 Z Z Z Z Z Z Z fun _ h=>X0 7 Z (rK ⟨_,_,F,rfl,h⟩ Z))
  exact X0 7 Z (rK ⟨_,_,F,rfl,h⟩ Z)
 refine qq Z ?_;obtain rfl:=qb F;replace F:=hK4;refine X0 5 Z ?_;obtain⟨o5,F,hK5⟩:=qc F;refine qn ?_;replace h:=h.pick [0] Z;refine rL (fun m e w'=>∃(i5:Int),qeA x5 x7 m i5=V o5∧e=[(9,.slice p14 x5.length x5.length),(13,.int .i64 i5)]∧SH w w' [Ch.own S9 (x7:List Int) [.slice p14 x5.length x5.length]]) n ⟨_,F,rfl,h⟩ Z ?_;rintro m5 _ _ ⟨i5,F,rfl,h⟩;rcases m5 with _|m5
 ·cases F
 refine X0 8 Z (qh Z F ?_ ?_)<;>intro F
 ·refine X0 7 Z ?_;obtain⟨_,_,F,he11,_,_,_,_,hp11,hq11,rfl,hc19⟩:=(h.sl 0 Z).1.ix F;refine zx hp11 hq11 ⟨he11.1,qC he11.2.1 (h.sl 0 Z).2⟩ Z (zc 0 hc19 Z (X0 2 Z (qh Z F ?_ ?_)))<;>intro F
  ·refine X0 4 Z ?_;obtain rfl:=qb F;replace F:=hK5;exact rb h F Z
  exact X0 7 Z (rK ⟨_,F,rfl,h⟩ Z)
 refine qq Z ?_;obtain rfl:=qb F;replace F:=hK5;exact X0 4 Z (rb h F Z)
def qf5 (a_0:qG):Nat→Int→Option (Flow Bool Int)
 | 0,_=>U
 | n+1,i2=>
  bif decide (i2<(a_0.Bi.length:Int)) then
   (idx a_0.Bi i2).bind fun y7=>
   (qaq n y7 0 (W64 ((a_0.Aj.length:Int)-1))).bind fun r5=>
   bif (!r5) then V (.ret false) else
   qf5 a_0 n (W64 (i2+1))
  else
   V (.nxt i2)
def qc1 (a_0:qG):Nat→Int→Option (Flow Bool Int)
 | 0,_=>U
 | n+1,i1=>
  bif decide (i1<(a_0.Aj.length:Int)) then
   (
    (idx a_0.Br i1).bind fun y5=>
    (qaq n y5 0 500).bind fun r3=>
    bif (!r3) then V true else
    (idx a_0.Bv i1).bind fun y6=>
    (qaq n y6 0 1000).bind fun r4=>
    V (!r4)).bind fun b2=>
   bif b2 then V (.ret false) else
   bif (i1==0) then
    (idx a_0.Aj i1).bind fun y1=>
    bif (y1 != (-1)) then V (.ret false) else
    (idx a_0.Bv i1).bind fun y2=>
    bif (y2 != 0) then V (.ret false) else
    bif decide (i1 > 0) then
     (idx a_0.Aj i1).bind fun y3=>
     (qaq n y3 0 (W64 (i1-1))).bind fun r1=>
     bif (!r1) then V (.ret false) else
     qc1 a_0 n (W64 (i1+1))
    else
     qc1 a_0 n (W64 (i1+1))
   else
    bif decide (i1 > 0) then
     (idx a_0.Aj i1).bind fun y4=>
     (qaq n y4 0 (W64 (i1-1))).bind fun r2=>
     bif (!r2) then V (.ret false) else
     qc1 a_0 n (W64 (i1+1))
    else
     qc1 a_0 n (W64 (i1+1))
  else
   V (.nxt i1)
def qln (n:Nat)(a_0:qG)(a_1:Int):Option Bool:=
 (
  bif decide ((a_0.Aj.length:Int)<1) then V true else
  bif decide ((a_0.Aj.length:Int) > 8) then V true else
  bif ((a_0.Bv.length:Int) != (a_0.Aj.length:Int)) then V true else
  bif ((a_0.Br.length:Int) != (a_0.Aj.length:Int)) then V true else
  V ((a_0.Bi.length:Int) != a_1)).bind fun b1=>
 bif b1 then V false else
 (qc1 a_0 n 0).bind fun o=>match o with
 | .ret r=>V r
 | .nxt _=>
  (qf5 a_0 n 0).bind fun o=>match o with
  | .ret r=>V r
  | .nxt _=>
   V true
theorem qri {a_0:qG}{a_1:Int}(ha1:Ro w a_0 cs1){r:Bool}(F:qln n a_0 a_1=V r):RetV prog 145 [GoT.v qG cs1,.int .i64 a_1] w r:=by
 obtain⟨p1,k1,p2,k2,p3,k3,p4,k4,rfl,s1,s2,s3,s4⟩:=qaO ha1;refine zV 108 func145 Z fun h=>zSR (qx h Z Z fun _ bb1 h=>X1 11 0 h Z ?_);obtain⟨KF2,hKF2,_,F,hK4⟩:=bindE F;refine qbe (fun e w'=>∃(b1:Bool),KF2 b1=V r∧e=[(2,.pointer (V ⟨bb1,0,U⟩)),(5,.int .i64 (a_0.Aj.length:Int)),(37,.bool b1)]∧SH w w' [Ch.box bb1 (qg5 a_0 p1 p2 p3 p4 k1 k2 k3 k4) 210]) ?_ ?_
 ·refine X0 4 Z (qm (t:=13) F Z ?_ ?_)<;>intro F
  ·refine X0 25 Z ?_;obtain rfl:=qb F;exact rG ⟨_,hK4,rfl,h⟩ Z
  refine X0 6 Z (qm (t:=17) F Z ?_ ?_)<;>intro F
  ·refine X0 21 Z ?_;obtain rfl:=qb F;exact rG ⟨_,hK4,rfl,h⟩ Z
  refine X1 12 0 h Z (qm (t:=24) F Z ?_ ?_)<;>intro F
  ·refine X0 14 Z ?_;obtain rfl:=qb F;exact rG ⟨_,hK4,rfl,h⟩ Z
  refine X1 12 0 h Z (qm (t:=31) F Z ?_ ?_)<;>intro F
  ·refine X0 7 Z ?_;obtain rfl:=qb F;exact rG ⟨_,hK4,rfl,h⟩ Z
  refine X1 12 0 h Z ?_;obtain rfl:=qb F;exact rG ⟨_,hK4,rfl,h⟩ Z
 rintro _ _ ⟨b1,F,rfl,h⟩;subst hKF2;refine qh Z F ?_ ?_<;>intro F
 ·exact X0 4 Z (rb h F Z)
 refine X0 6 Z ?_;obtain⟨o1,F,hK1⟩:=qc F;refine qn (rL (fun m e w'=>∃(i1:Int),qc1 a_0 m i1=V o1∧e=[(2,.pointer (V ⟨bb1,0,U⟩)),(5,.int .i64 (a_0.Aj.length:Int)),(6,.int .i64 i1)]∧SH w w' [Ch.box bb1 (qg5 a_0 p1 p2 p3 p4 k1 k2 k3 k4) 210]) n ⟨_,F,rfl,h⟩ Z ?_);rintro m1 _ _ ⟨i1,F,rfl,h⟩;rcases m1 with _|m1
 ·cases F
 refine X0 7 Z (qh Z F ?_ ?_)<;>intro F
 ·refine X0 5 Z ?_;obtain⟨KF1,hKF1,_,F,hK2⟩:=bindE F;refine qbe (fun e w'=>∃(b2:Bool),KF1 b2=V o1∧e=[(2,.pointer (V ⟨bb1,0,U⟩)),(5,.int .i64 (a_0.Aj.length:Int)),(6,.int .i64 i1),(58,.bool b2)]∧SH w w' [Ch.box bb1 (qg5 a_0 p1 p2 p3 p4 k1 k2 k3 k4) 210]) ?_ ?_
  ·refine X1 4 0 h Z ?_;obtain⟨_,_,F,he5,_,_,_,_,hp5,hq5,rfl,hc10⟩:=s3.ix F;refine zxe hp5 hq5 he5 Z (zc 0 (hc10.below h.below) Z (zcB h F qai Z fun _ _ h F=>zp2 Z (qm (t:=50) F Z ?_ ?_)))<;>intro F
   ·refine X0 9 Z ?_;obtain rfl:=qb F;exact rG ⟨_,hK2,rfl,h⟩ Z
   refine X1 7 0 h Z ?_;obtain⟨_,_,F,he6,_,_,_,_,hp6,hq6,rfl,hc11⟩:=s2.ix F;refine zxe hp6 hq6 he6 Z (X0 1 Z (zc 0 (hc11.below h.below) Z (X0 1 Z (zcB h F qai Z fun _ _ h F=>X0 4 Z ?_))));obtain rfl:=qb F;exact rG ⟨_,hK2,rfl,h⟩ Z
  rintro _ _ ⟨b2,F,rfl,h⟩;subst hKF1;refine qh Z F ?_ ?_<;>intro F
  ·refine X0 4 Z ?_;obtain rfl:=qb F;replace F:=hK1;exact rb h F Z
  refine X0 6 Z (qm (t:=61) F Z ?_ ?_)<;>intro F
  ·refine X1 7 0 h Z ?_;obtain⟨_,_,F,he1,_,_,_,_,hp1,hq1,rfl,hc4⟩:=s1.ix F;refine zxe hp1 hq1 he1 Z (X0 1 Z (zc 0 (hc4.below h.below) Z (X0 4 Z (qm (t:=68) F Z ?_ ?_))))<;>intro F
   ·refine X0 25 Z (qfQ Z Z (X0 4 Z ?_));obtain rfl:=qb F;replace F:=hK1;exact rb h F Z
   refine X1 7 0 h Z ?_;obtain⟨_,_,F,he2,_,_,_,_,hp2,hq2,rfl,hc5⟩:=s2.ix F;refine zxe hp2 hq2 he2 Z (X0 1 Z (zc 0 (hc5.below h.below) Z (X0 6 Z (qm (t:=77) F Z ?_ ?_))))<;>intro F
   ·refine X0 15 Z (qfQ Z Z (X0 4 Z ?_));obtain rfl:=qb F;replace F:=hK1;exact rb h F Z
   refine X0 6 Z (qm (t:=80) F Z ?_ ?_)<;>intro F
   ·refine X1 7 0 h Z ?_;obtain⟨_,_,F,he3,_,_,_,_,hp3,hq3,rfl,hc6⟩:=s1.ix F;refine zxe hp3 hq3 he3 Z (X0 1 Z (zc 0 (hc6.below h.below) Z (X0 5 Z (zcB h F qai Z fun _ _ h F=>X0 6 Z (qh Z F ?_ ?_)))))<;>intro F
    ·refine X0 4 Z ?_;obtain rfl:=qb F;replace F:=hK1;exact rb h F Z
    exact X0 7 Z (rK ⟨_,F,rfl,h⟩ Z)
   exact X0 13 Z (qdi Z Z (X0 7 Z (rK ⟨_,F,rfl,h⟩ Z)))
  refine X0 22 Z (qm (t:=80) F Z ?_ ?_)<;>intro F
  ·refine X1 7 0 h Z ?_;obtain⟨_,_,F,he4,_,_,_,_,hp4,hq4,rfl,hc8⟩:=s1.ix F;refine zxe hp4 hq4 he4 Z (X0 1 Z (zc 0 (hc8.below h.below) Z (X0 5 Z (zcB h F qai Z fun _ _ h F=>X0 6 Z (qh Z F ?_ ?_)))))<;>intro F
   ·refine X0 4 Z ?_;obtain rfl:=qb F;replace F:=hK1;exact rb h F Z
   exact X0 7 Z (rK ⟨_,F,rfl,h⟩ Z)
  exact X0 13 Z (qdi Z Z (X0 7 Z (rK ⟨_,F,rfl,h⟩ Z)))
 refine qq Z ?_;obtain rfl:=qb F;replace F:=hK1;refine X0 5 Z ?_;obtain⟨o3,F,hK3⟩:=qc F;refine qn (rL (fun m e w'=>∃(i2:Int),qf5 a_0 m i2=V o3∧e=[(2,.pointer (V ⟨bb1,0,U⟩)),(5,.int .i64 (a_0.Aj.length:Int)),(7,.int .i64 i2)]∧SH w w' [Ch.box bb1 (qg5 a_0 p1 p2 p3 p4 k1 k2 k3 k4) 210]) n ⟨_,F,rfl,h⟩ Z ?_);rintro m2 _ _ ⟨i2,F,rfl,h⟩;rcases m2 with _|m2
 ·cases F
 refine X1 9 0 h Z (qh Z F ?_ ?_)<;>intro F
 ·refine X1 8 0 h Z ?_;obtain⟨_,_,F,he7,_,_,_,_,hp7,hq7,rfl,hc13⟩:=s4.ix F;refine zxe hp7 hq7 he7 Z (zc 0 (hc13.below h.below) Z (zp2 Z (zcB h F qai Z fun _ _ h F=>X0 2 Z (qh Z F ?_ ?_))))<;>intro F
  ·refine X0 4 Z ?_;obtain rfl:=qb F;replace F:=hK3;exact rb h F Z
  exact X0 7 Z (rK ⟨_,F,rfl,h⟩ Z)
 refine qq Z ?_;obtain rfl:=qb F;replace F:=hK3;exact X0 4 Z (rb h F Z)
def qcR (i1:Int)(y1:qk):Nat→(List Tl05Place)→Int→Option ((List Tl05Place)×Int)
 | 0,_,_=>U
 | n+1,x2,i2=>
  bif decide (i2<(y1.Ah.length:Int)) then
   (idx y1.Ah i2).bind fun y2=>
   (appS x2 ([(⟨i1,i2,y2,(i2==(W64 ((y1.Ah.length:Int)-1)))⟩:Tl05Place)]:List Tl05Place)).bind fun x3=>
   qcR i1 y1 n x3 (W64 (i2+1))
  else
   V (x2,i2)
def qcY (a_0:qe):Nat→(List Tl05Place)→Int→Option ((List Tl05Place)×Int)
 | 0,_,_=>U
 | n+1,x4,i3=>
  bif decide (i3<(a_0.Af.length:Int)) then
   (idx a_0.Af i3).bind fun y3=>
   (idx a_0.Af i3).bind fun y4=>
   (appS x4 ([(⟨(-1),i3,y3.Bx,(y4.Bu==1)⟩:Tl05Place)]:List Tl05Place)).bind fun x5=>
   qcY a_0 n x5 (W64 (i3+1))
  else
   V (x4,i3)
def qcV (a_0:qe):Nat→(List Tl05Place)→Int→Option ((List Tl05Place)×Int)
 | 0,_,_=>U
 | n+1,x1,i1=>
  bif decide (i1<(a_0.Ab.length:Int)) then
   (idx a_0.Ab i1).bind fun y1=>
   (qcR i1 y1 n x1 0).bind fun o=>match o with
   | (x2,_)=>
    qcV a_0 n x2 (W64 (i1+1))
  else
   V (x1,i1)
def qbH (n:Nat)(a_0:qe):Option (List Tl05Place):=
 (qcV a_0 n ([]:List Tl05Place) 0).bind fun o=>match o with
 | (x1,_)=>
  (qcY a_0 n x1 0).bind fun o=>match o with
  | (x4,_)=>
   V x4
theorem qbz {a_0:qe}(ha1:Ro w a_0 cs1){r:(List Tl05Place)}(F:qbH n a_0=V r):RetV prog 171 [GoT.v qe cs1] w r:=by
 obtain⟨p1,k1,p2,k2,p3,k3,rfl,s1,_,s3⟩:=qaD ha1;refine zV 69 func171 Z fun h=>zSR (qx h Z Z fun _ bb1 h=>X0 4 Z (qK qa [] _ ([]:List Tl05Place) h Z Z Z Z Z Z Z Z Z trivial Z fun _ _ _ h=>X0 7 Z ?_));obtain⟨o1,F,hK1⟩:=qc F;refine qn (rL (fun m e w'=>∃(S2:Nat→Prop) (p5:Option Addr) (ln1:Nat) (k4:Nat) (x1:(List Tl05Place)) (i1:Int),qcV a_0 m x1 i1=V o1∧e=[(1,.pointer (V ⟨bb1,0,U⟩)),(3,.slice p5 ln1 k4),(4,.int .i64 i1)]∧SH w w' [Ch.own S2 (x1:List Tl05Place) [.slice p5 ln1 k4],Ch.box bb1 (qaQ a_0 p1 p2 p3 k1 k2 k3) 50]) n ⟨_,_,_,_,_,_,F,rfl,h⟩ Z ?_);rintro m1 _ _ ⟨S2,p5,ln1,k4,x1,i1,F,rfl,h⟩;obtain rfl:=(h.sl 0 Z).2;rcases m1 with _|m1
 ·cases F
 refine X1 9 1 h Z (qh Z F ?_ ?_)<;>intro F
 ·refine X1 8 1 h Z ?_;obtain⟨y1,_,F,he1,_,_,_,_,hp1,hq1,hr1,hc2⟩:=s1.ix F;obtain⟨p6,k5,rfl,s4⟩:=qF hr1;refine zxe hp1 hq1 he1 Z (zp1 Z (zc 2 (hc2.below h.below) Z (X0 6 Z ?_)));obtain⟨o2,F,hK2⟩:=qc F;refine qn (rL (fun m e w'=>∃(S3:Nat→Prop) (p7:Option Addr) (ln2:Nat) (k6:Nat) (x2:(List Tl05Place)) (i2:Int),qcR i1 y1 m x2 i2=V o2∧e=[(1,.pointer (V ⟨bb1,0,U⟩)),(3,.slice p7 ln2 k6),(4,.int .i64 i1),(5,.slice p6 y1.Ah.length k5),(6,.int .i64 i2)]∧SH w w' [Ch.own S3 (x2:List Tl05Place) [.slice p7 ln2 k6],Ch.box bb1 (qaQ a_0 p1 p2 p3 k1 k2 k3) 50]) m1 ⟨_,_,_,_,_,_,F,rfl,h⟩ Z ?_);rintro m2 _ _ ⟨S3,p7,ln2,k6,x2,i2,F,rfl,h⟩;obtain rfl:=(h.sl 0 Z).2;rcases m2 with _|m2
  ·cases F
  refine X0 8 Z (qh Z F ?_ ?_)<;>intro F
  ·refine X0 9 Z ?_;obtain⟨y2,_,F,he2,_,_,_,_,hp2,hq2,rfl,hc4⟩:=s4.ix F;refine zxe hp2 hq2 he2 Z (zc 0 (hc4.below h.below) Z (zp5 Z (r_v (qJ qa [0,1,2,3] [.tmp 29,.tmp 30,.tmp 34,.tmp 39] Z Z Z Z Z Z Z Z) Z (qK qa [.tmp 40] _ ([(⟨i1,i2,y2,(i2==(W64 ((y1.Ah.length:Int)-1)))⟩:Tl05Place)]:List Tl05Place) h Z Z Z Z Z Z Z Z Z ⟨(qet (⟨i1,i2,y2,(i2==(W64 ((y1.Ah.length:Int)-1)))⟩:Tl05Place)),trivial⟩ Z fun _ _ _ h=>?_))));obtain⟨_,hx1,F⟩:=qc F;obtain⟨g1,hx1⟩:=qan hx1;refine qbW qa 1 h Z (h.sl 0 Z).1 (h.sl 0 Z).2 Z Z Z Z Z Z Z Z Z g1 hx1 Z fun _ _ _ _ h=>X0 8 Z ?_;replace h:=h.pick [1,2] Z;exact rK ⟨_,_,_,_,_,_,F,rfl,h⟩ Z
  refine qq Z ?_;obtain rfl:=qb F;replace F:=hK2;exact X0 6 Z (rK ⟨_,_,_,_,_,_,F,rfl,h⟩ Z)
 refine qq Z ?_;obtain rfl:=qb F;replace F:=hK1;refine X0 5 Z ?_;obtain⟨o3,F,hK3⟩:=qc F;refine qn (rL (fun m e w'=>∃(S6:Nat→Prop) (p10:Option Addr) (ln3:Nat) (k8:Nat) (x4:(List Tl05Place)) (i3:Int),qcY a_0 m x4 i3=V o3∧e=[(1,.pointer (V ⟨bb1,0,U⟩)),(3,.slice p10 ln3 k8),(7,.int .i64 i3)]∧SH w w' [Ch.own S6 (x4:List Tl05Place) [.slice p10 ln3 k8],Ch.box bb1 (qaQ a_0 p1 p2 p3 k1 k2 k3) 50]) n ⟨_,_,_,_,_,_,F,rfl,h⟩ Z ?_);rintro m3 _ _ ⟨S6,p10,ln3,k8,x4,i3,F,rfl,h⟩;obtain rfl:=(h.sl 0 Z).2;rcases m3 with _|m3
 ·cases F
 refine X1 9 1 h Z (qh Z F ?_ ?_)<;>intro F
 ·refine zKSB (rA [] [1] h Z fun _ h=>M1 31 [0,1,2,3,4] 0 (h.pick [1] Z) Z ?_);obtain⟨y3,_,F,he3,_,_,_,_,hp3,hq3,hr3,hc6⟩:=s3.ix F;obtain rfl:=qaU hr3;refine Ae 5 63 hp3 hq3 he3 (h.pick [1] Z) Z (M0 127 [6] (h.pick [1] Z) Z (Al 7 255 2 hc6 (h.pick [1] Z) Z (M1 2047 [8,9,10] 0 (h.pick [1] Z) Z ?_)));obtain⟨y4,_,F,he4,_,_,_,_,hp4,hq4,hr4,hc7⟩:=s3.ix F;obtain rfl:=qaU hr4;refine Ae 11 4095 hp4 hq4 he4 (h.pick [1] Z) Z (M0 8191 [12] (h.pick [1] Z) Z (Al 13 16383 1 hc7 (h.pick [1] Z) Z (M0 32767 [14] (h.pick [1] Z) Z (Aw 15 65535 (fun w' hw=>qJ qa [0,1,2,3] [.const (.int .i64 (-1)),.tmp 51,.tmp 57,.tmp 64] Z Z Z Z Z Z Z Z) (h.pick [1] Z) Z ?_))));refine Ao 16 131071 Z (qK qa [.tmp 65] _ ([(⟨(-1),i3,y3.Bx,(y4.Bu==1)⟩:Tl05Place)]:List Tl05Place) h Z Z Z Z Z Z Z Z Z ⟨(qet (⟨(-1),i3,y3.Bx,(y4.Bu==1)⟩:Tl05Place)),trivial⟩ Z fun _ _ _ h=>Ag (h.pick [2] Z) (Ao 17 262143 Z ?_));obtain⟨_,hx2,F⟩:=qc F;obtain⟨g2,hx2⟩:=qan hx2;refine qbW qa 1 h Z (h.sl 0 Z).1 (h.sl 0 Z).2 Z Z Z Z Z Z Z Z Z g2 hx2 Z fun _ _ _ _ h=>G0 524287 [18] (h.pick [2] Z) Z (Ad (X0 6 Z ?_));replace h:=h.pick [1,2] Z;exact rK ⟨_,_,_,_,_,_,F,rfl,h⟩ Z
 refine qq Z ?_;obtain rfl:=qb F;replace F:=hK3;refine X0 5 Z ?_;obtain rfl:=qb F;exact rO 0 h Z ⟨rfl,trivial⟩
def qcM (net:Int)(r1:(List Tl05Place)):Nat→(List Int)→Int→Option ((List Int)×Int)
 | 0,_,_=>U
 | n+1,x1,i1=>
  bif decide (i1<(r1.length:Int)) then
   (
    (idx r1 i1).bind fun y1=>
    bif (y1.net==net) then
     (idx r1 i1).bind fun y2=>
     V (!y2.drives)
    else
     V false).bind fun b1=>
   bif b1 then
    (appS x1 ([i1]:List Int)).bind fun x2=>
    qcM net r1 n x2 (W64 (i1+1))
   else
    qcM net r1 n x1 (W64 (i1+1))
  else
   V (x1,i1)
def qgQ (n:Nat)(d:qe)(net:Int):Option (List Int):=
 (qbH n d).bind fun r1=>
 (qcM net r1 n ([]:List Int) 0).bind fun o=>match o with
 | (x1,_)=>
  V x1
theorem qjr {d:qe}{net:Int}(ha1:Ro w d cs1){r:(List Int)}(F:qgQ n d net=V r):RetV prog 146 [GoT.v qe cs1,.int .i64 net] w r:=by
 obtain⟨_,_,_,_,_,_,rfl,_,_,_⟩:=qaD ha1;refine zV 37 func146 Z fun h=>zSR (qx h Z Z fun _ _ h=>X0 4 Z (qK qa [] _ ([]:List Int) h Z Z Z Z Z Z Z Z Z trivial Z fun _ _ _ h=>X1 5 1 h Z (zcL h F (qbz (h.old ha1)) Z fun r1 _ S2 p5 k4 h F=>X0 7 Z ?_)));obtain⟨o1,F,hK1⟩:=qc F;refine qn ?_;replace h:=h.pick [0,1] Z;refine rL (fun m e w'=>∃(S3:Nat→Prop) (p6:Option Addr) (ln1:Nat) (k5:Nat) (x1:(List Int)) (i1:Int),qcM net r1 m x1 i1=V o1∧e=[(1,.int .i64 net),(5,.slice p6 ln1 k5),(6,.slice p5 r1.length k4),(7,.int .i64 i1)]∧SH w w' [Ch.own S2 (r1:List Tl05Place) [.slice p5 r1.length k4],Ch.own S3 (x1:List Int) [.slice p6 ln1 k5]]) n ⟨_,_,_,_,_,_,F,rfl,h⟩ Z ?_;rintro m1 _ _ ⟨S3,p6,ln1,k5,x1,i1,F,rfl,h⟩;obtain rfl:=(h.sl 1 Z).2;rcases m1 with _|m1
 ·cases F
 refine X0 8 Z (qh Z F ?_ ?_)<;>intro F
 ·refine X0 4 Z ?_;obtain⟨KF1,hKF1,_,F,hK2⟩:=bindE F;refine qbe (fun e w'=>∃(b1:Bool),KF1 b1=V o1∧e=[(1,.int .i64 net),(5,.slice p6 x1.length k5),(6,.slice p5 r1.length k4),(7,.int .i64 i1),(31,.bool b1)]∧SH w w' [Ch.own S2 (r1:List Tl05Place) [.slice p5 r1.length k4],Ch.own S3 (x1:List Int) [.slice p6 x1.length k5]]) ?_ ?_
  ·refine X0 3 Z ?_;obtain⟨_,_,F,he1,_,_,_,_,hp1,hq1,hr2,hc3⟩:=(h.sl 0 Z).1.ix F;obtain rfl:=qbp hr2;refine zx hp1 hq1 ⟨he1.1,qC he1.2.1 (h.sl 0 Z).2⟩ Z (zp1 Z (zc 2 hc3 Z (zp3 Z (qm (t:=24) F Z ?_ ?_))))<;>intro F
   ·refine X0 5 Z ?_;obtain⟨_,_,F,he2,_,_,_,_,hp2,hq2,hr3,hc4⟩:=(h.sl 0 Z).1.ix F;obtain rfl:=qbp hr3;refine zx hp2 hq2 ⟨he2.1,qC he2.2.1 (h.sl 0 Z).2⟩ Z (X0 3 Z (zc 3 hc4 Z (X0 4 Z ?_)));obtain rfl:=qb F;exact rG ⟨_,hK2,rfl,h⟩ Z
   refine X0 8 Z ?_;obtain rfl:=qb F;exact rG ⟨_,hK2,rfl,h⟩ Z
  rintro _ _ ⟨b1,F,rfl,h⟩;subst hKF1;refine qh Z F ?_ ?_<;>intro F
  ·refine X0 3 Z (qK qa [.tmp 33] _ ([i1]:List Int) h Z Z Z Z Z Z Z Z Z ⟨rfl,trivial⟩ Z fun _ _ _ h=>?_);obtain⟨_,hx1,F⟩:=qc F;obtain⟨g1,hx1⟩:=qan hx1;refine qbW qa 2 h Z (h.sl 0 Z).1 (h.sl 0 Z).2 Z Z Z Z Z Z Z Z Z g1 hx1 Z fun _ _ _ _ h=>X0 8 Z ?_;replace h:=h.pick [1,2] Z;exact rK ⟨_,_,_,_,_,_,F,rfl,h⟩ Z
  exact X0 7 Z (rK ⟨_,_,_,_,_,_,F,rfl,h⟩ Z)
 refine qq Z ?_;obtain rfl:=qb F;replace F:=hK1;refine X0 5 Z ?_;obtain rfl:=qb F;exact rO 1 h Z ⟨rfl,trivial⟩
def qff (b:qd):Nat→Int→Option (Flow Bool Int)
 | 0,_=>U
 | n+1,i1=>
  bif decide (i1<(b.Ac.length:Int)) then
   (idx b.Ac i1).bind fun y1=>
   (qgQ n (⟨b.Aa.Ab,b.Aa.Ah,b.Aa.Af⟩:qe) i1).bind fun r1=>
   (qln n y1 (r1.length:Int)).bind fun r2=>
   bif (!r2) then V (.ret false) else
   qff b n (W64 (i1+1))
  else
   V (.nxt i1)
def qhS (n:Nat)(b:qd):Option Bool:=
 (
  (qjz n (⟨b.Ap.Am⟩:qr) (⟨b.Aa.Ab,b.Aa.Ah,b.Aa.Af⟩:qe)).bind fun r3=>
  bif (!r3) then V true else
  V ((b.Ac.length:Int) != (b.Aa.Ah.length:Int))).bind fun b1=>
 bif b1 then V false else
 (qff b n 0).bind fun o=>match o with
 | .ret r=>V r
 | .nxt _=>
  V true
theorem qmJ {b:qd}(ha1:Ro w b cs1){r:Bool}(F:qhS n b=V r):RetV prog 69 [GoT.v qd cs1] w r:=by
 obtain⟨p1,k1,p2,k2,p3,k3,p4,k4,p5,k5,rfl,s1,s2,s3,s4,s5⟩:=qM ha1;refine zV 39 func69 Z fun h=>zSR (qx h Z Z fun _ bb1 h=>X0 4 Z ?_);obtain⟨KF1,hKF1,_,F,hK2⟩:=bindE F;refine qbe (fun e w'=>∃(b1:Bool),KF1 b1=V r∧e=[(1,.pointer (V ⟨bb1,0,U⟩)),(19,.bool b1)]∧SH w w' [Ch.box bb1 (qT b p1 p2 p3 p4 p5 k1 k2 k3 k4 k5) 53]) ?_ ?_
 ·refine X2 5 0 0 h Z (zcB h F (qo5 (qep _ (h.oldS s1)) (qao _ (h.oldS s2) (h.oldS s3) (h.oldS s4))) Z fun _ _ h F=>zp2 Z (qm (t:=10) F Z ?_ ?_))<;>intro F
  ·refine X0 10 Z ?_;obtain rfl:=qb F;exact rG ⟨_,hK2,rfl,h⟩ Z
  refine X2 18 0 0 h Z ?_;obtain rfl:=qb F;exact rG ⟨_,hK2,rfl,h⟩ Z
 rintro _ _ ⟨b1,F,rfl,h⟩;subst hKF1;refine qh Z F ?_ ?_<;>intro F
 ·exact X0 4 Z (rb h F Z)
 refine X0 6 Z ?_;obtain⟨o1,F,hK1⟩:=qc F;refine qn (rL (fun m e w'=>∃(i1:Int),qff b m i1=V o1∧e=[(1,.pointer (V ⟨bb1,0,U⟩)),(3,.int .i64 i1)]∧SH w w' [Ch.box bb1 (qT b p1 p2 p3 p4 p5 k1 k2 k3 k4 k5) 53]) n ⟨_,F,rfl,h⟩ Z ?_);rintro m1 _ _ ⟨i1,F,rfl,h⟩;rcases m1 with _|m1
 ·cases F
 refine X1 9 0 h Z (qh Z F ?_ ?_)<;>intro F
 ·refine X0 4 Z (rA [] [0] h Z fun _ h=>M1 7 [0,1,2] 0 (h.pick [0] Z) Z ?_);obtain⟨y1,_,F,he1,_,_,_,_,hp1,hq1,hr1,hc3⟩:=s5.ix F;obtain⟨_,_,_,_,_,_,_,_,rfl,s6,s7,s8,s9⟩:=qaO hr1;refine Ae 3 15 hp1 hq1 he1 (h.pick [0] Z) Z (Al 4 31 0 hc3 (h.pick [0] Z) Z (M1 255 [5,6,7] 0 (h.pick [0] Z) Z (Ao 8 511 Z (zcL h F (qjr (qao _ (h.oldS s2) (h.oldS s3) (h.oldS s4))) Z fun _ _ _ _ _ h F=>G0 1023 [9] (h.pick [1] Z) Z (Ao 10 2047 Z (zcB h F (qri (qkH y1 (h.oldS s6) (h.oldS s7) (h.oldS s8) (h.oldS s9))) Z fun _ _ h F=>G0 4095 [11] (h.pick [1] Z) Z (Ad (qh Z F ?_ ?_))))))))<;>intro F
  ·refine X0 4 Z ?_;obtain rfl:=qb F;replace F:=hK1;exact rb h F Z
  refine X0 7 Z ?_;replace h:=h.pick [1] Z;exact rK ⟨_,F,rfl,h⟩ Z
 refine qq Z ?_;obtain rfl:=qb F;replace F:=hK1;exact X0 4 Z (rb h F Z)
def qaY (_:Nat)(x:Int)(low:Int)(high:Int):Option Bool:=
 bif decide (x ≥ low) then V (decide (x≤high)) else
 V false
theorem qaN {x:Int}{low:Int}{high:Int}  {r:Bool}(F:qaY n x low high=V r):RetV prog 103 [.int .i64 x,.int .i64 low,.int .i64 high] w r:=by
 refine zV 15 func103 Z fun h=>X0 10 Z (qm (t:=10) F Z ?_ ?_)<;>intro F
 ·exact X0 9 Z (rb h F Z)
 exact X0 6 Z (rb h F Z)
def qit (_:Nat)(list:(List ByteArray)):Option Int:=
 V (list.length:Int)
theorem qmR {list:(List ByteArray)}(ha1:Ro w list cs1){r:Int}(F:qit n list=V r):RetV prog 205 [GoT.v (List ByteArray) cs1] w r:=by
 obtain⟨_,_,rfl,_⟩:=ha1;exact zV 5 func205 Z fun h=>X0 10 Z (ri h F Z)
def qdV (n:Nat)(d:qe)(net:Int):Option Bool:=
 (qit n d.Ah).bind fun r1=>
 (qaY n net 0 (W64 (r1-1))).bind fun r2=>
 V r2
theorem qhd {d:qe}{net:Int}(ha1:Ro w d cs1){r:Bool}(F:qdV n d net=V r):RetV prog 129 [GoT.v qe cs1,.int .i64 net] w r:=by
 obtain⟨_,_,_,_,_,_,rfl,_,s2,_⟩:=qaD ha1;exact zV 11 func129 Z fun h=>zSR (qx h Z Z fun _ _ h=>X1 7 0 h Z (zcI h F (qmR ⟨_,_,rfl,(h.oldS s2)⟩) Z fun _ _ h F=>zp1 Z (zcB h F qaN Z fun _ _ h F=>X0 2 Z (rb h F Z))))
def qiT (_:Nat)(s cutset:ByteArray):Option ByteArray:=
 if s.size≤9223372036854775807∧cutset.size<4294967281∧cutset.data.toList.all (fun b=>decide (b.toNat<128))=true then V ⟨(Lib.trimS s.data.toList cutset.data.toList).toArray⟩ else U
theorem qqg {s cutset:ByteArray}{r:ByteArray}(F:qiT n s cutset=V r):RetV prog 233 [.string s,.string cutset] w r:=by
 unfold qiT at F;split at F
 ·rename_i hh
  obtain rfl:=qb F;refine(Tryz.strings_Trim_any s cutset w hh.1 hh.2.1 hh.2.2).mono ?_;rintro e w' ⟨rfl,hB⟩;exact⟨_,rfl,hB,[.string _],rfl,quJ _ _⟩
 cases F
def qg9 (_:Nat)(s:ByteArray)(c:(IntK .u8)):Option Int:=
 V (Lib.indexByte s.data.toList c.val.toNat.toUInt8)
theorem qnq {s:ByteArray}{c:(IntK .u8)}{r:Int}(F:qg9 n s c=V r):RetV prog 234 [.string s,.int .u8 c.val] w r:=by
 obtain rfl:=qb F;refine(Tryz.strings_IndexByte s c.val w).mono ?_;rintro e w' ⟨rfl,rfl⟩;exact⟨_,rfl,Below.refl _ _,[.int .i64 _],rfl,qwW _ _⟩
def qiA (n:Nat)(s:ByteArray):Option Bool:=
 (qaY n (s.size:Int) 1 8).bind fun r1=>
 bif r1 then
  (qiT n s (⟨#[97,98,99,100,101,102,103,104,105,106,107,108,109,110,111,112,113,114,115,116,117,118,119,120,121,122,48,49,50,51,52,53,54,55,56,57]⟩:ByteArray)).bind fun r2=>
  bif (r2.toList==(⟨#[]⟩:ByteArray).toList) then
   (atS s 0).bind fun y1=>
   (qg9 n (⟨#[97,98,99,100,101,102,103,104,105,106,107,108,109,110,111,112,113,114,115,116,117,118,119,120,121,122]⟩:ByteArray) (⟨y1⟩:IntK .u8)).bind fun r3=>
   V (decide (r3 ≥ 0))
  else
   V false
 else
  V false
theorem qkN {s:ByteArray}  {r:Bool}(F:qiA n s=V r):RetV prog 164 [.string s] w r:=by
 refine zV 17 func164 Z fun h=>X0 8 Z (zcB h F qaN Z fun _ _ h F=>zp1 Z (qm (t:=6) F Z ?_ ?_))<;>intro F
 ·refine X0 3 Z (zcS h F qqg Z fun _ _ h F=>X0 4 Z (qm (t:=11) F Z ?_ ?_))<;>intro F
  ·refine X0 3 Z ?_;obtain⟨_,hx1,F⟩:=qc F;have g1:=qnr hx1;exact r_v (qnh qa g1 Z Z Z Z) Z (X0 1 Z (zcI h F qnq Z fun _ _ h F=>X0 5 Z (rb h F Z)))
  exact X0 7 Z (rb h F Z)
 exact X0 12 Z (rb h F Z)
def qb4 (_:Nat)(list:(List qam)):Option Int:=
 V (list.length:Int)
theorem qiJ {list:(List qam)}(ha1:Ro w list cs1){r:Int}(F:qb4 n list=V r):RetV prog 248 [GoT.v (List qam) cs1] w r:=by
 obtain⟨_,_,rfl,_⟩:=ha1;exact zV 5 func248 Z fun h=>X0 10 Z (ri h F Z)
def qch (s:(List ByteArray))(v:ByteArray):Nat→Int→Option (Flow Int Int)
 | 0,_=>U
 | n+1,i1=>
  bif decide (i1<(s.length:Int)) then
   (idx s i1).bind fun y1=>
   bif (v.toList==y1.toList) then V (.ret i1) else
   qch s v n (W64 (i1+1))
  else
   V (.nxt i1)
def qfM (n:Nat)(s:(List ByteArray))(v:ByteArray):Option Int:=
 (qch s v n 0).bind fun o=>match o with
 | .ret r=>V r
 | .nxt _=>
  V (-1)
theorem qmC {s:(List ByteArray)}{v:ByteArray}(ha1:Ro w s cs1){r:Int}(F:qfM n s v=V r):RetV prog 320 [GoT.v (List ByteArray) cs1,.string v] w r:=by
 obtain⟨p1,k1,rfl,s1⟩:=ha1;refine zV 19 func320 Z fun h=>X0 11 Z ?_;obtain⟨o1,F,hK1⟩:=qc F;refine qn (rL (fun m e w'=>∃(i1:Int),qch s v m i1=V o1∧e=[(0,.slice p1 s.length k1),(1,.string v),(7,.int .i64 (s.length:Int)),(8,.int .i64 i1)]∧SH w w' []) n ⟨_,F,rfl,h⟩ Z ?_);rintro m1 _ _ ⟨i1,F,rfl,h⟩;rcases m1 with _|m1
 ·cases F
 refine X0 5 Z (qh Z F ?_ ?_)<;>intro F
 ·refine X0 13 Z ?_;obtain⟨_,_,F,he1,_,_,_,_,hp1,hq1,rfl,hc2⟩:=s1.ix F;refine zxe hp1 hq1 he1 Z (zc 0 (hc2.below h.below) Z (X0 2 Z (qh Z F ?_ ?_)))<;>intro F
  ·refine X0 5 Z ?_;obtain rfl:=qb F;replace F:=hK1;exact ri h F Z
  exact X0 6 Z (rK ⟨_,F,rfl,h⟩ Z)
 refine qq Z ?_;obtain rfl:=qb F;replace F:=hK1;exact X0 4 Z (ri h F Z)
def qel (n:Nat)(s:(List ByteArray))(v:ByteArray):Option Bool:=
 (qfM n s v).bind fun r1=>
 V (decide (r1 ≥ 0))
theorem qlj {s:(List ByteArray)}{v:ByteArray}(ha1:Ro w s cs1){r:Bool}(F:qel n s v=V r):RetV prog 301 [GoT.v (List ByteArray) cs1,.string v] w r:=by
 obtain⟨_,_,rfl,s1⟩:=ha1;exact zV 9 func301 Z fun h=>X0 8 Z (zcI h F (qmC ⟨_,_,rfl,(h.oldS s1)⟩) Z fun _ _ h F=>X0 3 Z (rb h F Z))
def qeH (list:(List ByteArray)):Nat→Int→Option (Flow Bool Int)
 | 0,_=>U
 | n+1,i1=>
  bif decide (i1<(list.length:Int)) then
   (idx list i1).bind fun y1=>
   (qiA n y1).bind fun r1=>
   bif (!r1) then V (.ret false) else
   (subS list 0 i1).bind fun x1=>
   (qel n x1 y1).bind fun r2=>
   bif r2 then V (.ret false) else
   qeH list n (W64 (i1+1))
  else
   V (.nxt i1)
def qev (n:Nat)(list:(List ByteArray)):Option Bool:=
 (qeH list n 0).bind fun o=>match o with
 | .ret r=>V r
 | .nxt _=>
  V true
theorem qf7 {list:(List ByteArray)}(ha1:Ro w list cs1){r:Bool}(F:qev n list=V r):RetV prog 267 [GoT.v (List ByteArray) cs1] w r:=by
 obtain⟨p1,k1,rfl,s1⟩:=ha1;refine zV 23 func267 Z fun h=>X0 11 Z ?_;obtain⟨o1,F,hK1⟩:=qc F;refine qn (rL (fun m e w'=>∃(i1:Int),qeH list m i1=V o1∧e=[(0,.slice p1 list.length k1),(5,.slice p1 list.length k1),(6,.int .i64 (list.length:Int)),(7,.int .i64 i1)]∧SH w w' []) n ⟨_,F,rfl,h⟩ Z ?_);rintro m1 _ _ ⟨i1,F,rfl,h⟩;rcases m1 with _|m1
 ·cases F
 refine X0 5 Z (qh Z F ?_ ?_)<;>intro F
 ·refine X0 6 Z ?_;obtain⟨_,_,F,he1,_,_,_,_,hp1,hq1,rfl,hc2⟩:=s1.ix F;refine zxe hp1 hq1 he1 Z (zc 0 (hc2.below h.below) Z (X0 6 Z (zcB h F qkN Z fun _ _ h F=>zp2 Z (qm (t:=15) F Z ?_ ?_))))<;>intro F
  ·refine X0 7 Z (qfQ Z Z (X0 4 Z ?_));obtain rfl:=qb F;replace F:=hK1;exact rb h F Z
  refine X0 5 Z ?_;obtain⟨_,hx1,F⟩:=qc F;obtain⟨_,_,hp2,hk1,hl1,g1⟩:=qxl (h.oldS s1) hx1;refine r_v (qug qa Z Z Z (qxt g1 Z) hp2 hk1 hl1 Z Z Z Z) Z ?_;have s2:=qxI s1 hx1 hp2 hk1;refine X0 3 Z (zcB h F (qlj ⟨_,_,rfl,(h.oldS s2)⟩) Z fun _ _ h F=>X0 2 Z (qh Z F ?_ ?_))<;>intro F
  ·refine X0 4 Z ?_;obtain rfl:=qb F;replace F:=hK1;exact rb h F Z
  exact X0 6 Z (rK ⟨_,F,rfl,h⟩ Z)
 refine qq Z ?_;obtain rfl:=qb F;replace F:=hK1;exact X0 4 Z (rb h F Z)
def qde (list:(List qam)):Nat→(List ByteArray)→Int→Option (Flow Bool ((List ByteArray)×Int))
 | 0,_,_=>U
 | n+1,x1,i1=>
  bif decide (i1<(list.length:Int)) then
   (idx list i1).bind fun y1=>
   (appS x1 ([y1.Au]:List ByteArray)).bind fun x2=>
   bif (i1==(W64 ((list.length:Int)-1))) then
    bif (y1.Bu != 2) then V (.ret false) else
    bif (y1.Br != 0) then V (.ret false) else
    bif y1.Bo then V (.ret false) else
    qde list n x2 (W64 (i1+1))
   else
    bif (y1.Bu != 1) then V (.ret false) else
    (qaY n y1.Br 0 500).bind fun r1=>
    bif (!r1) then V (.ret false) else
    qde list n x2 (W64 (i1+1))
  else
   V (.nxt (x1,i1))
def qkE (n:Nat)(list:(List qam)):Option Bool:=
 (qde list n ([]:List ByteArray) 0).bind fun o=>match o with
 | .ret r=>V r
 | .nxt (x1,_)=>
  (qb4 n list).bind fun r2=>
  (qaY n r2 2 5).bind fun r3=>
  bif r3 then
   (qev n x1).bind fun r4=>
   V r4
  else
   V false
theorem qqs {list:(List qam)}(ha1:Ro w list cs1){r:Bool}(F:qkE n list=V r):RetV prog 298 [GoT.v (List qam) cs1] w r:=by
 obtain⟨p1,k1,rfl,s1⟩:=ha1;refine zV 52 func298 Z fun h=>X0 15 Z ?_;replace h:=h.nil (α:=ByteArray);obtain⟨o1,F,hK1⟩:=qc F;refine qn (rL (fun m e w'=>∃(S1:Nat→Prop) (p2:Option Addr) (ln1:Nat) (k2:Nat) (x1:(List ByteArray)) (i1:Int),qde list m x1 i1=V o1∧e=[(0,.slice p1 list.length k1),(3,.slice p2 ln1 k2),(6,.slice p1 list.length k1),(7,.int .i64 (list.length:Int)),(8,.int .i64 i1)]∧SH w w' [Ch.own S1 (x1:List ByteArray) [.slice p2 ln1 k2]]) n ⟨_,_,_,_,_,_,F,rfl,h⟩ Z ?_);rintro m1 _ _ ⟨S1,p2,ln1,k2,x1,i1,F,rfl,h⟩;obtain rfl:=(h.sl 0 Z).2;rcases m1 with _|m1
 ·cases F
 refine X0 5 Z (qh Z F ?_ ?_)<;>intro F
 ·refine X0 6 Z ?_;obtain⟨y1,_,F,he1,_,_,_,_,hp1,hq1,hr1,hc2⟩:=s1.ix F;obtain rfl:=qaV hr1;refine zxe hp1 hq1 he1 Z (zc 0 (hc2.below h.below) Z (qp qa h Z Z Z fun _ _ h=>zp1 Z (zs 0 h Z fun _ h=>X1 6 0 h Z (qK qa [.tmp 15] _ ([y1.Au]:List ByteArray) h Z Z Z Z Z Z Z Z Z ⟨rfl,trivial⟩ Z fun _ _ _ h=>?_))));obtain⟨_,hx1,F⟩:=qc F;obtain⟨g1,hx1⟩:=qan hx1;refine qbW qa 2 h Z (h.sl 0 Z).1 (h.sl 0 Z).2 Z Z Z Z Z Z Z Z Z g1 hx1 Z fun _ _ _ _ h=>X0 10 Z (qh Z F ?_ ?_)<;>intro F
  ·refine X1 6 1 h Z (qm (t:=26) F Z ?_ ?_)<;>intro F
   ·refine X0 9 Z (qfQ Z Z (X0 4 Z ?_));obtain rfl:=qb F;replace F:=hK1;exact rb h F Z
   refine X1 8 1 h Z (qm (t:=31) F Z ?_ ?_)<;>intro F
   ·refine X0 4 Z (qfQ Z Z (X0 4 Z ?_));obtain rfl:=qb F;replace F:=hK1;exact rb h F Z
   refine X1 6 1 h Z (qh Z F ?_ ?_)<;>intro F
   ·refine X0 4 Z ?_;obtain rfl:=qb F;replace F:=hK1;exact rb h F Z
   refine X0 6 Z ?_;replace h:=h.pick [2] Z;exact rK ⟨_,_,_,_,_,_,F,rfl,h⟩ Z
  refine X1 6 1 h Z (qm (t:=38) F Z ?_ ?_)<;>intro F
  ·refine X0 6 Z (qfQ Z Z (X0 4 Z ?_));obtain rfl:=qb F;replace F:=hK1;exact rb h F Z
  refine X1 5 1 h Z (zcB h F qaN Z fun _ _ h F=>X0 4 Z (qh Z F ?_ ?_))<;>intro F
  ·refine X0 4 Z ?_;obtain rfl:=qb F;replace F:=hK1;exact rb h F Z
  refine X0 6 Z ?_;replace h:=h.pick [2] Z;exact rK ⟨_,_,_,_,_,_,F,rfl,h⟩ Z
 refine qq Z ?_;obtain rfl:=qb F;replace F:=hK1;refine X0 3 Z (zcI h F (qiJ ⟨_,_,rfl,(h.oldS s1)⟩) Z fun _ _ h F=>zcB h F qaN Z fun _ _ h F=>zp1 Z (qm (t:=48) F Z ?_ ?_))<;>intro F
 ·exact X0 3 Z (zcB h F (qf7 (h.own 0 Z)) Z fun _ _ h F=>X0 3 Z (rb h F Z))
 exact X0 5 Z (rb h F Z)
def qcb (n:Nat)(c:qv):Option Int:=
 (qb4 n c.As).bind fun r1=>
 V (W64 (r1-1))
theorem qfR {c:qv}(ha1:Ro w c cs1){r:Int}(F:qcb n c=V r):RetV prog 188 [GoT.v qv cs1] w r:=by
 obtain⟨_,_,_,_,_,_,rfl,s1,_,_⟩:=qO ha1;exact zV 7 func188 Z fun h=>zSR (qx h Z Z fun _ _ h=>X1 6 0 h Z (zcI h F (qiJ ⟨_,_,rfl,(h.oldS s1)⟩) Z fun _ _ h F=>X0 3 Z (ri h F Z)))
def qkt (_:Nat)(kind:Int):Option Bool:=
 bif (kind==4) then V true else
 V (kind==5)
theorem qqc {kind:Int}  {r:Bool}(F:qkt n kind=V r):RetV prog 329 [.int .i64 kind] w r:=by
 refine zV 9 func329 Z fun h=>X0 9 Z (qm (t:=5) F Z ?_ ?_)<;>intro F
 ·exact X0 5 Z (rb h F Z)
 exact X0 7 Z (rb h F Z)
def qhK (n:Nat)(a_n:Int)(v0:Int)(v1:Int):Option Bool:=
 (qaY n a_n v0 v1).bind fun r1=>
 V (!r1)
theorem qnZ {a_n:Int}{v0:Int}{v1:Int}{p1:Option Addr}(ha1:Ro w (V v0) [.pointer p1]){p2:Option Addr}(ha2:Ro w (V v1) [.pointer p2]){r:Bool}(F:qhK n a_n v0 v1=V r):RetV prog 166 [.int .i64 a_n,.pointer p1,.pointer p2] w r:=by
 obtain⟨_,o_1,_,rfl,-,hr1,hc1⟩:=PtR.get ha1 Z;obtain rfl:=hr1;obtain⟨_,o_2,_,rfl,-,hr2,hc2⟩:=PtR.get ha2 Z;obtain rfl:=hr2;exact zV 10 func166 Z fun h=>X0 7 Z (zc 0 (hc1.below h.below) Z (zc 0 (hc2.below h.below) Z (zcB h F qaN Z fun _ _ h F=>X0 3 Z (rb h F Z))))
def qak (s:(List Int))(f_0:Int)(f_1:Int):Nat→Int→Option (Flow Int Int)
 | 0,_=>U
 | n+1,i1=>
  bif decide (i1<(s.length:Int)) then
   (idx s i1).bind fun y1=>
   (qhK n y1 f_0 f_1).bind fun r1=>
   bif r1 then V (.ret i1) else
   qak s f_0 f_1 n (W64 (i1+1))
  else
   V (.nxt i1)
def qa2 (n:Nat)(s:(List Int))(f_0:Int)(f_1:Int):Option Int:=
 (qak s f_0 f_1 n 0).bind fun o=>match o with
 | .ret r=>V r
 | .nxt _=>
  V (-1)
theorem qgw {s:(List Int)}{f_0:Int}{f_1:Int}(ha1:Ro w s cs1){p2:Option Addr}(ha2:Ro w (V f_0) [.pointer p2]){p3:Option Addr}(ha3:Ro w (V f_1) [.pointer p3]){r:Int}(F:qa2 n s f_0 f_1=V r):RetV prog 159 [GoT.v (List Int) cs1,.func (.func 166) #[] #[.pointer p2,.pointer p3]] w r:=by
 obtain⟨p1,k1,rfl,s1⟩:=ha1;obtain⟨b1,o_1,_,rfl,-,hr1,_⟩:=PtR.get ha2 Z;obtain rfl:=hr1;obtain⟨b2,o_2,_,rfl,-,hr2,_⟩:=PtR.get ha3 Z;obtain rfl:=hr2;refine zV 19 func159 Z fun h=>X0 11 Z ?_;obtain⟨o1,F,hK1⟩:=qc F;refine qn (rL (fun m e w'=>∃(i1:Int),qak s f_0 f_1 m i1=V o1∧e=[(0,.slice p1 s.length k1),(1,.func (.func 166) #[] #[.pointer (V ⟨b1,o_1,U⟩),.pointer (V ⟨b2,o_2,U⟩)]),(7,.int .i64 (s.length:Int)),(8,.int .i64 i1)]∧SH w w' []) n ⟨_,F,rfl,h⟩ Z ?_);rintro m1 _ _ ⟨i1,F,rfl,h⟩;rcases m1 with _|m1
 ·cases F
 refine X0 5 Z (qh Z F ?_ ?_)<;>intro F
 ·refine X0 13 Z ?_;obtain⟨_,_,F,he1,_,_,_,_,hp1,hq1,rfl,hc4⟩:=s1.ix F;refine zxe hp1 hq1 he1 Z (zc 0 (hc4.below h.below) Z (zcB h F (qnZ (h.old ha2) (h.old ha3)) Z fun _ _ h F=>qcP (qh Z F ?_ ?_)))<;>intro F
  ·refine X0 5 Z ?_;obtain rfl:=qb F;replace F:=hK1;exact ri h F Z
  exact X0 6 Z (rK ⟨_,F,rfl,h⟩ Z)
 refine qq Z ?_;obtain rfl:=qb F;replace F:=hK1;exact X0 4 Z (ri h F Z)
def qbF (n:Nat)(s:(List Int))(f_0:Int)(f_1:Int):Option Bool:=
 (qa2 n s f_0 f_1).bind fun r1=>
 V (decide (r1 ≥ 0))
theorem qfL {s:(List Int)}{f_0:Int}{f_1:Int}(ha1:Ro w s cs1){p2:Option Addr}(ha2:Ro w (V f_0) [.pointer p2]){p3:Option Addr}(ha3:Ro w (V f_1) [.pointer p3]){r:Bool}(F:qbF n s f_0 f_1=V r):RetV prog 80 [GoT.v (List Int) cs1,.func (.func 166) #[] #[.pointer p2,.pointer p3]] w r:=by
 obtain⟨_,_,rfl,s1⟩:=ha1;obtain⟨_,o_1,_,rfl,-,hr1,_⟩:=PtR.get ha2 Z;obtain rfl:=hr1;obtain⟨_,o_2,_,rfl,-,hr2,_⟩:=PtR.get ha3 Z;obtain rfl:=hr2;exact zV 9 func80 Z fun h=>X0 8 Z (zcI h F (qgw ⟨_,_,rfl,(h.oldS s1)⟩ (h.old ha2) (h.old ha3)) Z fun _ _ h F=>X0 3 Z (rb h F Z))
def qcq (n:Nat)(list:(List Int))(low:Int)(high:Int):Option Bool:=
 (qbF n list low high).bind fun r1=>
 V (!r1)
theorem qcW {list:(List Int)}{low:Int}{high:Int}(ha1:Ro w list cs1){r:Bool}(F:qcq n list low high=V r):RetV prog 87 [GoT.v (List Int) cs1,.int .i64 low,.int .i64 high] w r:=by
 obtain⟨_,_,rfl,s1⟩:=ha1;exact zV 11 func87 Z fun h=>zSR (qx h Z Z fun _ _ h=>qx h Z Z fun _ _ h=>X0 6 Z (zcB h F (qfL ⟨_,_,rfl,(h.oldS s1)⟩ (qeb (x:=low) 1 h Z Z) (qeb (x:=high) 0 h Z Z)) Z fun _ _ h F=>X0 3 Z (rb h F Z)))
def qaL (_:Nat)(list:(List Int)):Option Int:=
 V (list.length:Int)
theorem qbD {list:(List Int)}(ha1:Ro w list cs1){r:Int}(F:qaL n list=V r):RetV prog 175 [GoT.v (List Int) cs1] w r:=by
 obtain⟨_,_,rfl,_⟩:=ha1;exact zV 5 func175 Z fun h=>X0 10 Z (ri h F Z)
def qbC (list:(List Int)):Nat→Int→Option (Flow Bool Int)
 | 0,_=>U
 | n+1,i1=>
  bif decide (i1<(list.length:Int)) then
   (idx list (W64 (i1-1))).bind fun y1=>
   (idx list i1).bind fun y2=>
   bif decide (y1 ≥ y2) then V (.ret false) else
   qbC list n (W64 (i1+1))
  else
   V (.nxt i1)
def qfm (n:Nat)(list:(List Int)):Option Bool:=
 (qbC list n 1).bind fun o=>match o with
 | .ret r=>V r
 | .nxt _=>
  V true
theorem qj8 {list:(List Int)}(ha1:Ro w list cs1){r:Bool}(F:qfm n list=V r):RetV prog 179 [GoT.v (List Int) cs1] w r:=by
 obtain⟨p1,k1,rfl,s1⟩:=ha1;refine zV 20 func179 Z fun h=>X0 9 Z ?_;obtain⟨o1,F,hK1⟩:=qc F;refine qn (rL (fun m e w'=>∃(i1:Int),qbC list m i1=V o1∧e=[(0,.slice p1 list.length k1),(3,.int .i64 i1)]∧SH w w' []) n ⟨_,F,rfl,h⟩ Z ?_);rintro m1 _ _ ⟨i1,F,rfl,h⟩;rcases m1 with _|m1
 ·cases F
 refine X0 8 Z (qh Z F ?_ ?_)<;>intro F
 ·refine X0 4 Z (rD (zd3 Z ?_));obtain⟨_,_,F,he1,_,_,_,_,hp1,hq1,rfl,hc2⟩:=s1.ix F;refine zdxe hp1 hq1 he1 Z (zdc 0 (hc2.below h.below) Z (zd2 Z ?_));obtain⟨_,_,F,he2,_,_,_,_,hp2,hq2,rfl,hc3⟩:=s1.ix F;refine zdxe hp2 hq2 he2 Z (zdc 0 (hc3.below h.below) Z (zd1 Z (dN h fun _ h=>qh Z F ?_ ?_)))<;>intro F
  ·refine X0 4 Z ?_;obtain rfl:=qb F;replace F:=hK1;exact rb h F Z
  exact X0 7 Z (rK ⟨_,F,rfl,h⟩ Z)
 refine qq Z ?_;obtain rfl:=qb F;replace F:=hK1;exact X0 4 Z (rb h F Z)
def qj5 (n:Nat)(list:(List Int)):Option Bool:=
 (qaL n list).bind fun r1=>
 (qaY n r1 1 4).bind fun r2=>
 bif r2 then
  (qcq n list 0 100000).bind fun r3=>
  bif r3 then
   (qfm n list).bind fun r4=>
   V r4
  else
   V false
 else
  V false
theorem qm3 {list:(List Int)}(ha1:Ro w list cs1){r:Bool}(F:qj5 n list=V r):RetV prog 348 [GoT.v (List Int) cs1] w r:=by
 obtain⟨_,_,rfl,s1⟩:=ha1;refine zV 14 func348 Z fun h=>X0 7 Z (zcI h F (qbD ⟨_,_,rfl,(h.oldS s1)⟩) Z fun _ _ h F=>zcB h F qaN Z fun _ _ h F=>zp1 Z (qm (t:=6) F Z ?_ ?_))<;>intro F
 ·refine X0 3 Z (zcB h F (qcW ⟨_,_,rfl,(h.oldS s1)⟩) Z fun _ _ h F=>zp2 Z (qm (t:=10) F Z ?_ ?_))<;>intro F
  ·exact X0 3 Z (zcB h F (qj8 ⟨_,_,rfl,(h.oldS s1)⟩) Z fun _ _ h F=>X0 3 Z (rb h F Z))
  exact X0 5 Z (rb h F Z)
 exact X0 9 Z (rb h F Z)
def qkB (n:Nat)(t:qu):Option Bool:=
 (qj5 n t.Bl).bind fun r1=>
 bif r1 then
  (qj5 n t.Bd).bind fun r2=>
  bif r2 then
   bif ((t.Az.length:Int)==(W64 ((t.Bl.length:Int)*(t.Bd.length:Int)))) then
    (qcq n t.Az (-1000000) 1000000).bind fun r3=>
    V r3
   else
    V false
  else
   V false
 else
  V false
theorem qqp {t:qu}(ha1:Ro w t cs1){r:Bool}(F:qkB n t=V r):RetV prog 342 [GoT.v qu cs1] w r:=by
 obtain⟨_,_,_,_,_,_,rfl,s1,s2,s3⟩:=qaJ ha1;refine zV 29 func342 Z fun h=>zSR (qx h Z Z fun _ _ h=>X1 6 0 h Z (zcB h F (qm3 ⟨_,_,rfl,(h.oldS s1)⟩) Z fun _ _ h F=>zp1 Z (qm (t:=6) F Z ?_ ?_)))<;>intro F
 ·refine X1 5 0 h Z (zcB h F (qm3 ⟨_,_,rfl,(h.oldS s2)⟩) Z fun _ _ h F=>zp2 Z (qm (t:=11) F Z ?_ ?_))<;>intro F
  ·refine X3 24 0 0 0 h Z (qm (t:=24) F Z ?_ ?_)<;>intro F
   ·exact X1 5 0 h Z (zcB h F (qcW ⟨_,_,rfl,(h.oldS s3)⟩) Z fun _ _ h F=>X0 3 Z (rb h F Z))
   exact X0 6 Z (rb h F Z)
  exact X0 19 Z (rb h F Z)
 exact X0 24 Z (rb h F Z)
def qc6 (x:(List Int)):Nat→Int→Int→Option (Int×Int)
 | 0,_,_=>U
 | n+1,i1,i2=>
  bif decide (i2<(x.length:Int)) then
   (idx x i2).bind fun y2=>
   qc6 x n (if y2<i1 then y2 else i1) (W64 (i2+1))
  else
   V (i1,i2)
def qhL (n:Nat)(x:(List Int)):Option Int:=
 (
  bif decide ((x.length:Int)<1) then U else
  V ()).bind fun _=>
 (idx x 0).bind fun y1=>
 (qc6 x n y1 1).bind fun o=>match o with
 | (i1,_)=>
  V i1
theorem qnT {x:(List Int)}(ha1:Ro w x cs1){r:Int}(F:qhL n x=V r):RetV prog 343 [GoT.v (List Int) cs1] w r:=by
 obtain⟨p1,k1,rfl,s1⟩:=ha1;refine zV 25 func343 Z fun h=>X0 11 Z ?_;obtain⟨KF1,hKF1,_,F,hK2⟩:=bindE F;refine qbe (fun e w'=>KF1 ()=V r∧e=[(0,.slice p1 x.length k1)]∧SH w w' []) ?_ ?_
 ·refine qh Z F ?_ ?_<;>intro F
  ·refine qlZ ?_;cases F
  refine qio ?_;obtain rfl:=qb F;exact rG ⟨hK2,rfl,h⟩ Z
 rintro _ _ ⟨F,rfl,h⟩;subst hKF1;refine X0 3 Z ?_;obtain⟨_,_,F,he1,_,_,_,_,hp1,hq1,rfl,hc1⟩:=s1.ix F;refine zxe hp1 hq1 he1 Z (zc 0 (hc1.below h.below) Z (X0 7 Z ?_));obtain⟨o1,F,hK1⟩:=qc F;refine qn (rL (fun m e w'=>∃(i1:Int) (i2:Int),qc6 x m i1 i2=V o1∧e=[(0,.slice p1 x.length k1),(3,.int .i64 i1),(4,.int .i64 i2)]∧SH w w' []) n ⟨_,_,F,rfl,h⟩ Z ?_);rintro m1 _ _ ⟨i1,i2,F,rfl,h⟩;rcases m1 with _|m1
 ·cases F
 refine X0 8 Z (qh Z F ?_ ?_)<;>intro F
 ·refine X0 7 Z ?_;obtain⟨_,_,F,he2,_,_,_,_,hp2,hq2,rfl,hc3⟩:=s1.ix F;exact zxe hp2 hq2 he2 Z (zc 0 (hc3.below h.below) Z (X0 9 Z (rK ⟨_,_,F,rfl,h⟩ Z)))
 refine qq Z ?_;obtain rfl:=qb F;replace F:=hK1;exact X0 5 Z (ri h F Z)
def qhJ (n:Nat)(t:qu)(v0:Bool):Option Bool:=
 (qkB n t).bind fun r1=>
 bif (!r1) then V true else
 bif v0 then
  (qhL n t.Az).bind fun r2=>
  V (decide (r2<0))
 else
  V false
theorem qn0 {t:qu}{v0:Bool}(ha1:Ro w t cs1){p4:Option Addr}(ha2:Ro w (V v0) [.pointer p4]){r:Bool}(F:qhJ n t v0=V r):RetV prog 341 [GoT.v qu cs1,.pointer p4] w r:=by
 obtain⟨_,_,_,_,_,_,rfl,_,_,s3⟩:=qaJ ha1;obtain⟨_,o_1,_,rfl,-,hr1,hc1⟩:=PtR.get ha2 Z;obtain rfl:=hr1;refine zV 16 func341 Z fun h=>zSR (qx h Z Z fun _ _ h=>X1 5 0 h Z (zcB h F (qqp (h.old ha1)) Z fun _ _ h F=>zp2 Z (qm (t:=7) F Z ?_ ?_)))<;>intro F
 ·exact X0 10 Z (rb h F Z)
 refine X0 1 Z (zc 0 (hc1.below h.below) Z (X0 2 Z (qm (t:=9) F Z ?_ ?_)))<;>intro F
 ·exact X1 5 0 h Z (zcI h F (qnT ⟨_,_,rfl,(h.oldS s3)⟩) Z fun _ _ h F=>X0 7 Z (rb h F Z))
 exact X0 9 Z (rb h F Z)
def qaa (s:(List qu))(f_0:Bool):Nat→Int→Option (Flow Int Int)
 | 0,_=>U
 | n+1,i1=>
  bif decide (i1<(s.length:Int)) then
   (idx s i1).bind fun y1=>
   (qhJ n y1 f_0).bind fun r1=>
   bif r1 then V (.ret i1) else
   qaa s f_0 n (W64 (i1+1))
  else
   V (.nxt i1)
def qaM (n:Nat)(s:(List qu))(f_0:Bool):Option Int:=
 (qaa s f_0 n 0).bind fun o=>match o with
 | .ret r=>V r
 | .nxt _=>
  V (-1)
theorem qfq {s:(List qu)}{f_0:Bool}(ha1:Ro w s cs1){p2:Option Addr}(ha2:Ro w (V f_0) [.pointer p2]){r:Int}(F:qaM n s f_0=V r):RetV prog 347 [GoT.v (List qu) cs1,.func (.func 341) #[] #[.pointer p2]] w r:=by
 obtain⟨p1,k1,rfl,s1⟩:=ha1;obtain⟨b1,o_1,_,rfl,-,hr1,_⟩:=PtR.get ha2 Z;obtain rfl:=hr1;refine zV 19 func347 Z fun h=>X0 11 Z ?_;obtain⟨o1,F,hK1⟩:=qc F;refine qn (rL (fun m e w'=>∃(i1:Int),qaa s f_0 m i1=V o1∧e=[(0,.slice p1 s.length k1),(1,.func (.func 341) #[] #[.pointer (V ⟨b1,o_1,U⟩)]),(7,.int .i64 (s.length:Int)),(8,.int .i64 i1)]∧SH w w' []) n ⟨_,F,rfl,h⟩ Z ?_);rintro m1 _ _ ⟨i1,F,rfl,h⟩;rcases m1 with _|m1
 ·cases F
 refine X0 5 Z (qh Z F ?_ ?_)<;>intro F
 ·refine X0 13 Z ?_;obtain⟨y1,_,F,he1,_,_,_,_,hp1,hq1,hr2,hc3⟩:=s1.ix F;obtain⟨_,_,_,_,_,_,rfl,s2,s3,s4⟩:=qaJ hr2;refine zxe hp1 hq1 he1 Z (zc 0 (hc3.below h.below) Z (zcB h F (qn0 (qfE y1 (h.oldS s2) (h.oldS s3) (h.oldS s4)) (h.old ha2)) Z fun _ _ h F=>qcP (qh Z F ?_ ?_)))<;>intro F
  ·refine X0 5 Z ?_;obtain rfl:=qb F;replace F:=hK1;exact ri h F Z
  exact X0 6 Z (rK ⟨_,F,rfl,h⟩ Z)
 refine qq Z ?_;obtain rfl:=qb F;replace F:=hK1;exact X0 4 Z (ri h F Z)
def qa5 (n:Nat)(s:(List qu))(f_0:Bool):Option Bool:=
 (qaM n s f_0).bind fun r1=>
 V (decide (r1 ≥ 0))
theorem qeX {s:(List qu)}{f_0:Bool}(ha1:Ro w s cs1){p2:Option Addr}(ha2:Ro w (V f_0) [.pointer p2]){r:Bool}(F:qa5 n s f_0=V r):RetV prog 340 [GoT.v (List qu) cs1,.func (.func 341) #[] #[.pointer p2]] w r:=by
 obtain⟨_,_,rfl,s1⟩:=ha1;obtain⟨_,o_1,_,rfl,-,hr1,_⟩:=PtR.get ha2 Z;obtain rfl:=hr1;exact zV 9 func340 Z fun h=>X0 8 Z (zcI h F (qfq ⟨_,_,rfl,(h.oldS s1)⟩ (h.old ha2)) Z fun _ _ h F=>X0 3 Z (rb h F Z))
def qf1 (n:Nat)(list:(List qu))(positive:Bool):Option Bool:=
 bif ((list.length:Int)==2) then
  (qa5 n list positive).bind fun r1=>
  V (!r1)
 else
  V false
theorem qiL {list:(List qu)}{positive:Bool}(ha1:Ro w list cs1){r:Bool}(F:qf1 n list positive=V r):RetV prog 330 [GoT.v (List qu) cs1,.bool positive] w r:=by
 obtain⟨_,_,rfl,s1⟩:=ha1;refine zV 14 func330 Z fun h=>zSR (qx h Z Z fun _ _ h=>X0 8 Z (qm (t:=8) F Z ?_ ?_))<;>intro F
 ·exact X0 5 Z (zcB h F (qeX ⟨_,_,rfl,(h.oldS s1)⟩ (qeb (x:=positive) 0 h Z Z)) Z fun _ _ h F=>X0 5 Z (rb h F Z))
 exact X0 7 Z (rb h F Z)
def qiN (_:Nat)(p:qam):Option Bool:=
 V p.Bo
theorem qnc {p:qam}(ha1:Ro w p cs1){r:Bool}(F:qiN n p=V r):RetV prog 345 [GoT.v qam cs1] w r:=by
 obtain rfl:=qaV ha1;exact zV 5 func345 Z fun h=>zSR (qx h Z Z fun _ _ h=>X1 8 0 h Z (rb h F Z))
def qab (s:(List qam)):Nat→Int→Option (Flow Int Int)
 | 0,_=>U
 | n+1,i1=>
  bif decide (i1<(s.length:Int)) then
   (idx s i1).bind fun y1=>
   (qiN n y1).bind fun r1=>
   bif r1 then V (.ret i1) else
   qab s n (W64 (i1+1))
  else
   V (.nxt i1)
def qbB (n:Nat)(s:(List qam)):Option Int:=
 (qab s n 0).bind fun o=>match o with
 | .ret r=>V r
 | .nxt _=>
  V (-1)
theorem qfH {s:(List qam)}(ha1:Ro w s cs1){r:Int}(F:qbB n s=V r):RetV prog 344 [GoT.v (List qam) cs1,.func (.func 345) #[] #[]] w r:=by
 obtain⟨p1,k1,rfl,s1⟩:=ha1;refine zV 19 func344 Z fun h=>X0 11 Z ?_;obtain⟨o1,F,hK1⟩:=qc F;refine qn (rL (fun m e w'=>∃(i1:Int),qab s m i1=V o1∧e=[(0,.slice p1 s.length k1),(1,.func (.func 345) #[] #[]),(7,.int .i64 (s.length:Int)),(8,.int .i64 i1)]∧SH w w' []) n ⟨_,F,rfl,h⟩ Z ?_);rintro m1 _ _ ⟨i1,F,rfl,h⟩;rcases m1 with _|m1
 ·cases F
 refine X0 5 Z (qh Z F ?_ ?_)<;>intro F
 ·refine X0 13 Z ?_;obtain⟨y1,_,F,he1,_,_,_,_,hp1,hq1,hr1,hc2⟩:=s1.ix F;obtain rfl:=qaV hr1;refine zxe hp1 hq1 he1 Z (zc 0 (hc2.below h.below) Z (zcB h F (qnc (qee y1)) Z fun _ _ h F=>qcP (qh Z F ?_ ?_)))<;>intro F
  ·refine X0 5 Z ?_;obtain rfl:=qb F;replace F:=hK1;exact ri h F Z
  exact X0 6 Z (rK ⟨_,F,rfl,h⟩ Z)
 refine qq Z ?_;obtain rfl:=qb F;replace F:=hK1;exact X0 4 Z (ri h F Z)
def qib (n:Nat)(c:qv):Option Int:=
 (qbB n c.As).bind fun r1=>
 V r1
theorem qor {c:qv}(ha1:Ro w c cs1){r:Int}(F:qib n c=V r):RetV prog 331 [GoT.v qv cs1] w r:=by
 obtain⟨_,_,_,_,_,_,rfl,s1,_,_⟩:=qO ha1;exact zV 6 func331 Z fun h=>zSR (qx h Z Z fun _ _ h=>X1 6 0 h Z (zcI h F (qfH ⟨_,_,rfl,(h.oldS s1)⟩) Z fun _ _ h F=>X0 2 Z (ri h F Z)))
def qg8 (n:Nat)(c:qv)(pin:Int):Option Bool:=
 (qcb n c).bind fun r1=>
 (qaY n pin 0 (W64 (r1-1))).bind fun r2=>
 V r2
theorem qj3 {c:qv}{pin:Int}(ha1:Ro w c cs1){r:Bool}(F:qg8 n c pin=V r):RetV prog 332 [GoT.v qv cs1,.int .i64 pin] w r:=by
 obtain⟨_,_,_,_,_,_,rfl,_,_,_⟩:=qO ha1;exact zV 10 func332 Z fun h=>zSR (qx h Z Z fun _ _ h=>X1 6 0 h Z (zcI h F (qfR (h.old ha1)) Z fun _ _ h F=>zp1 Z (zcB h F qaN Z fun _ _ h F=>X0 2 Z (rb h F Z))))
def qim (n:Nat)(a_0:qv)(a_1:qH):Option Bool:=
 (qkt n a_1.Aq).bind fun r1=>
 bif r1 then
  (
   bif (a_1.Bn==0) then
    bif ((a_1.Ba.length:Int)==0) then
     (qf1 n a_1.Bk false).bind fun r2=>
     bif r2 then
      (qib n a_0).bind fun r3=>
      bif (a_1.Bc==r3) then
       bif decide (a_1.Bc ≥ 0) then
        (qg8 n a_0 a_1.To).bind fun r4=>
        bif r4 then V (a_1.To != a_1.Bc) else
        V false
       else
        V false
      else
       V false
     else
      V false
    else
     V false
   else
    V false).bind fun b1=>
  V b1
 else
  (
   (qf1 n a_1.Bk true).bind fun r6=>
   bif (!r6) then V true else
   (qf1 n a_1.Ba true).bind fun r7=>
   bif (!r7) then V true else
   (qcb n a_0).bind fun r8=>
   bif (a_1.To != r8) then V true else
   (qg8 n a_0 a_1.Bc).bind fun r9=>
   V (!r9)).bind fun b2=>
  bif b2 then V false else
  bif (a_1.Aq==1) then
   (idx a_0.As a_1.Bc).bind fun y1=>
   bif (!y1.Bo) then
    (qaY n a_1.Bn 1 3).bind fun r5=>
    V r5
   else
    V false
  else
   (
    bif (a_1.Aq==2) then V (a_1.Aq==2) else
    V (a_1.Aq==3)).bind fun b4=>
   bif b4 then
    (idx a_0.As a_1.Bc).bind fun y2=>
    bif y2.Bo then V (a_1.Bn==0) else
    V false
   else
    V false
theorem qoc {a_0:qv}{a_1:qH}(ha1:Ro w a_0 cs1)(ha2:Ro w a_1 cs2){r:Bool}(F:qim n a_0 a_1=V r):RetV prog 316 [GoT.v qv cs1,GoT.v qH cs2] w r:=by
 obtain⟨p1,k1,p2,k2,p3,k3,rfl,s1,_,_⟩:=qO ha1;obtain⟨p4,k4,p5,k5,rfl,s4,s5⟩:=qX ha2;refine zV 103 func316 Z fun h=>zSR (qx h Z Z fun _ bb1 h=>qx h Z Z fun _ bb2 h=>X1 7 0 h Z (zcB h F qqc Z fun _ _ h F=>qcP (qh Z F ?_ ?_)))<;>intro F
 ·refine qcQ ?_;obtain⟨KF1,hKF1,_,F,hK1⟩:=bindE F;refine qbe (fun e w'=>∃(b1:Bool),KF1 b1=V r∧e=[(4,.bool b1)]∧SH w w' []) ?_ ?_
  ·refine rD (Y1 2 0 h Z ?_);refine zd2 Z (qbZ (t:=11) F Z ?_ ?_)<;>intro F
   ·refine Y1 4 0 h Z ?_;refine Y0 6 Z (qbZ (t:=17) F Z ?_ ?_)<;>intro F
    ·refine Y1 4 0 h Z ?_;refine Y0 1 Z ?_;obtain⟨r2,hr2,F⟩:=qc F;refine qbJ r2 (vsB _) (cB 330 Z) (fun _ hb=>qiL ⟨_,_,rfl,((h.ext hb).oldS s4)⟩ hr2) Z Z Z Z (zd2 Z (qbZ (t:=22) F Z ?_ ?_))<;>intro F
     ·refine Y1 4 0 h Z ?_;refine Y1 2 1 h Z ?_;refine Y0 1 Z ?_;obtain⟨r3,hr3,F⟩:=qc F;refine qbJ r3 (vsI _) (cB 331 Z) (fun _ hb=>qor ((h.ext hb).old ha1) hr3) Z Z Z Z (Y0 4 Z (qbZ (t:=29) F Z ?_ ?_))<;>intro F
      ·refine Y1 4 0 h Z ?_;refine Y0 4 Z (qbZ (t:=34) F Z ?_ ?_)<;>intro F
       ·refine Y1 2 1 h Z ?_;refine Y1 4 0 h Z ?_;refine Y0 1 Z ?_;obtain⟨r4,hr4,F⟩:=qc F;refine qbJ r4 (vsB _) (cB 332 Z) (fun _ hb=>qj3 ((h.ext hb).old ha1) hr4) Z Z Z Z (zd2 Z (qbZ (t:=40) F Z ?_ ?_))<;>intro F
        ·refine Y1 4 0 h Z ?_;refine Y1 4 0 h Z ?_;refine Y0 4 Z (dN h fun _ h=>?_);replace h:=h.pick [] Z;obtain rfl:=qb F;exact rG ⟨_,hK1,rfl,h⟩ Z
        refine Y0 7 Z (dN h fun _ h=>?_);replace h:=h.pick [] Z;obtain rfl:=qb F;exact rG ⟨_,hK1,rfl,h⟩ Z
       refine Y0 13 Z (dN h fun _ h=>?_);replace h:=h.pick [] Z;obtain rfl:=qb F;exact rG ⟨_,hK1,rfl,h⟩ Z
      refine Y0 18 Z (dN h fun _ h=>?_);replace h:=h.pick [] Z;obtain rfl:=qb F;exact rG ⟨_,hK1,rfl,h⟩ Z
     refine Y0 25 Z (dN h fun _ h=>?_);replace h:=h.pick [] Z;obtain rfl:=qb F;exact rG ⟨_,hK1,rfl,h⟩ Z
    refine Y0 30 Z (dN h fun _ h=>?_);replace h:=h.pick [] Z;obtain rfl:=qb F;exact rG ⟨_,hK1,rfl,h⟩ Z
   refine Y0 36 Z (dN h fun _ h=>?_);replace h:=h.pick [] Z;obtain rfl:=qb F;exact rG ⟨_,hK1,rfl,h⟩ Z
  rintro _ _ ⟨b1,F,rfl,h⟩;subst hKF1;exact rb h F Z
 refine zKSS ?_;obtain⟨KF3,hKF3,_,F,hK3⟩:=bindE F;refine qbe (fun e w'=>∃(b2:Bool),KF3 b2=V r∧e=[(2,.pointer (V ⟨bb1,0,U⟩)),(3,.pointer (V ⟨bb2,0,U⟩)),(70,.bool b2)]∧SH w w' [Ch.box bb2 (qhc a_1 p4 p5 k4 k5) 254,Ch.box bb1 (qc2 a_0 p1 p2 p3 k1 k2 k3) 251]) ?_ ?_
 ·refine rD (Y1 2 0 h Z ?_);obtain⟨r6,hr8,F⟩:=qc F;refine qbJ r6 (vsB _) (cB 330 Z) (fun _ hb=>qiL ⟨_,_,rfl,((h.ext hb).oldS s4)⟩ hr8) Z Z Z Z (zd2 Z (qbZ (t:=51) F Z ?_ ?_))<;>intro F
  ·refine Y0 19 Z (dN h fun _ h=>?_);obtain rfl:=qb F;exact rG ⟨_,hK3,rfl,h⟩ Z
  refine Y1 4 0 h Z ?_;refine Y0 1 Z ?_;obtain⟨r7,hr9,F⟩:=qc F;refine qbJ r7 (vsB _) (cB 330 Z) (fun _ hb=>qiL ⟨_,_,rfl,((h.ext hb).oldS s5)⟩ hr9) Z Z Z Z (Y0 4 Z (qbZ (t:=57) F Z ?_ ?_))<;>intro F
  ·refine Y0 13 Z (dN h fun _ h=>?_);obtain rfl:=qb F;exact rG ⟨_,hK3,rfl,h⟩ Z
  refine Y1 4 0 h Z ?_;refine Y1 2 1 h Z ?_;refine Y0 1 Z ?_;obtain⟨r8,hr10,F⟩:=qc F;refine qbJ r8 (vsI _) (cB 188 Z) (fun _ hb=>qfR ((h.ext hb).old ha1) hr10) Z Z Z Z (Y0 4 Z (qbZ (t:=64) F Z ?_ ?_))<;>intro F
  ·refine Y0 6 Z (dN h fun _ h=>?_);obtain rfl:=qb F;exact rG ⟨_,hK3,rfl,h⟩ Z
  refine Y1 2 1 h Z ?_;refine Y1 4 0 h Z ?_;refine Y0 1 Z ?_;obtain⟨r9,hr11,F⟩:=qc F;refine qbJ r9 (vsB _) (cB 332 Z) (fun _ hb=>qj3 ((h.ext hb).old ha1) hr11) Z Z Z Z (Y0 3 Z (dN h fun _ h=>?_));obtain rfl:=qb F;exact rG ⟨_,hK3,rfl,h⟩ Z
 rintro _ _ ⟨b2,F,rfl,h⟩;subst hKF3;refine qh Z F ?_ ?_<;>intro F
 ·exact X0 4 Z (rb h F Z)
 refine X1 13 0 h Z (qh Z F ?_ ?_)<;>intro F
 ·refine X2 6 1 0 h Z ?_;obtain⟨_,_,F,he1,_,_,_,_,hp1,hq1,hr5,hc4⟩:=s1.ix F;obtain rfl:=qaV hr5;refine zxe hp1 hq1 he1 Z (zp1 Z (zc 3 (hc4.below h.below) Z (zp2 Z (qm (t:=83) F Z ?_ ?_))))<;>intro F
  ·exact X1 5 0 h Z (zcB h F qaN Z fun _ _ h F=>X0 3 Z (rb h F Z))
  exact X0 6 Z (rb h F Z)
 refine X0 6 Z ?_;obtain⟨KF2,hKF2,_,F,hK2⟩:=bindE F;refine qbe (fun e w'=>∃(b4:Bool),KF2 b4=V r∧e=[(2,.pointer (V ⟨bb1,0,U⟩)),(3,.pointer (V ⟨bb2,0,U⟩)),(88,.bool b4)]∧SH w w' [Ch.box bb2 (qhc a_1 p4 p5 k4 k5) 254,Ch.box bb1 (qc2 a_0 p1 p2 p3 k1 k2 k3) 251]) ?_ ?_
 ·refine qh Z F ?_ ?_<;>intro F
  ·refine qio ?_;obtain rfl:=qb F;exact rG ⟨_,hK2,rfl,h⟩ Z
  refine X0 4 Z ?_;obtain rfl:=qb F;exact rG ⟨_,hK2,rfl,h⟩ Z
 rintro _ _ ⟨b4,F,rfl,h⟩;subst hKF2;refine qh Z F ?_ ?_<;>intro F
 ·refine X2 6 1 0 h Z ?_;obtain⟨_,_,F,he2,_,_,_,_,hp2,hq2,hr7,hc6⟩:=s1.ix F;obtain rfl:=qaV hr7;refine zxe hp2 hq2 he2 Z (zp1 Z (zc 3 (hc6.below h.below) Z (zp1 Z (qm (t:=98) F Z ?_ ?_))))<;>intro F
  ·exact X1 9 0 h Z (rb h F Z)
  exact X0 6 Z (rb h F Z)
 exact X0 6 Z (rb h F Z)
end Go.Fw


namespace Go.Fw
open Go Go.Proofs Go.Proofs.Tryz
open Go.RowKit (Below)
set_option maxRecDepth 100000
set_option maxHeartbeats 1600000
variable {n:Nat}{w:World}{cs1 cs2 cs3 cs4 cs5 cs6 cs7 cs8 cs9:List Value}
def qfP (_:Nat)(a_o:qH)(v0:qH):Option Bool:=
 bif (a_o.Aq==v0.Aq) then
  bif (a_o.Bc==v0.Bc) then V (a_o.To==v0.To) else
  V false
 else
  V false
theorem qmq {a_o:qH}{v0:qH}(ha1:Ro w a_o cs1){p3:Option Addr}(ha2:Ro w (V v0) [.pointer p3]){r:Bool}(F:qfP n a_o v0=V r):RetV prog 318 [GoT.v qH cs1,.pointer p3] w r:=by
 obtain⟨_,_,_,_,rfl,_,_⟩:=qX ha1;obtain⟨_,o_1,_,rfl,-,hr1,hc1⟩:=PtR.get ha2 Z;obtain⟨_,_,_,_,rfl,_,_⟩:=qX hr1;refine zV 23 func318 Z fun h=>zSR (qx h Z Z fun _ _ h=>X1 7 0 h Z (zc 0 (hc1.below h.below) Z (zp2 Z (qm (t:=9) F Z ?_ ?_))))<;>intro F
 ·refine X1 7 0 h Z (zc 1 (hc1.below h.below) Z (X0 4 Z (qm (t:=16) F Z ?_ ?_)))<;>intro F
  ·exact X1 7 0 h Z (zc 2 (hc1.below h.below) Z (X0 5 Z (rb h F Z)))
  exact X0 8 Z (rb h F Z)
 exact X0 15 Z (rb h F Z)
def qY (s:(List qH))(f_0:qH):Nat→Int→Option (Flow Int Int)
 | 0,_=>U
 | n+1,i1=>
  bif decide (i1<(s.length:Int)) then
   (idx s i1).bind fun y1=>
   (qfP n y1 f_0).bind fun r1=>
   bif r1 then V (.ret i1) else
   qY s f_0 n (W64 (i1+1))
  else
   V (.nxt i1)
def qbg (n:Nat)(s:(List qH))(f_0:qH):Option Int:=
 (qY s f_0 n 0).bind fun o=>match o with
 | .ret r=>V r
 | .nxt _=>
  V (-1)
theorem qe4 {s:(List qH)}{f_0:qH}(ha1:Ro w s cs1){p2:Option Addr}(ha2:Ro w (V f_0) [.pointer p2]){r:Int}(F:qbg n s f_0=V r):RetV prog 180 [GoT.v (List qH) cs1,.func (.func 318) #[] #[.pointer p2]] w r:=by
 obtain⟨p1,k1,rfl,s1⟩:=ha1;obtain⟨b1,o_1,_,rfl,-,hr1,_⟩:=PtR.get ha2 Z;obtain⟨_,_,_,_,rfl,_,_⟩:=qX hr1;refine zV 19 func180 Z fun h=>X0 11 Z ?_;obtain⟨o1,F,hK1⟩:=qc F;refine qn (rL (fun m e w'=>∃(i1:Int),qY s f_0 m i1=V o1∧e=[(0,.slice p1 s.length k1),(1,.func (.func 318) #[] #[.pointer (V ⟨b1,o_1,U⟩)]),(7,.int .i64 (s.length:Int)),(8,.int .i64 i1)]∧SH w w' []) n ⟨_,F,rfl,h⟩ Z ?_);rintro m1 _ _ ⟨i1,F,rfl,h⟩;rcases m1 with _|m1
 ·cases F
 refine X0 5 Z (qh Z F ?_ ?_)<;>intro F
 ·refine X0 13 Z ?_;obtain⟨y1,_,F,he1,_,_,_,_,hp1,hq1,hr2,hc3⟩:=s1.ix F;obtain⟨_,_,_,_,rfl,s4,s5⟩:=qX hr2;refine zxe hp1 hq1 he1 Z (zc 0 (hc3.below h.below) Z (zcB h F (qmq (qfo y1 (h.oldS s4) (h.oldS s5)) (h.old ha2)) Z fun _ _ h F=>qcP (qh Z F ?_ ?_)))<;>intro F
  ·refine X0 5 Z ?_;obtain rfl:=qb F;replace F:=hK1;exact ri h F Z
  exact X0 6 Z (rK ⟨_,F,rfl,h⟩ Z)
 refine qq Z ?_;obtain rfl:=qb F;replace F:=hK1;exact X0 4 Z (ri h F Z)
def qaE (n:Nat)(s:(List qH))(f_0:qH):Option Bool:=
 (qbg n s f_0).bind fun r1=>
 V (decide (r1 ≥ 0))
theorem qeC {s:(List qH)}{f_0:qH}(ha1:Ro w s cs1){p2:Option Addr}(ha2:Ro w (V f_0) [.pointer p2]){r:Bool}(F:qaE n s f_0=V r):RetV prog 317 [GoT.v (List qH) cs1,.func (.func 318) #[] #[.pointer p2]] w r:=by
 obtain⟨_,_,rfl,s1⟩:=ha1;obtain⟨_,o_1,_,rfl,-,hr1,_⟩:=PtR.get ha2 Z;obtain⟨_,_,_,_,rfl,_,_⟩:=qX hr1;exact zV 9 func317 Z fun h=>X0 8 Z (zcI h F (qe4 ⟨_,_,rfl,(h.oldS s1)⟩ (h.old ha2)) Z fun _ _ h F=>X0 3 Z (rb h F Z))
def qcK (c:qv):Nat→Int→Option (Flow Bool Int)
 | 0,_=>U
 | n+1,i1=>
  bif decide (i1<(c.Ak.length:Int)) then
   (idx c.Ak i1).bind fun y1=>
   (qim n c y1).bind fun r1=>
   bif (!r1) then V (.ret false) else
   (subS c.Ak 0 i1).bind fun x1=>
   (qaE n x1 y1).bind fun r2=>
   bif r2 then V (.ret false) else
   qcK c n (W64 (i1+1))
  else
   V (.nxt i1)
def qg7 (n:Nat)(c:qv):Option Bool:=
 (qcK c n 0).bind fun o=>match o with
 | .ret r=>V r
 | .nxt _=>
  V (decide ((c.Ak.length:Int)≤8))
theorem qns {c:qv}(ha1:Ro w c cs1){r:Bool}(F:qg7 n c=V r):RetV prog 299 [GoT.v qv cs1] w r:=by
 obtain⟨p1,k1,p2,k2,p3,k3,rfl,_,s2,_⟩:=qO ha1;refine zV 30 func299 Z fun h=>zSR (qx h Z Z fun _ bb1 h=>X1 10 0 h Z ?_);obtain⟨o1,F,hK1⟩:=qc F;refine qn (rL (fun m e w'=>∃(i1:Int),qcK c m i1=V o1∧e=[(1,.pointer (V ⟨bb1,0,U⟩)),(6,.slice p2 c.Ak.length k2),(7,.int .i64 (c.Ak.length:Int)),(8,.int .i64 i1)]∧SH w w' [Ch.box bb1 (qc2 c p1 p2 p3 k1 k2 k3) 251]) n ⟨_,F,rfl,h⟩ Z ?_);rintro m1 _ _ ⟨i1,F,rfl,h⟩;rcases m1 with _|m1
 ·cases F
 refine X0 5 Z (qh Z F ?_ ?_)<;>intro F
 ·refine X0 6 Z ?_;obtain⟨y1,_,F,he1,_,_,_,_,hp1,hq1,hr1,hc2⟩:=s2.ix F;obtain⟨_,_,_,_,rfl,s4,s5⟩:=qX hr1;refine zxe hp1 hq1 he1 Z (zc 0 (hc2.below h.below) Z (qp qa h Z Z Z fun _ _ h=>zp1 Z (zs 0 h Z fun _ h=>X2 5 1 0 h Z (zcB h F (qoc (h.old ha1) (qfo y1 (h.oldS s4) (h.oldS s5))) Z fun _ _ h F=>zp2 Z (qm (t:=17) F Z ?_ ?_)))))<;>intro F
  ·refine X0 8 Z (qfQ Z Z (X0 4 Z ?_));obtain rfl:=qb F;replace F:=hK1;exact rb h F Z
  refine X1 7 1 h Z ?_;obtain⟨_,hx1,F⟩:=qc F;obtain⟨_,_,hp2,hk1,hl1,g1⟩:=qxl (h.oldS s2) hx1;refine r_v (qug qa Z Z Z (qxt g1 Z) hp2 hk1 hl1 Z Z Z Z) Z ?_;have s6:=qxI s2 hx1 hp2 hk1;refine X0 3 Z (zcB h F (qeC ⟨_,_,rfl,(h.oldS s6)⟩ (qeb (x:=y1) 0 h Z (qfo y1 (h.oldS s4) (h.oldS s5)))) Z fun _ _ h F=>X0 2 Z (qh Z F ?_ ?_))<;>intro F
  ·refine X0 4 Z ?_;obtain rfl:=qb F;replace F:=hK1;exact rb h F Z
  refine X0 6 Z ?_;replace h:=h.pick [1] Z;exact rK ⟨_,F,rfl,h⟩ Z
 refine qq Z ?_;obtain rfl:=qb F;replace F:=hK1;exact X1 8 0 h Z (rb h F Z)
def qj9 (_:Nat)(a:qH)(v0:Int):Option Bool:=
 V (a.Aq==v0)
theorem qof {a:qH}{v0:Int}(ha1:Ro w a cs1){p3:Option Addr}(ha2:Ro w (V v0) [.pointer p3]){r:Bool}(F:qj9 n a v0=V r):RetV prog 333 [GoT.v qH cs1,.pointer p3] w r:=by
 obtain⟨_,_,_,_,rfl,_,_⟩:=qX ha1;obtain⟨_,o_1,_,rfl,-,hr1,hc1⟩:=PtR.get ha2 Z;obtain rfl:=hr1;exact zV 8 func333 Z fun h=>zSR (qx h Z Z fun _ _ h=>X1 6 0 h Z (zc 0 (hc1.below h.below) Z (X0 3 Z (rb h F Z))))
def qaf (s:(List qH))(f_0:Int):Nat→Int→Option (Flow Int Int)
 | 0,_=>U
 | n+1,i1=>
  bif decide (i1<(s.length:Int)) then
   (idx s i1).bind fun y1=>
   (qj9 n y1 f_0).bind fun r1=>
   bif r1 then V (.ret i1) else
   qaf s f_0 n (W64 (i1+1))
  else
   V (.nxt i1)
def qbK (n:Nat)(s:(List qH))(f_0:Int):Option Int:=
 (qaf s f_0 n 0).bind fun o=>match o with
 | .ret r=>V r
 | .nxt _=>
  V (-1)
theorem qf9 {s:(List qH)}{f_0:Int}(ha1:Ro w s cs1){p2:Option Addr}(ha2:Ro w (V f_0) [.pointer p2]){r:Int}(F:qbK n s f_0=V r):RetV prog 180 [GoT.v (List qH) cs1,.func (.func 333) #[] #[.pointer p2]] w r:=by
 obtain⟨p1,k1,rfl,s1⟩:=ha1;obtain⟨b1,o_1,_,rfl,-,hr1,_⟩:=PtR.get ha2 Z;obtain rfl:=hr1;refine zV 19 func180 Z fun h=>X0 11 Z ?_;obtain⟨o1,F,hK1⟩:=qc F;refine qn (rL (fun m e w'=>∃(i1:Int),qaf s f_0 m i1=V o1∧e=[(0,.slice p1 s.length k1),(1,.func (.func 333) #[] #[.pointer (V ⟨b1,o_1,U⟩)]),(7,.int .i64 (s.length:Int)),(8,.int .i64 i1)]∧SH w w' []) n ⟨_,F,rfl,h⟩ Z ?_);rintro m1 _ _ ⟨i1,F,rfl,h⟩;rcases m1 with _|m1
 ·cases F
 refine X0 5 Z (qh Z F ?_ ?_)<;>intro F
 ·refine X0 13 Z ?_;obtain⟨y1,_,F,he1,_,_,_,_,hp1,hq1,hr2,hc3⟩:=s1.ix F;obtain⟨_,_,_,_,rfl,s2,s3⟩:=qX hr2;refine zxe hp1 hq1 he1 Z (zc 0 (hc3.below h.below) Z (zcB h F (qof (qfo y1 (h.oldS s2) (h.oldS s3)) (h.old ha2)) Z fun _ _ h F=>qcP (qh Z F ?_ ?_)))<;>intro F
  ·refine X0 5 Z ?_;obtain rfl:=qb F;replace F:=hK1;exact ri h F Z
  exact X0 6 Z (rK ⟨_,F,rfl,h⟩ Z)
 refine qq Z ?_;obtain rfl:=qb F;replace F:=hK1;exact X0 4 Z (ri h F Z)
def qbt (n:Nat)(s:(List qH))(f_0:Int):Option Bool:=
 (qbK n s f_0).bind fun r1=>
 V (decide (r1 ≥ 0))
theorem qfw {s:(List qH)}{f_0:Int}(ha1:Ro w s cs1){p2:Option Addr}(ha2:Ro w (V f_0) [.pointer p2]){r:Bool}(F:qbt n s f_0=V r):RetV prog 317 [GoT.v (List qH) cs1,.func (.func 333) #[] #[.pointer p2]] w r:=by
 obtain⟨_,_,rfl,s1⟩:=ha1;obtain⟨_,o_1,_,rfl,-,hr1,_⟩:=PtR.get ha2 Z;obtain rfl:=hr1;exact zV 9 func317 Z fun h=>X0 8 Z (zcI h F (qf9 ⟨_,_,rfl,(h.oldS s1)⟩ (h.old ha2)) Z fun _ _ h F=>X0 3 Z (rb h F Z))
def qdE (n:Nat)(c:qv)(kind:Int):Option Bool:=
 (qbt n c.Ak kind).bind fun r1=>
 V r1
theorem qeK {c:qv}{kind:Int}(ha1:Ro w c cs1){r:Bool}(F:qdE n c kind=V r):RetV prog 319 [GoT.v qv cs1,.int .i64 kind] w r:=by
 obtain⟨_,_,_,_,_,_,rfl,_,s2,_⟩:=qO ha1;exact zV 9 func319 Z fun h=>zSR (qx h Z Z fun _ _ h=>qx h Z Z fun _ _ h=>X1 7 1 h Z (zcB h F (qfw ⟨_,_,rfl,(h.oldS s2)⟩ (qeb (x:=kind) 0 h Z Z)) Z fun _ _ h F=>X0 2 Z (rb h F Z)))
def qbh (a_0:qv):Nat→Int→Int→Option (Int×Int)
 | 0,_,_=>U
 | n+1,i1,i2=>
  bif decide (i2<(a_0.As.length:Int)) then
   (idx a_0.As i2).bind fun y1=>
   bif y1.Bo then qbh a_0 n (W64 (i1+1)) (W64 (i2+1)) else
   qbh a_0 n i1 (W64 (i2+1))
  else
   V (i1,i2)
def qgm (n:Nat)(a_0:qv):Option Bool:=
 (qbh a_0 n 0 0).bind fun o=>match o with
 | (i1,_)=>
  bif (a_0.Aq==1) then
   bif (i1==0) then
    (qcb n a_0).bind fun r1=>
    (shlS 1 r1).bind fun y2=>
    bif ((a_0.Bm.length:Int)==y2) then
     (qcq n a_0.Bm 0 1).bind fun r2=>
     V r2
    else
     V false
   else
    V false
  else
   bif (a_0.Aq==2) then
    bif (i1==1) then
     bif ((a_0.Bm.length:Int)==0) then
      (qdE n a_0 1).bind fun r3=>
      bif (!r3) then
       (qdE n a_0 2).bind fun r4=>
       (qdE n a_0 3).bind fun r5=>
       V (!(r4==r5))
      else
       V false
     else
      V false
    else
     V false
   else
    bif (a_0.Aq==3) then
     bif (i1==1) then
      bif ((a_0.Bm.length:Int)==0) then
       (qdE n a_0 1).bind fun r6=>
       bif r6 then
        (qdE n a_0 2).bind fun r7=>
        bif r7 then
         (qdE n a_0 3).bind fun r8=>
         V (!r8)
        else
         V false
       else
        V false
      else
       V false
     else
      V false
    else
     V false
theorem qmT {a_0:qv}(ha1:Ro w a_0 cs1){r:Bool}(F:qgm n a_0=V r):RetV prog 300 [GoT.v qv cs1] w r:=by
 obtain⟨p1,k1,p2,k2,p3,k3,rfl,s1,_,s3⟩:=qO ha1;refine zV 83 func300 Z fun h=>zSR (qx h Z Z fun _ bb1 h=>X1 14 0 h Z ?_);obtain⟨o1,F,hK1⟩:=qc F;refine qn (rL (fun m e w'=>∃(i1:Int) (i2:Int),qbh a_0 m i1 i2=V o1∧e=[(1,.pointer (V ⟨bb1,0,U⟩)),(3,.int .i64 i1),(7,.slice p1 a_0.As.length k1),(8,.int .i64 (a_0.As.length:Int)),(9,.int .i64 i2)]∧SH w w' [Ch.box bb1 (qc2 a_0 p1 p2 p3 k1 k2 k3) 251]) n ⟨_,_,F,rfl,h⟩ Z ?_);rintro m1 _ _ ⟨i1,i2,F,rfl,h⟩;rcases m1 with _|m1
 ·cases F
 refine X0 5 Z (qh Z F ?_ ?_)<;>intro F
 ·refine zKSBSR ?_;obtain⟨_,_,F,he1,_,_,_,_,hp1,hq1,hr1,hc2⟩:=s1.ix F;obtain rfl:=qaV hr1;refine zxe hp1 hq1 he1 Z (zc 0 (hc2.below h.below) Z (qp qa h Z Z Z fun _ _ h=>zs 0 h Z fun _ h=>X1 6 0 h Z (qh Z F ?_ ?_)))<;>intro F
  ·refine X0 10 Z ?_;replace h:=h.pick [1] Z;exact rK ⟨_,_,F,rfl,h⟩ Z
  refine X0 6 Z ?_;replace h:=h.pick [1] Z;exact rK ⟨_,_,F,rfl,h⟩ Z
 refine qq Z ?_;obtain rfl:=qb F;replace F:=hK1;refine X1 12 0 h Z (qh Z F ?_ ?_)<;>intro F
 ·refine qcQ (rD (zd3 Z (qbZ (t:=24) F Z ?_ ?_)))<;>intro F
  ·refine Y1 4 0 h Z ?_;refine Y1 4 0 h Z ?_;refine Y0 1 Z ?_;obtain⟨r1,hr2,F⟩:=qc F;refine qbJ r1 (vsI _) (cB 188 Z) (fun _ hb=>qfR ((h.ext hb).old ha1) hr2) Z Z Z Z (Y0 1 Z ?_);obtain⟨_,hx1,F⟩:=qc F;obtain⟨g1,hx1⟩:=qsv hx1;refine d_v (fun _ hb=>qy2 g1 Z Z) Z ?_;rw[hx1];refine Y0 4 Z (qbZ (t:=33) F Z ?_ ?_)<;>intro F
   ·refine Y1 4 0 h Z ?_;refine Y0 1 Z ?_;obtain⟨r2,hr3,F⟩:=qc F;exact qbJ r2 (vsB _) (cB 87 Z) (fun _ hb=>qcW ⟨_,_,rfl,((h.ext hb).oldS s3)⟩ hr3) Z Z Z Z (zd2 Z (dN h fun _ h=>rb h F Z))
   exact Y0 5 Z (dN h fun _ h=>rb h F Z)
  exact Y0 14 Z (dN h fun _ h=>rb h F Z)
 refine X0 5 Z (qh Z F ?_ ?_)<;>intro F
 ·refine qcQ (rD (zd3 Z (qbZ (t:=42) F Z ?_ ?_)))<;>intro F
  ·refine Y1 4 0 h Z ?_;refine Y0 6 Z (qbZ (t:=48) F Z ?_ ?_)<;>intro F
   ·refine Y1 2 0 h Z ?_;refine Y0 1 Z ?_;obtain⟨r3,hr4,F⟩:=qc F;refine qbJ r3 (vsB _) (cB 319 Z) (fun _ hb=>qeK ((h.ext hb).old ha1) hr4) Z Z Z Z (Y0 4 Z (qbZ (t:=53) F Z ?_ ?_))<;>intro F
    ·refine Y1 2 0 h Z ?_;refine Y0 1 Z ?_;obtain⟨r4,hr5,F⟩:=qc F;refine qbJ r4 (vsB _) (cB 319 Z) (fun _ hb=>qeK ((h.ext hb).old ha1) hr5) Z Z Z Z (Y1 2 0 h Z ?_);refine Y0 1 Z ?_;obtain⟨r5,hr6,F⟩:=qc F;exact qbJ r5 (vsB _) (cB 319 Z) (fun _ hb=>qeK ((h.ext hb).old ha1) hr6) Z Z Z Z (Y0 4 Z (dN h fun _ h=>rb h F Z))
    exact Y0 7 Z (dN h fun _ h=>rb h F Z)
   exact Y0 12 Z (dN h fun _ h=>rb h F Z)
  exact Y0 18 Z (dN h fun _ h=>rb h F Z)
 refine X0 5 Z (qh Z F ?_ ?_)<;>intro F
 ·refine X0 5 Z (qm (t:=64) F Z ?_ ?_)<;>intro F
  ·refine X1 10 0 h Z (qm (t:=70) F Z ?_ ?_)<;>intro F
   ·refine X1 3 0 h Z (zcB h F (qeK (h.old ha1)) Z fun _ _ h F=>zp2 Z (qm (t:=74) F Z ?_ ?_))<;>intro F
    ·refine X1 3 0 h Z (zcB h F (qeK (h.old ha1)) Z fun _ _ h F=>zp2 Z (qm (t:=78) F Z ?_ ?_))<;>intro F
     ·exact X1 3 0 h Z (zcB h F (qeK (h.old ha1)) Z fun _ _ h F=>X0 5 Z (rb h F Z))
     exact X0 6 Z (rb h F Z)
    exact X0 10 Z (rb h F Z)
   exact X0 14 Z (rb h F Z)
  exact X0 20 Z (rb h F Z)
 exact X0 6 Z (rb h F Z)
def qlD (n:Nat)(c:qv):Option Bool:=
 (qiA n c.Au).bind fun r1=>
 bif r1 then
  (qkE n c.As).bind fun r2=>
  bif r2 then
   (qg7 n c).bind fun r3=>
   bif r3 then
    (qaY n c.Bz 0 100000).bind fun r4=>
    bif r4 then
     (qaY n c.Bs 0 100000).bind fun r5=>
     bif r5 then
      (qgm n c).bind fun r6=>
      V r6
     else
      V false
    else
     V false
   else
    V false
  else
   V false
 else
  V false
theorem qqN {c:qv}(ha1:Ro w c cs1){r:Bool}(F:qlD n c=V r):RetV prog 266 [GoT.v qv cs1] w r:=by
 obtain⟨_,_,_,_,_,_,rfl,s1,_,_⟩:=qO ha1;refine zV 29 func266 Z fun h=>zSR (qx h Z Z fun _ _ h=>X1 6 0 h Z (zcB h F qkN Z fun _ _ h F=>zp1 Z (qm (t:=6) F Z ?_ ?_)))<;>intro F
 ·refine X1 5 0 h Z (zcB h F (qqs ⟨_,_,rfl,(h.oldS s1)⟩) Z fun _ _ h F=>zp2 Z (qm (t:=11) F Z ?_ ?_))<;>intro F
  ·refine X1 3 0 h Z (zcB h F (qns (h.old ha1)) Z fun _ _ h F=>zp2 Z (qm (t:=15) F Z ?_ ?_))<;>intro F
   ·refine X1 5 0 h Z (zcB h F qaN Z fun _ _ h F=>zp2 Z (qm (t:=20) F Z ?_ ?_))<;>intro F
    ·refine X1 5 0 h Z (zcB h F qaN Z fun _ _ h F=>zp2 Z (qm (t:=25) F Z ?_ ?_))<;>intro F
     ·exact X1 3 0 h Z (zcB h F (qmT (h.old ha1)) Z fun _ _ h F=>X0 3 Z (rb h F Z))
     exact X0 5 Z (rb h F Z)
    exact X0 10 Z (rb h F Z)
   exact X0 15 Z (rb h F Z)
  exact X0 19 Z (rb h F Z)
 exact X0 24 Z (rb h F Z)
def qc0 (l:qr):Nat→(List ByteArray)→Int→Option (Flow Bool ((List ByteArray)×Int))
 | 0,_,_=>U
 | n+1,x1,i1=>
  bif decide (i1<(l.Am.length:Int)) then
   (idx l.Am i1).bind fun y1=>
   (qlD n y1).bind fun r1=>
   bif (!r1) then V (.ret false) else
   (appS x1 ([y1.Au]:List ByteArray)).bind fun x2=>
   qc0 l n x2 (W64 (i1+1))
  else
   V (.nxt (x1,i1))
def qi5 (n:Nat)(l:qr):Option Bool:=
 (qc0 l n ([]:List ByteArray) 0).bind fun o=>match o with
 | .ret r=>V r
 | .nxt (x1,_)=>
  bif decide ((l.Am.length:Int)≤8) then
   (qev n x1).bind fun r2=>
   V r2
  else
   V false
theorem qow {l:qr}(ha1:Ro w l cs1){r:Bool}(F:qi5 n l=V r):RetV prog 227 [GoT.v qr cs1] w r:=by
 obtain⟨p1,k1,rfl,s1⟩:=qbN ha1;refine zV 30 func227 Z fun h=>zSR (qx h Z Z fun _ bb1 h=>X1 14 0 h Z ?_);replace h:=h.nil (α:=ByteArray);obtain⟨o1,F,hK1⟩:=qc F;refine qn (rL (fun m e w'=>∃(S1:Nat→Prop) (p2:Option Addr) (ln1:Nat) (k2:Nat) (x1:(List ByteArray)) (i1:Int),qc0 l m x1 i1=V o1∧e=[(1,.pointer (V ⟨bb1,0,U⟩)),(3,.slice p2 ln1 k2),(7,.slice p1 l.Am.length k1),(8,.int .i64 (l.Am.length:Int)),(9,.int .i64 i1)]∧SH w w' [Ch.own S1 (x1:List ByteArray) [.slice p2 ln1 k2],Ch.box bb1 [.slice p1 l.Am.length k1] 46]) n ⟨_,_,_,_,_,_,F,rfl,h⟩ Z ?_);rintro m1 _ _ ⟨S1,p2,ln1,k2,x1,i1,F,rfl,h⟩;obtain rfl:=(h.sl 0 Z).2;rcases m1 with _|m1
 ·cases F
 refine X0 5 Z (qh Z F ?_ ?_)<;>intro F
 ·refine zKSBSR ?_;obtain⟨y1,_,F,he1,_,_,_,_,hp1,hq1,hr1,hc2⟩:=s1.ix F;obtain⟨_,_,_,_,_,_,rfl,s2,s3,s4⟩:=qO hr1;refine zxe hp1 hq1 he1 Z (zc 0 (hc2.below h.below) Z (qp qa h Z Z Z fun _ _ h=>zs 0 h Z fun _ h=>X1 5 0 h Z (zcB h F (qqN (qjq y1 (h.oldS s2) (h.oldS s3) (h.oldS s4))) Z fun _ _ h F=>X0 2 Z (qh Z F ?_ ?_))))<;>intro F
  ·refine X0 4 Z ?_;obtain rfl:=qb F;replace F:=hK1;exact rb h F Z
  refine X1 5 0 h Z (qK qa [.tmp 18] _ ([y1.Au]:List ByteArray) h Z Z Z Z Z Z Z Z Z ⟨rfl,trivial⟩ Z fun _ _ _ h=>?_);obtain⟨_,hx1,F⟩:=qc F;obtain⟨g1,hx1⟩:=qan hx1;refine qbW qa 2 h Z (h.sl 0 Z).1 (h.sl 0 Z).2 Z Z Z Z Z Z Z Z Z g1 hx1 Z fun _ _ _ _ h=>X0 7 Z ?_;replace h:=h.pick [2,3] Z;exact rK ⟨_,_,_,_,_,_,F,rfl,h⟩ Z
 refine qq Z ?_;obtain rfl:=qb F;replace F:=hK1;refine X1 7 1 h Z (qm (t:=26) F Z ?_ ?_)<;>intro F
 ·exact X0 3 Z (zcB h F (qf7 (h.own 0 Z)) Z fun _ _ h F=>X0 3 Z (rb h F Z))
 exact X0 5 Z (rb h F Z)
def qbv (d:qe):Nat→(List ByteArray)→Int→Option ((List ByteArray)×Int)
 | 0,_,_=>U
 | n+1,x3,i2=>
  bif decide (i2<(d.Af.length:Int)) then
   (idx d.Af i2).bind fun y2=>
   (appS x3 ([y2.Au]:List ByteArray)).bind fun x4=>
   qbv d n x4 (W64 (i2+1))
  else
   V (x3,i2)
def qbx (d:qe):Nat→(List ByteArray)→Int→Option ((List ByteArray)×Int)
 | 0,_,_=>U
 | n+1,x1,i1=>
  bif decide (i1<(d.Ab.length:Int)) then
   (idx d.Ab i1).bind fun y1=>
   (appS x1 ([y1.Au]:List ByteArray)).bind fun x2=>
   qbx d n x2 (W64 (i1+1))
  else
   V (x1,i1)
def qfv (n:Nat)(d:qe):Option Bool:=
 (qbx d n ([]:List ByteArray) 0).bind fun o=>match o with
 | (x1,_)=>
  (qbv d n ([]:List ByteArray) 0).bind fun o=>match o with
  | (x3,_)=>
   bif decide ((x1.length:Int)≤14) then
    bif decide ((d.Ah.length:Int)≤30) then
     bif decide ((x3.length:Int)≤8) then
      (qev n x1).bind fun r1=>
      bif r1 then
       (qev n d.Ah).bind fun r2=>
       bif r2 then
        (qev n x3).bind fun r3=>
        V r3
       else
        V false
      else
       V false
     else
      V false
    else
     V false
   else
    V false
theorem qlX {d:qe}(ha1:Ro w d cs1){r:Bool}(F:qfv n d=V r):RetV prog 228 [GoT.v qe cs1] w r:=by
 obtain⟨p1,k1,p2,k2,p3,k3,rfl,s1,s2,s3⟩:=qaD ha1;refine zV 62 func228 Z fun h=>zSR (qx h Z Z fun _ bb1 h=>X1 15 0 h Z ?_);replace h:=h.nil (α:=ByteArray);obtain⟨o1,F,hK1⟩:=qc F;refine qn (rL (fun m e w'=>∃(S1:Nat→Prop) (p4:Option Addr) (ln1:Nat) (k4:Nat) (x1:(List ByteArray)) (i1:Int),qbx d m x1 i1=V o1∧e=[(1,.pointer (V ⟨bb1,0,U⟩)),(3,.slice p4 ln1 k4),(4,.slice U 0 0),(10,.slice p1 d.Ab.length k1),(11,.int .i64 (d.Ab.length:Int)),(12,.int .i64 i1)]∧SH w w' [Ch.own S1 (x1:List ByteArray) [.slice p4 ln1 k4],Ch.box bb1 (qaQ d p1 p2 p3 k1 k2 k3) 50]) n ⟨_,_,_,_,_,_,F,rfl,h⟩ Z ?_);rintro m1 _ _ ⟨S1,p4,ln1,k4,x1,i1,F,rfl,h⟩;obtain rfl:=(h.sl 0 Z).2;rcases m1 with _|m1
 ·cases F
 refine X0 5 Z (qh Z F ?_ ?_)<;>intro F
 ·refine zKSBSR ?_;obtain⟨y1,_,F,he1,_,_,_,_,hp1,hq1,hr1,hc2⟩:=s1.ix F;obtain⟨_,_,rfl,_⟩:=qF hr1;refine zxe hp1 hq1 he1 Z (zc 0 (hc2.below h.below) Z (qp qa h Z Z Z fun _ _ h=>zs 0 h Z fun _ h=>X1 5 0 h Z (qK qa [.tmp 18] _ ([y1.Au]:List ByteArray) h Z Z Z Z Z Z Z Z Z ⟨rfl,trivial⟩ Z fun _ _ _ h=>?_)));obtain⟨_,hx1,F⟩:=qc F;obtain⟨g1,hx1⟩:=qan hx1;refine qbW qa 2 h Z (h.sl 0 Z).1 (h.sl 0 Z).2 Z Z Z Z Z Z Z Z Z g1 hx1 Z fun _ _ _ _ h=>X0 7 Z ?_;replace h:=h.pick [2,3] Z;exact rK ⟨_,_,_,_,_,_,F,rfl,h⟩ Z
 refine qq Z ?_;obtain rfl:=qb F;replace F:=hK1;refine X1 8 1 h Z ?_;replace h:=h.nil (α:=ByteArray);obtain⟨o2,F,hK2⟩:=qc F;refine qn (rL (fun m e w'=>∃(S4:Nat→Prop) (p8:Option Addr) (ln2:Nat) (k7:Nat) (x3:(List ByteArray)) (i2:Int),qbv d m x3 i2=V o2∧e=[(1,.pointer (V ⟨bb1,0,U⟩)),(3,.slice p4 x1.length k4),(4,.slice p8 ln2 k7),(23,.slice p3 d.Af.length k3),(24,.int .i64 (d.Af.length:Int)),(25,.int .i64 i2)]∧SH w w' [Ch.own S4 (x3:List ByteArray) [.slice p8 ln2 k7],Ch.own S1 (x1:List ByteArray) [.slice p4 x1.length k4],Ch.box bb1 (qaQ d p1 p2 p3 k1 k2 k3) 50]) n ⟨_,_,_,_,_,_,F,rfl,h⟩ Z ?_);rintro m2 _ _ ⟨S4,p8,ln2,k7,x3,i2,F,rfl,h⟩;obtain rfl:=(h.sl 0 Z).2;rcases m2 with _|m2
 ·cases F
 refine X0 5 Z (qh Z F ?_ ?_)<;>intro F
 ·refine zKSBSR ?_;obtain⟨y2,_,F,he2,_,_,_,_,hp2,hq2,hr2,hc4⟩:=s3.ix F;obtain rfl:=qaU hr2;refine zxe hp2 hq2 he2 Z (zc 0 (hc4.below h.below) Z (qp qa h Z Z Z fun _ _ h=>zs 0 h Z fun _ h=>X1 5 0 h Z (qK qa [.tmp 31] _ ([y2.Au]:List ByteArray) h Z Z Z Z Z Z Z Z Z ⟨rfl,trivial⟩ Z fun _ _ _ h=>?_)));obtain⟨_,hx2,F⟩:=qc F;obtain⟨g2,hx2⟩:=qan hx2;refine qbW qa 2 h Z (h.sl 0 Z).1 (h.sl 0 Z).2 Z Z Z Z Z Z Z Z Z g2 hx2 Z fun _ _ _ _ h=>X0 7 Z ?_;replace h:=h.pick [2,3,4] Z;exact rK ⟨_,_,_,_,_,_,F,rfl,h⟩ Z
 refine qq Z ?_;obtain rfl:=qb F;replace F:=hK2;refine X0 6 Z (qm (t:=38) F Z ?_ ?_)<;>intro F
 ·refine X1 10 2 h Z (qm (t:=44) F Z ?_ ?_)<;>intro F
  ·refine X0 8 Z (qm (t:=49) F Z ?_ ?_)<;>intro F
   ·refine X0 3 Z (zcB h F (qf7 (h.own 1 Z)) Z fun _ _ h F=>zp2 Z (qm (t:=53) F Z ?_ ?_))<;>intro F
    ·refine X1 5 2 h Z (zcB h F (qf7 ⟨_,_,rfl,(h.oldS s2)⟩) Z fun _ _ h F=>zp2 Z (qm (t:=58) F Z ?_ ?_))<;>intro F
     ·exact X0 3 Z (zcB h F (qf7 (h.own 0 Z)) Z fun _ _ h F=>X0 3 Z (rb h F Z))
     exact X0 5 Z (rb h F Z)
    exact X0 10 Z (rb h F Z)
   exact X0 14 Z (rb h F Z)
  exact X0 19 Z (rb h F Z)
 exact X0 25 Z (rb h F Z)
def qgZ (_:Nat)(list:(List qv)):Option Int:=
 V (list.length:Int)
theorem qlK {list:(List qv)}(ha1:Ro w list cs1){r:Int}(F:qgZ n list=V r):RetV prog 268 [GoT.v (List qv) cs1] w r:=by
 obtain⟨_,_,rfl,_⟩:=ha1;exact zV 5 func268 Z fun h=>X0 10 Z (ri h F Z)
def qdD (n:Nat)(net:Int)(v0:qe):Option Bool:=
 (qdV n v0 net).bind fun r1=>
 V (!r1)
theorem qky {net:Int}{v0:qe}{p1:Option Addr}(ha1:Ro w (V v0) [.pointer p1]){r:Bool}(F:qdD n net v0=V r):RetV prog 269 [.int .i64 net,.pointer p1] w r:=by
 obtain⟨_,o_1,_,rfl,-,hr1,hc1⟩:=PtR.get ha1 Z;obtain⟨_,_,_,_,_,_,rfl,s1,s2,s3⟩:=qaD hr1;exact zV 8 func269 Z fun h=>X0 6 Z (zc 0 (hc1.below h.below) Z (zp1 Z (zcB h F (qhd (qao v0 (h.oldS s1) (h.oldS s2) (h.oldS s3))) Z fun _ _ h F=>X0 3 Z (rb h F Z))))
def qS (s:(List Int))(f_0:qe):Nat→Int→Option (Flow Int Int)
 | 0,_=>U
 | n+1,i1=>
  bif decide (i1<(s.length:Int)) then
   (idx s i1).bind fun y1=>
   (qdD n y1 f_0).bind fun r1=>
   bif r1 then V (.ret i1) else
   qS s f_0 n (W64 (i1+1))
  else
   V (.nxt i1)
def qba (n:Nat)(s:(List Int))(f_0:qe):Option Int:=
 (qS s f_0 n 0).bind fun o=>match o with
 | .ret r=>V r
 | .nxt _=>
  V (-1)
theorem qeQ {s:(List Int)}{f_0:qe}(ha1:Ro w s cs1){p2:Option Addr}(ha2:Ro w (V f_0) [.pointer p2]){r:Int}(F:qba n s f_0=V r):RetV prog 159 [GoT.v (List Int) cs1,.func (.func 269) #[] #[.pointer p2]] w r:=by
 obtain⟨p1,k1,rfl,s1⟩:=ha1;obtain⟨b1,o_1,_,rfl,-,hr1,_⟩:=PtR.get ha2 Z;obtain⟨_,_,_,_,_,_,rfl,_,_,_⟩:=qaD hr1;refine zV 19 func159 Z fun h=>X0 11 Z ?_;obtain⟨o1,F,hK1⟩:=qc F;refine qn (rL (fun m e w'=>∃(i1:Int),qS s f_0 m i1=V o1∧e=[(0,.slice p1 s.length k1),(1,.func (.func 269) #[] #[.pointer (V ⟨b1,o_1,U⟩)]),(7,.int .i64 (s.length:Int)),(8,.int .i64 i1)]∧SH w w' []) n ⟨_,F,rfl,h⟩ Z ?_);rintro m1 _ _ ⟨i1,F,rfl,h⟩;rcases m1 with _|m1
 ·cases F
 refine X0 5 Z (qh Z F ?_ ?_)<;>intro F
 ·refine X0 13 Z ?_;obtain⟨_,_,F,he1,_,_,_,_,hp1,hq1,rfl,hc3⟩:=s1.ix F;refine zxe hp1 hq1 he1 Z (zc 0 (hc3.below h.below) Z (zcB h F (qky (h.old ha2)) Z fun _ _ h F=>qcP (qh Z F ?_ ?_)))<;>intro F
  ·refine X0 5 Z ?_;obtain rfl:=qb F;replace F:=hK1;exact ri h F Z
  exact X0 6 Z (rK ⟨_,F,rfl,h⟩ Z)
 refine qq Z ?_;obtain rfl:=qb F;replace F:=hK1;exact X0 4 Z (ri h F Z)
def qaT (n:Nat)(s:(List Int))(f_0:qe):Option Bool:=
 (qba n s f_0).bind fun r1=>
 V (decide (r1 ≥ 0))
theorem qef {s:(List Int)}{f_0:qe}(ha1:Ro w s cs1){p2:Option Addr}(ha2:Ro w (V f_0) [.pointer p2]){r:Bool}(F:qaT n s f_0=V r):RetV prog 80 [GoT.v (List Int) cs1,.func (.func 269) #[] #[.pointer p2]] w r:=by
 obtain⟨_,_,rfl,s1⟩:=ha1;obtain⟨_,o_1,_,rfl,-,hr1,_⟩:=PtR.get ha2 Z;obtain⟨_,_,_,_,_,_,rfl,_,_,_⟩:=qaD hr1;exact zV 9 func80 Z fun h=>X0 8 Z (zcI h F (qeQ ⟨_,_,rfl,(h.oldS s1)⟩ (h.old ha2)) Z fun _ _ h F=>X0 3 Z (rb h F Z))
def qeq (n:Nat)(d:qe)(l:qr)(x:qk):Option Bool:=
 (qgZ n l.Am).bind fun r1=>
 (qaY n x.Bp 0 (W64 (r1-1))).bind fun r2=>
 bif r2 then
  (idx l.Am x.Bp).bind fun y1=>
  bif ((x.Ah.length:Int)==(y1.As.length:Int)) then
   (qaT n x.Ah d).bind fun r3=>
   V (!r3)
  else
   V false
 else
  V false
theorem qlh {d:qe}{l:qr}{x:qk}(ha1:Ro w d cs1)(ha2:Ro w l cs2)(ha3:Ro w x cs3){r:Bool}(F:qeq n d l x=V r):RetV prog 229 [GoT.v qe cs1,GoT.v qr cs2,GoT.v qk cs3] w r:=by
 obtain⟨_,_,_,_,_,_,rfl,_,_,_⟩:=qaD ha1;obtain⟨_,_,rfl,s4⟩:=qbN ha2;obtain⟨_,_,rfl,s5⟩:=qF ha3;refine zV 35 func229 Z fun h=>zSR (qx h Z Z fun _ _ h=>qx h Z Z fun _ _ h=>qx h Z Z fun _ _ h=>X0 3 Z (rD (Y1 2 0 h Z ?_)));refine Y1 2 1 h Z ?_;obtain⟨r1,hr1,F⟩:=qc F;refine qbJ r1 (vsI _) (cB 268 Z) (fun _ hb=>qlK ⟨_,_,rfl,((h.ext hb).oldS s4)⟩ hr1) Z Z Z Z (zd1 Z ?_);obtain⟨r2,hr2,F⟩:=qc F;refine qbJ r2 (vsB _) (cB 103 Z) (fun _ hb=>qaN  hr2) Z Z Z Z (zd1 Z (qbZ (t:=14) F Z ?_ ?_))<;>intro F
 ·refine Y1 4 0 h Z ?_;refine Y1 6 1 h Z ?_;refine Y1 4 0 h Z ?_;refine Y0 1 Z ?_;obtain⟨_,_,F,he1,_,_,_,_,hp1,hq1,hr3,hc1⟩:=s4.ix F;obtain⟨_,_,_,_,_,_,rfl,_,_,_⟩:=qO hr3;refine zdxe hp1 hq1 he1 Z (Y0 3 Z (zdc 2 (hc1.below h.below) Z (Y0 6 Z (qbZ (t:=28) F Z ?_ ?_))))<;>intro F
  ·refine Y1 4 0 h Z ?_;refine Y0 3 Z ?_;obtain⟨r3,hr4,F⟩:=qc F;exact qbJ r3 (vsB _) (cB 80 Z) (fun _ hb=>qef ⟨_,_,rfl,((h.ext hb).oldS s5)⟩ (qeb (x:=d) 2 (h.ext hb) Z ((h.ext hb).old ha1)) hr4) Z Z Z Z (Y0 4 Z (dN h fun _ h=>rb h F Z))
  exact Y0 7 Z (dN h fun _ h=>rb h F Z)
 exact Y0 21 Z (dN h fun _ h=>rb h F Z)
def qkc (_:Nat)(a_n:Int):Option Bool:=
 V (a_n != 1)
theorem qoe {a_n:Int}  {r:Bool}(F:qkc n a_n=V r):RetV prog 231 [.int .i64 a_n] w r:=by
 exact zV 5 func231 Z fun h=>X0 10 Z (rb h F Z)
def qat (s:(List Int)):Nat→Int→Option (Flow Int Int)
 | 0,_=>U
 | n+1,i1=>
  bif decide (i1<(s.length:Int)) then
   (idx s i1).bind fun y1=>
   (qkc n y1).bind fun r1=>
   bif r1 then V (.ret i1) else
   qat s n (W64 (i1+1))
  else
   V (.nxt i1)
def qcm (n:Nat)(s:(List Int)):Option Int:=
 (qat s n 0).bind fun o=>match o with
 | .ret r=>V r
 | .nxt _=>
  V (-1)
theorem qhb {s:(List Int)}(ha1:Ro w s cs1){r:Int}(F:qcm n s=V r):RetV prog 270 [GoT.v (List Int) cs1,.func (.func 231) #[] #[]] w r:=by
 obtain⟨p1,k1,rfl,s1⟩:=ha1;refine zV 19 func270 Z fun h=>X0 11 Z ?_;obtain⟨o1,F,hK1⟩:=qc F;refine qn (rL (fun m e w'=>∃(i1:Int),qat s m i1=V o1∧e=[(0,.slice p1 s.length k1),(1,.func (.func 231) #[] #[]),(7,.int .i64 (s.length:Int)),(8,.int .i64 i1)]∧SH w w' []) n ⟨_,F,rfl,h⟩ Z ?_);rintro m1 _ _ ⟨i1,F,rfl,h⟩;rcases m1 with _|m1
 ·cases F
 refine X0 5 Z (qh Z F ?_ ?_)<;>intro F
 ·refine X0 13 Z ?_;obtain⟨_,_,F,he1,_,_,_,_,hp1,hq1,rfl,hc2⟩:=s1.ix F;refine zxe hp1 hq1 he1 Z (zc 0 (hc2.below h.below) Z (zcB h F qoe Z fun _ _ h F=>qcP (qh Z F ?_ ?_)))<;>intro F
  ·refine X0 5 Z ?_;obtain rfl:=qb F;replace F:=hK1;exact ri h F Z
  exact X0 6 Z (rK ⟨_,F,rfl,h⟩ Z)
 refine qq Z ?_;obtain rfl:=qb F;replace F:=hK1;exact X0 4 Z (ri h F Z)
def qbX (n:Nat)(s:(List Int)):Option Bool:=
 (qcm n s).bind fun r1=>
 V (decide (r1 ≥ 0))
theorem qgs {s:(List Int)}(ha1:Ro w s cs1){r:Bool}(F:qbX n s=V r):RetV prog 230 [GoT.v (List Int) cs1,.func (.func 231) #[] #[]] w r:=by
 obtain⟨_,_,rfl,s1⟩:=ha1;exact zV 9 func230 Z fun h=>X0 8 Z (zcI h F (qhb ⟨_,_,rfl,(h.oldS s1)⟩) Z fun _ _ h F=>X0 3 Z (rb h F Z))
def qcL (a_1:qe):Nat→(List Int)→Int→Option (Flow Bool ((List Int)×Int))
 | 0,_,_=>U
 | n+1,x3,i2=>
  bif decide (i2<(a_1.Af.length:Int)) then
   (idx a_1.Af i2).bind fun y5=>
   (
    bif (y5.Bu != 1) then
     bif (y5.Bu != 2) then V true else
     (qdV n a_1 y5.Bx).bind fun r2=>
     V (!r2)
    else
     (qdV n a_1 y5.Bx).bind fun r3=>
     V (!r3)).bind fun b7=>
   bif b7 then V (.ret false) else
   bif (y5.Bu==1) then
    (idx x3 y5.Bx).bind fun y6=>
    (idx x3 y5.Bx).bind fun _=>
    qcL a_1 n (setS x3 y5.Bx (W64 (y6+1))) (W64 (i2+1))
   else
    qcL a_1 n x3 (W64 (i2+1))
  else
   V (.nxt (x3,i2))
def qdn (a_0:qr)(a_1:qe):Nat→(List Int)→Int→Option (Flow Bool ((List Int)×Int))
 | 0,_,_=>U
 | n+1,x2,i1=>
  bif decide (i1<(a_1.Ab.length:Int)) then
   (idx a_1.Ab i1).bind fun y1=>
   (qeq n a_1 a_0 y1).bind fun r1=>
   bif (!r1) then V (.ret false) else
   (idx y1.Ah (W64 ((y1.Ah.length:Int)-1))).bind fun y2=>
   (idx x2 y2).bind fun y3=>
   (idx x2 y2).bind fun _=>
   qdn a_0 a_1 n (setS x2 y2 (W64 (y3+1))) (W64 (i1+1))
  else
   V (.nxt (x2,i1))
def qjw (n:Nat)(a_0:qr)(a_1:qe):Option Bool:=
 (
  (qi5 n a_0).bind fun r5=>
  bif (!r5) then V true else
  (qfv n a_1).bind fun r6=>
  V (!r6)).bind fun b1=>
 bif b1 then V false else
 (mkS (a_1.Ah.length:Int) (0:Int)).bind fun x1=>
 (qdn a_0 a_1 n x1 0).bind fun o=>match o with
 | .ret r=>V r
 | .nxt (x2,_)=>
  (qcL a_1 n x2 0).bind fun o=>match o with
  | .ret r=>V r
  | .nxt (x3,_)=>
   (qbX n x3).bind fun r4=>
   V (!r4)
theorem qpk {a_0:qr}{a_1:qe}(ha1:Ro w a_0 cs1)(ha2:Ro w a_1 cs2){r:Bool}(F:qjw n a_0 a_1=V r):RetV prog 161 [GoT.v qr cs1,GoT.v qe cs2] w r:=by
 obtain⟨p1,k1,rfl,_⟩:=qbN ha1;obtain⟨p2,k2,p3,k3,p4,k4,rfl,s2,_,s4⟩:=qaD ha2;refine zV 84 func161 Z fun h=>zSR (qx h Z Z fun _ bb1 h=>qx h Z Z fun _ bb2 h=>X0 4 Z ?_);obtain⟨KF2,hKF2,_,F,hK4⟩:=bindE F;refine qbe (fun e w'=>∃(b1:Bool),KF2 b1=V r∧e=[(2,.pointer (V ⟨bb1,0,U⟩)),(3,.pointer (V ⟨bb2,0,U⟩)),(17,.bool b1)]∧SH w w' [Ch.box bb2 (qaQ a_1 p2 p3 p4 k2 k3 k4) 50,Ch.box bb1 [.slice p1 a_0.Am.length k1] 46]) ?_ ?_
 ·refine X1 2 1 h Z (zcB h F (qow (h.old ha1)) Z fun _ _ h F=>zp2 Z (qm (t:=13) F Z ?_ ?_))<;>intro F
  ·refine X0 5 Z ?_;obtain rfl:=qb F;exact rG ⟨_,hK4,rfl,h⟩ Z
  refine X1 3 0 h Z (zcB h F (qlX (h.old ha2)) Z fun _ _ h F=>X0 4 Z ?_);obtain rfl:=qb F;exact rG ⟨_,hK4,rfl,h⟩ Z
 rintro _ _ ⟨b1,F,rfl,h⟩;subst hKF2;refine qh Z F ?_ ?_<;>intro F
 ·exact X0 4 Z (rb h F Z)
 refine X1 6 0 h Z ?_;obtain⟨x1,hx1,F⟩:=qc F;obtain⟨g1,g2,hx1⟩:=qac hx1;refine qaw qa Int h Z Z Z Z Z Z Z Z Z g1 g2 hx1 Z fun _ S1 p5 h=>X1 10 1 h Z ?_;obtain⟨o1,F,hK1⟩:=qc F;refine qn (rL (fun m e w'=>∃(x2:(List Int)) (i1:Int),qdn a_0 a_1 m x2 i1=V o1∧e=[(2,.pointer (V ⟨bb1,0,U⟩)),(3,.pointer (V ⟨bb2,0,U⟩)),(5,.slice p5 x1.length x1.length),(23,.slice p2 a_1.Ab.length k2),(24,.int .i64 (a_1.Ab.length:Int)),(25,.int .i64 i1)]∧SH w w' [Ch.own S1 (x2:List Int) [.slice p5 x1.length x1.length],Ch.box bb2 (qaQ a_1 p2 p3 p4 k2 k3 k4) 50,Ch.box bb1 [.slice p1 a_0.Am.length k1] 46]) n ⟨_,_,F,rfl,h⟩ Z ?_);rintro m1 _ _ ⟨x2,i1,F,rfl,h⟩;rcases m1 with _|m1
 ·cases F
 refine X0 5 Z (qh Z F ?_ ?_)<;>intro F
 ·refine zKSBSR ?_;obtain⟨y1,_,F,he1,_,_,_,_,hp1,hq1,hr1,hc3⟩:=s2.ix F;obtain⟨_,_,rfl,s5⟩:=qF hr1;refine zxe hp1 hq1 he1 Z (zc 0 (hc3.below h.below) Z (qp qa h Z Z Z fun _ _ h=>zs 0 h Z fun _ h=>X3 7 2 3 0 h Z (zcB h F (qlh (h.old ha2) (h.old ha1) (qgT y1 (h.oldS s5))) Z fun _ _ h F=>X0 2 Z (qh Z F ?_ ?_))))<;>intro F
  ·refine X0 4 Z ?_;obtain rfl:=qb F;replace F:=hK1;exact rb h F Z
  refine X2 9 0 0 h Z ?_;obtain⟨_,_,F,he2,_,_,_,_,hp2,hq2,rfl,hc5⟩:=s5.ix F;refine zxe hp2 hq2 he2 Z (zc 0 (hc5.below h.below) Z ?_);obtain⟨y3,_,F,he3,_,_,_,_,hp3,hq3,rfl,hc6⟩:=(h.sl 1 Z).1.ix F;refine zx hp3 hq3 ⟨he3.1,qC he3.2.1 (h.sl 1 Z).2⟩ Z (zc 0 hc6 Z (zp1 Z ?_));obtain⟨_,hy4,F,he4,_,_,_,_,hp4,hq4,rfl,hc7⟩:=(h.sl 1 Z).1.ix F;refine zx hp4 hq4 ⟨he4.1,qC he4.2.1 (h.sl 1 Z).2⟩ Z (qay qa 1 0 (W64 (y3+1)) h Z hy4 hp4 hq4 Z hc7 Z Z Z Z Z Z Z fun _ h=>X0 6 Z ?_);replace h:=h.pick [1,2,3] Z;exact rK ⟨_,_,F,rfl,h⟩ Z
 refine qq Z ?_;obtain rfl:=qb F;replace F:=hK1;refine X1 8 1 h Z ?_;obtain⟨o2,F,hK2⟩:=qc F;refine qn ?_;replace h:=h.pick [0,1] Z;refine rL (fun m e w'=>∃(x3:(List Int)) (i2:Int),qcL a_1 m x3 i2=V o2∧e=[(3,.pointer (V ⟨bb2,0,U⟩)),(5,.slice p5 x1.length x1.length),(49,.slice p4 a_1.Af.length k4),(50,.int .i64 (a_1.Af.length:Int)),(51,.int .i64 i2)]∧SH w w' [Ch.own S1 (x3:List Int) [.slice p5 x1.length x1.length],Ch.box bb2 (qaQ a_1 p2 p3 p4 k2 k3 k4) 50]) n ⟨_,_,F,rfl,h⟩ Z ?_;rintro m2 _ _ ⟨x3,i2,F,rfl,h⟩;rcases m2 with _|m2
 ·cases F
 refine X0 5 Z (qh Z F ?_ ?_)<;>intro F
 ·refine zKSBSR ?_;obtain⟨y5,_,F,he5,_,_,_,_,hp5,hq5,hr6,hc9⟩:=s4.ix F;obtain rfl:=qaU hr6;refine zxe hp5 hq5 he5 Z (zc 0 (hc9.below h.below) Z (qp qa h Z Z Z fun _ bb4 h=>zs 0 h Z fun _ h=>zNSS ?_));obtain⟨KF1,hKF1,_,F,hK3⟩:=bindE F;refine qbe (fun e w'=>∃(b7:Bool),KF1 b7=V o2∧e=[(3,.pointer (V ⟨bb2,0,U⟩)),(5,.slice p5 x1.length x1.length),(9,.pointer (V ⟨bb4,0,U⟩)),(49,.slice p4 a_1.Af.length k4),(50,.int .i64 (a_1.Af.length:Int)),(51,.int .i64 i2),(69,.bool b7)]∧SH w w' [Ch.box bb4 (qqF y5) 294,Ch.own S1 (x3:List Int) [.slice p5 x1.length x1.length],Ch.box bb2 (qaQ a_1 p2 p3 p4 k2 k3 k4) 50]) ?_ ?_
  ·refine X1 5 0 h Z (qm (t:=58) F Z ?_ ?_)<;>intro F
   ·refine X1 8 0 h Z (qm (t:=63) F Z ?_ ?_)<;>intro F
    ·refine X0 7 Z ?_;obtain rfl:=qb F;exact rG ⟨_,hK3,rfl,h⟩ Z
    refine X2 7 2 0 h Z (zcB h F (qhd (h.old ha2)) Z fun _ _ h F=>X0 4 Z ?_);obtain rfl:=qb F;exact rG ⟨_,hK3,rfl,h⟩ Z
   refine X2 12 2 0 h Z (zcB h F (qhd (h.old ha2)) Z fun _ _ h F=>X0 4 Z ?_);obtain rfl:=qb F;exact rG ⟨_,hK3,rfl,h⟩ Z
  rintro _ _ ⟨b7,F,rfl,h⟩;subst hKF1;refine qh Z F ?_ ?_<;>intro F
  ·refine X0 4 Z ?_;obtain rfl:=qb F;replace F:=hK2;exact rb h F Z
  refine X1 7 0 h Z (qh Z F ?_ ?_)<;>intro F
  ·refine X1 4 0 h Z ?_;obtain⟨y6,_,F,he6,_,_,_,_,hp6,hq6,rfl,hc12⟩:=(h.sl 1 Z).1.ix F;refine zx hp6 hq6 ⟨he6.1,qC he6.2.1 (h.sl 1 Z).2⟩ Z (zc 0 hc12 Z (zp1 Z ?_));obtain⟨_,hy7,F,he7,_,_,_,_,hp7,hq7,rfl,hc13⟩:=(h.sl 1 Z).1.ix F;refine zx hp7 hq7 ⟨he7.1,qC he7.2.1 (h.sl 1 Z).2⟩ Z (qay qa 1 0 (W64 (y6+1)) h Z hy7 hp7 hq7 Z hc13 Z Z Z Z Z Z Z fun _ h=>X0 6 Z ?_);replace h:=h.pick [1,2] Z;exact rK ⟨_,_,F,rfl,h⟩ Z
  refine X0 6 Z ?_;replace h:=h.pick [1,2] Z;exact rK ⟨_,_,F,rfl,h⟩ Z
 refine qq Z ?_;obtain rfl:=qb F;replace F:=hK2;exact X0 3 Z (zcB h F (qgs (h.own 0 Z)) Z fun _ _ h F=>X0 3 Z (rb h F Z))
def qbQ (i1:Int)(y1:qk):Nat→(List Tplace)→Int→Option ((List Tplace)×Int)
 | 0,_,_=>U
 | n+1,x2,i2=>
  bif decide (i2<(y1.Ah.length:Int)) then
   (idx y1.Ah i2).bind fun y2=>
   (appS x2 ([(⟨i1,i2,y2,(i2==(W64 ((y1.Ah.length:Int)-1)))⟩:Tplace)]:List Tplace)).bind fun x3=>
   qbQ i1 y1 n x3 (W64 (i2+1))
  else
   V (x2,i2)
def qbS (d:qe):Nat→(List Tplace)→Int→Option ((List Tplace)×Int)
 | 0,_,_=>U
 | n+1,x4,i3=>
  bif decide (i3<(d.Af.length:Int)) then
   (idx d.Af i3).bind fun y3=>
   (appS x4 ([(⟨(-1),i3,y3.Bx,(y3.Bu==1)⟩:Tplace)]:List Tplace)).bind fun x5=>
   qbS d n x5 (W64 (i3+1))
  else
   V (x4,i3)
def qbT (d:qe):Nat→(List Tplace)→Int→Option ((List Tplace)×Int)
 | 0,_,_=>U
 | n+1,x1,i1=>
  bif decide (i1<(d.Ab.length:Int)) then
   (idx d.Ab i1).bind fun y1=>
   (qbQ i1 y1 n x1 0).bind fun o=>match o with
   | (x2,_)=>
    qbT d n x2 (W64 (i1+1))
  else
   V (x1,i1)
def qcC (n:Nat)(d:qe):Option (List Tplace):=
 (qbT d n ([]:List Tplace) 0).bind fun o=>match o with
 | (x1,_)=>
  (qbS d n x1 0).bind fun o=>match o with
  | (x4,_)=>
   V x4
theorem qe2 {d:qe}(ha1:Ro w d cs1){r:(List Tplace)}(F:qcC n d=V r):RetV prog 162 [GoT.v qe cs1] w r:=by
 obtain⟨p1,k1,p2,k2,p3,k3,rfl,s1,_,s3⟩:=qaD ha1;refine zV 61 func162 Z fun h=>zSR (qx h Z Z fun _ bb1 h=>X1 14 0 h Z ?_);replace h:=h.nil (α:=Tplace);obtain⟨o1,F,hK1⟩:=qc F;refine qn (rL (fun m e w'=>∃(S1:Nat→Prop) (p4:Option Addr) (ln1:Nat) (k4:Nat) (x1:(List Tplace)) (i1:Int),qbT d m x1 i1=V o1∧e=[(1,.pointer (V ⟨bb1,0,U⟩)),(3,.slice p4 ln1 k4),(11,.slice p1 d.Ab.length k1),(12,.int .i64 (d.Ab.length:Int)),(13,.int .i64 i1)]∧SH w w' [Ch.own S1 (x1:List Tplace) [.slice p4 ln1 k4],Ch.box bb1 (qaQ d p1 p2 p3 k1 k2 k3) 50]) n ⟨_,_,_,_,_,_,F,rfl,h⟩ Z ?_);rintro m1 _ _ ⟨S1,p4,ln1,k4,x1,i1,F,rfl,h⟩;obtain rfl:=(h.sl 0 Z).2;rcases m1 with _|m1
 ·cases F
 refine X0 5 Z (qh Z F ?_ ?_)<;>intro F
 ·refine X0 6 Z ?_;obtain⟨y1,_,F,he1,_,_,_,_,hp1,hq1,hr1,hc2⟩:=s1.ix F;obtain⟨p5,k5,rfl,s4⟩:=qF hr1;refine zxe hp1 hq1 he1 Z (zc 0 (hc2.below h.below) Z (qp qa h Z Z Z fun _ bb2 h=>zp1 Z (zs 0 h Z fun _ h=>X1 8 0 h Z ?_)));obtain⟨o2,F,hK2⟩:=qc F;refine qn (rL (fun m e w'=>∃(S2:Nat→Prop) (p6:Option Addr) (ln2:Nat) (k6:Nat) (x2:(List Tplace)) (i2:Int),qbQ i1 y1 m x2 i2=V o2∧e=[(1,.pointer (V ⟨bb1,0,U⟩)),(3,.slice p6 ln2 k6),(4,.int .i64 i1),(5,.pointer (V ⟨bb2,0,U⟩)),(11,.slice p1 d.Ab.length k1),(12,.int .i64 (d.Ab.length:Int)),(13,.int .i64 i1),(19,.slice p5 y1.Ah.length k5),(20,.int .i64 (y1.Ah.length:Int)),(21,.int .i64 i2)]∧SH w w' [Ch.box bb2 (qjT y1 p5 k5) 174,Ch.own S2 (x2:List Tplace) [.slice p6 ln2 k6],Ch.box bb1 (qaQ d p1 p2 p3 k1 k2 k3) 50]) m1 ⟨_,_,_,_,_,_,F,rfl,h⟩ Z ?_);rintro m2 _ _ ⟨S2,p6,ln2,k6,x2,i2,F,rfl,h⟩;obtain rfl:=(h.sl 1 Z).2;rcases m2 with _|m2
  ·cases F
  refine X0 5 Z (qh Z F ?_ ?_)<;>intro F
  ·refine X0 6 Z ?_;obtain⟨y2,_,F,he2,_,_,_,_,hp2,hq2,rfl,hc4⟩:=s4.ix F;refine zxe hp2 hq2 he2 Z (zc 0 (hc4.below h.below) Z (X1 14 0 h Z (r_v (qJ qa [0,1,2,3] [.tmp 27,.tmp 28,.tmp 29,.tmp 35] Z Z Z Z Z Z Z Z) Z (qK qa [.tmp 36] _ ([(⟨i1,i2,y2,(i2==(W64 ((y1.Ah.length:Int)-1)))⟩:Tplace)]:List Tplace) h Z Z Z Z Z Z Z Z Z ⟨(qms (⟨i1,i2,y2,(i2==(W64 ((y1.Ah.length:Int)-1)))⟩:Tplace)),trivial⟩ Z fun _ _ _ h=>?_))));obtain⟨_,hx1,F⟩:=qc F;obtain⟨g1,hx1⟩:=qan hx1;refine qbW qa 2 h Z (h.sl 0 Z).1 (h.sl 0 Z).2 Z Z Z Z Z Z Z Z Z g1 hx1 Z fun _ _ _ _ h=>X0 7 Z ?_;replace h:=h.pick [1,2,3] Z;exact rK ⟨_,_,_,_,_,_,F,rfl,h⟩ Z
  refine qq Z ?_;obtain rfl:=qb F;replace F:=hK2;refine X0 5 Z ?_;replace h:=h.pick [1,2] Z;exact rK ⟨_,_,_,_,_,_,F,rfl,h⟩ Z
 refine qq Z ?_;obtain rfl:=qb F;replace F:=hK1;refine X1 8 1 h Z ?_;obtain⟨o3,F,hK3⟩:=qc F;refine qn ?_;replace h:=h.pick [0] Z;refine rL (fun m e w'=>∃(S5:Nat→Prop) (p9:Option Addr) (ln3:Nat) (k8:Nat) (x4:(List Tplace)) (i3:Int),qbS d m x4 i3=V o3∧e=[(3,.slice p9 ln3 k8),(42,.slice p3 d.Af.length k3),(43,.int .i64 (d.Af.length:Int)),(44,.int .i64 i3)]∧SH w w' [Ch.own S5 (x4:List Tplace) [.slice p9 ln3 k8]]) n ⟨_,_,_,_,_,_,F,rfl,h⟩ Z ?_;rintro m3 _ _ ⟨S5,p9,ln3,k8,x4,i3,F,rfl,h⟩;obtain rfl:=(h.sl 0 Z).2;rcases m3 with _|m3
 ·cases F
 refine X0 5 Z (qh Z F ?_ ?_)<;>intro F
 ·refine X0 6 Z ?_;obtain⟨y3,_,F,he3,_,_,_,_,hp3,hq3,hr3,hc6⟩:=s3.ix F;obtain rfl:=qaU hr3;refine zxe hp3 hq3 he3 Z (zc 0 (hc6.below h.below) Z (qp qa h Z Z Z fun _ _ h=>zp1 Z (zs 0 h Z fun _ h=>X2 9 0 0 h Z (r_v (qJ qa [0,1,2,3] [.const (.int .i64 (-1)),.tmp 50,.tmp 52,.tmp 55] Z Z Z Z Z Z Z Z) Z (qK qa [.tmp 56] _ ([(⟨(-1),i3,y3.Bx,(y3.Bu==1)⟩:Tplace)]:List Tplace) h Z Z Z Z Z Z Z Z Z ⟨(qms (⟨(-1),i3,y3.Bx,(y3.Bu==1)⟩:Tplace)),trivial⟩ Z fun _ _ _ h=>?_)))));obtain⟨_,hx2,F⟩:=qc F;obtain⟨g2,hx2⟩:=qan hx2;refine qbW qa 2 h Z (h.sl 0 Z).1 (h.sl 0 Z).2 Z Z Z Z Z Z Z Z Z g2 hx2 Z fun _ _ _ _ h=>X0 7 Z ?_;replace h:=h.pick [2] Z;exact rK ⟨_,_,_,_,_,_,F,rfl,h⟩ Z
 refine qq Z ?_;obtain rfl:=qb F;replace F:=hK3;refine X0 5 Z ?_;obtain rfl:=qb F;exact rO 0 h Z ⟨rfl,trivial⟩
def qbl (a_w:qG):Nat→Int→Option (Flow Bool Int)
 | 0,_=>U
 | n+1,i1=>
  bif decide (i1<(a_w.Aj.length:Int)) then
   (idx a_w.Aj i1).bind fun y1=>
   bif (i1==0) then
    bif (y1 != (-1)) then V (.ret false) else
    (idx a_w.Bv 0).bind fun y2=>
    bif (y2 != 0) then V (.ret false) else
    bif decide (i1 > 0) then
     (qaY n y1 0 (W64 (i1-1))).bind fun r1=>
     bif (!r1) then V (.ret false) else
     qbl a_w n (W64 (i1+1))
    else
     qbl a_w n (W64 (i1+1))
   else
    bif decide (i1 > 0) then
     (qaY n y1 0 (W64 (i1-1))).bind fun r2=>
     bif (!r2) then V (.ret false) else
     qbl a_w n (W64 (i1+1))
    else
     qbl a_w n (W64 (i1+1))
  else
   V (.nxt i1)
def qhR (n:Nat)(a_w:qG):Option Bool:=
 (qbl a_w n 0).bind fun o=>match o with
 | .ret r=>V r
 | .nxt _=>
  V true
theorem qnY {a_w:qG}(ha1:Ro w a_w cs1){r:Bool}(F:qhR n a_w=V r):RetV prog 232 [GoT.v qG cs1] w r:=by
 obtain⟨p1,k1,p2,k2,p3,k3,p4,k4,rfl,s1,s2,_,_⟩:=qaO ha1;refine zV 38 func232 Z fun h=>zSR (qx h Z Z fun _ bb1 h=>X1 10 0 h Z ?_);obtain⟨o1,F,hK1⟩:=qc F;refine qn (rL (fun m e w'=>∃(i1:Int),qbl a_w m i1=V o1∧e=[(1,.pointer (V ⟨bb1,0,U⟩)),(6,.slice p1 a_w.Aj.length k1),(7,.int .i64 (a_w.Aj.length:Int)),(8,.int .i64 i1)]∧SH w w' [Ch.box bb1 (qg5 a_w p1 p2 p3 p4 k1 k2 k3 k4) 210]) n ⟨_,F,rfl,h⟩ Z ?_);rintro m1 _ _ ⟨i1,F,rfl,h⟩;rcases m1 with _|m1
 ·cases F
 refine X0 5 Z (qh Z F ?_ ?_)<;>intro F
 ·refine X0 6 Z ?_;obtain⟨_,_,F,he1,_,_,_,_,hp1,hq1,rfl,hc2⟩:=s1.ix F;refine zxe hp1 hq1 he1 Z (zc 0 (hc2.below h.below) Z (X0 8 Z (qm (t:=15) F Z ?_ ?_)))<;>intro F
  ·refine X0 6 Z (qm (t:=18) F Z ?_ ?_)<;>intro F
   ·refine X0 20 Z (qfQ Z Z (X0 4 Z ?_));obtain rfl:=qb F;replace F:=hK1;exact rb h F Z
   refine X1 5 0 h Z ?_;obtain⟨_,_,F,he2,_,_,_,_,hp2,hq2,rfl,hc3⟩:=s2.ix F;refine zxe hp2 hq2 he2 Z (X0 1 Z (zc 0 (hc3.below h.below) Z (X0 6 Z (qm (t:=26) F Z ?_ ?_))))<;>intro F
   ·refine X0 11 Z (qfQ Z Z (X0 4 Z ?_));obtain rfl:=qb F;replace F:=hK1;exact rb h F Z
   refine X0 6 Z (qm (t:=29) F Z ?_ ?_)<;>intro F
   ·refine X0 7 Z (zcB h F qaN Z fun _ _ h F=>X0 6 Z (qh Z F ?_ ?_))<;>intro F
    ·refine X0 4 Z ?_;obtain rfl:=qb F;replace F:=hK1;exact rb h F Z
    exact X0 6 Z (rK ⟨_,F,rfl,h⟩ Z)
   exact X0 9 Z (qdi Z Z (X0 6 Z (rK ⟨_,F,rfl,h⟩ Z)))
  refine X0 17 Z (qm (t:=29) F Z ?_ ?_)<;>intro F
  ·refine X0 7 Z (zcB h F qaN Z fun _ _ h F=>X0 6 Z (qh Z F ?_ ?_))<;>intro F
   ·refine X0 4 Z ?_;obtain rfl:=qb F;replace F:=hK1;exact rb h F Z
   exact X0 6 Z (rK ⟨_,F,rfl,h⟩ Z)
  exact X0 9 Z (qdi Z Z (X0 6 Z (rK ⟨_,F,rfl,h⟩ Z)))
 refine qq Z ?_;obtain rfl:=qb F;replace F:=hK1;exact X0 4 Z (rb h F Z)
def qlw (n:Nat)(a_w:qG)(sinks:Int):Option Bool:=
 (qaL n a_w.Aj).bind fun r1=>
 (qaY n r1 1 8).bind fun r2=>
 bif r2 then
  (qaL n a_w.Bv).bind fun r3=>
  bif (r3==r1) then
   (qaL n a_w.Br).bind fun r4=>
   bif (r4==r1) then
    (qhR n a_w).bind fun r5=>
    bif r5 then
     (qcq n a_w.Bv 0 1000).bind fun r6=>
     bif r6 then
      (qcq n a_w.Br 0 500).bind fun r7=>
      bif r7 then
       (qaL n a_w.Bi).bind fun r8=>
       bif (r8==sinks) then
        (qcq n a_w.Bi 0 (W64 (r1-1))).bind fun r9=>
        V r9
       else
        V false
      else
       V false
     else
      V false
    else
     V false
   else
    V false
  else
   V false
 else
  V false
theorem qq3 {a_w:qG}{sinks:Int}(ha1:Ro w a_w cs1){r:Bool}(F:qlw n a_w sinks=V r):RetV prog 163 [GoT.v qG cs1,.int .i64 sinks] w r:=by
 obtain⟨_,_,_,_,_,_,_,_,rfl,s1,s2,s3,s4⟩:=qaO ha1;refine zV 53 func163 Z fun h=>zSR (qx h Z Z fun _ _ h=>X1 6 0 h Z (zcI h F (qbD ⟨_,_,rfl,(h.oldS s1)⟩) Z fun _ _ h F=>X0 5 Z (zcB h F qaN Z fun _ _ h F=>zp1 Z (qm (t:=11) F Z ?_ ?_))))<;>intro F
 ·refine X1 5 0 h Z (zcI h F (qbD ⟨_,_,rfl,(h.oldS s2)⟩) Z fun _ _ h F=>X0 6 Z (qm (t:=18) F Z ?_ ?_))<;>intro F
  ·refine X1 5 0 h Z (zcI h F (qbD ⟨_,_,rfl,(h.oldS s3)⟩) Z fun _ _ h F=>X0 6 Z (qm (t:=25) F Z ?_ ?_))<;>intro F
   ·refine X1 3 0 h Z (zcB h F (qnY (h.old ha1)) Z fun _ _ h F=>zp2 Z (qm (t:=29) F Z ?_ ?_))<;>intro F
    ·refine X1 5 0 h Z (zcB h F (qcW ⟨_,_,rfl,(h.oldS s2)⟩) Z fun _ _ h F=>zp2 Z (qm (t:=34) F Z ?_ ?_))<;>intro F
     ·refine X1 5 0 h Z (zcB h F (qcW ⟨_,_,rfl,(h.oldS s3)⟩) Z fun _ _ h F=>zp2 Z (qm (t:=39) F Z ?_ ?_))<;>intro F
      ·refine X1 5 0 h Z (zcI h F (qbD ⟨_,_,rfl,(h.oldS s4)⟩) Z fun _ _ h F=>X0 6 Z (qm (t:=46) F Z ?_ ?_))<;>intro F
       ·exact X1 9 0 h Z (zcB h F (qcW ⟨_,_,rfl,(h.oldS s4)⟩) Z fun _ _ h F=>X0 3 Z (rb h F Z))
       exact X0 8 Z (rb h F Z)
      exact X0 15 Z (rb h F Z)
     exact X0 20 Z (rb h F Z)
    exact X0 25 Z (rb h F Z)
   exact X0 29 Z (rb h F Z)
  exact X0 36 Z (rb h F Z)
 exact X0 43 Z (rb h F Z)
def qe8 (b:qd)(x2:(List Int)):Nat→Int→Option (Flow Bool Int)
 | 0,_=>U
 | n+1,i2=>
  bif decide (i2<(b.Ac.length:Int)) then
   (idx b.Ac i2).bind fun y4=>
   (idx x2 i2).bind fun y5=>
   (qlw n y4 y5).bind fun r2=>
   bif (!r2) then V (.ret false) else
   qe8 b x2 n (W64 (i2+1))
  else
   V (.nxt i2)
def qdg (r1:(List Tplace)):Nat→(List Int)→Int→Option ((List Int)×Int)
 | 0,_,_=>U
 | n+1,x2,i1=>
  bif decide (i1<(r1.length:Int)) then
   (idx r1 i1).bind fun y1=>
   bif (!y1.drives) then
    (idx x2 y1.net).bind fun y2=>
    (idx x2 y1.net).bind fun _=>
    qdg r1 n (setS x2 y1.net (W64 (y2+1))) (W64 (i1+1))
   else
    qdg r1 n x2 (W64 (i1+1))
  else
   V (x2,i1)
def qiP (n:Nat)(b:qd):Option Bool:=
 (
  (qjw n (⟨b.Ap.Am⟩:qr) (⟨b.Aa.Ab,b.Aa.Ah,b.Aa.Af⟩:qe)).bind fun r3=>
  bif (!r3) then V true else
  V ((b.Ac.length:Int) != (b.Aa.Ah.length:Int))).bind fun b1=>
 bif b1 then V false else
 (mkS (b.Ac.length:Int) (0:Int)).bind fun x1=>
 (qcC n (⟨b.Aa.Ab,b.Aa.Ah,b.Aa.Af⟩:qe)).bind fun r1=>
 (qdg r1 n x1 0).bind fun o=>match o with
 | (x2,_)=>
  (qe8 b x2 n 0).bind fun o=>match o with
  | .ret r=>V r
  | .nxt _=>
   V true
theorem qqr {b:qd}(ha1:Ro w b cs1){r:Bool}(F:qiP n b=V r):RetV prog 85 [GoT.v qd cs1] w r:=by
 obtain⟨p1,k1,p2,k2,p3,k3,p4,k4,p5,k5,rfl,s1,s2,s3,s4,s5⟩:=qM ha1;refine zV 63 func85 Z fun h=>zSR (qx h Z Z fun _ bb1 h=>X0 4 Z ?_);obtain⟨KF1,hKF1,_,F,hK3⟩:=bindE F;refine qbe (fun e w'=>∃(b1:Bool),KF1 b1=V r∧e=[(1,.pointer (V ⟨bb1,0,U⟩)),(23,.bool b1)]∧SH w w' [Ch.box bb1 (qT b p1 p2 p3 p4 p5 k1 k2 k3 k4 k5) 53]) ?_ ?_
 ·refine X2 5 0 0 h Z (zcB h F (qpk (qep _ (h.oldS s1)) (qao _ (h.oldS s2) (h.oldS s3) (h.oldS s4))) Z fun _ _ h F=>zp2 Z (qm (t:=14) F Z ?_ ?_))<;>intro F
  ·refine X0 10 Z ?_;obtain rfl:=qb F;exact rG ⟨_,hK3,rfl,h⟩ Z
  refine X2 18 0 0 h Z ?_;obtain rfl:=qb F;exact rG ⟨_,hK3,rfl,h⟩ Z
 rintro _ _ ⟨b1,F,rfl,h⟩;subst hKF1;refine qh Z F ?_ ?_<;>intro F
 ·exact X0 4 Z (rb h F Z)
 refine X1 6 0 h Z ?_;obtain⟨x1,hx1,F⟩:=qc F;obtain⟨g1,g2,hx1⟩:=qac hx1;refine qaw qa Int h Z Z Z Z Z Z Z Z Z g1 g2 hx1 Z fun _ S1 p6 h=>X1 7 1 h Z (zcL h F (qe2 (qao _ (h.oldS s2) (h.oldS s3) (h.oldS s4))) Z fun r1 _ S2 p7 k6 h F=>X0 3 Z ?_);obtain⟨o1,F,hK1⟩:=qc F;refine qn (rL (fun m e w'=>∃(x2:(List Int)) (i1:Int),qdg r1 m x2 i1=V o1∧e=[(1,.pointer (V ⟨bb1,0,U⟩)),(3,.slice p6 x1.length x1.length),(30,.slice p7 r1.length k6),(31,.int .i64 (r1.length:Int)),(32,.int .i64 i1)]∧SH w w' [Ch.own S2 (r1:List Tplace) [.slice p7 r1.length k6],Ch.own S1 (x2:List Int) [.slice p6 x1.length x1.length],Ch.box bb1 (qT b p1 p2 p3 p4 p5 k1 k2 k3 k4 k5) 53]) n ⟨_,_,F,rfl,h⟩ Z ?_);rintro m1 _ _ ⟨x2,i1,F,rfl,h⟩;rcases m1 with _|m1
 ·cases F
 refine X0 5 Z (qh Z F ?_ ?_)<;>intro F
 ·refine zKSBSR ?_;obtain⟨_,_,F,he1,_,_,_,_,hp1,hq1,hr2,hc3⟩:=(h.sl 0 Z).1.ix F;obtain rfl:=qfk hr2;refine zx hp1 hq1 ⟨he1.1,qC he1.2.1 (h.sl 0 Z).2⟩ Z (zc 0 hc3 Z (qp qa h Z Z Z fun _ _ h=>zs 0 h Z fun _ h=>X1 7 0 h Z (qh Z F ?_ ?_)))<;>intro F
  ·refine X1 4 0 h Z ?_;obtain⟨y2,_,F,he2,_,_,_,_,hp2,hq2,rfl,hc5⟩:=(h.sl 2 Z).1.ix F;refine zx hp2 hq2 ⟨he2.1,qC he2.2.1 (h.sl 2 Z).2⟩ Z (zc 0 hc5 Z (zp1 Z ?_));obtain⟨_,hy3,F,he3,_,_,_,_,hp3,hq3,rfl,hc6⟩:=(h.sl 2 Z).1.ix F;refine zx hp3 hq3 ⟨he3.1,qC he3.2.1 (h.sl 2 Z).2⟩ Z (qay qa 2 0 (W64 (y2+1)) h Z hy3 hp3 hq3 Z hc6 Z Z Z Z Z Z Z fun _ h=>X0 6 Z ?_);replace h:=h.pick [1,2,3] Z;exact rK ⟨_,_,F,rfl,h⟩ Z
  refine X0 6 Z ?_;replace h:=h.pick [1,2,3] Z;exact rK ⟨_,_,F,rfl,h⟩ Z
 refine qq Z ?_;obtain rfl:=qb F;replace F:=hK1;refine X1 8 2 h Z ?_;obtain⟨o2,F,hK2⟩:=qc F;refine qn ?_;replace h:=h.pick [1] Z;refine rL (fun m e w'=>∃(i2:Int),qe8 b x2 m i2=V o2∧e=[(3,.slice p6 x1.length x1.length),(48,.slice p5 b.Ac.length k5),(49,.int .i64 (b.Ac.length:Int)),(50,.int .i64 i2)]∧SH w w' [Ch.own S1 (x2:List Int) [.slice p6 x1.length x1.length]]) n ⟨_,F,rfl,h⟩ Z ?_;rintro m2 _ _ ⟨i2,F,rfl,h⟩;rcases m2 with _|m2
 ·cases F
 refine X0 5 Z (qh Z F ?_ ?_)<;>intro F
 ·refine X0 6 Z ?_;obtain⟨y4,_,F,he4,_,_,_,_,hp4,hq4,hr5,hc8⟩:=s5.ix F;obtain⟨_,_,_,_,_,_,_,_,rfl,s6,s7,s8,s9⟩:=qaO hr5;refine zxe hp4 hq4 he4 Z (zc 0 (hc8.below h.below) Z (qp qa h Z Z Z fun _ _ h=>zp1 Z (zs 0 h Z fun _ h=>zNS (rD (Y1 1 0 h Z ?_)))));refine zd2 Z ?_;obtain⟨_,_,F,he5,_,_,_,_,hp5,hq5,rfl,hc9⟩:=(h.sl 1 Z).1.ix F;refine zdx hp5 hq5 ⟨he5.1,qC he5.2.1 (h.sl 1 Z).2⟩ Z (zdc 0 hc9 Z ?_);obtain⟨r2,hr7,F⟩:=qc F;refine qbJ r2 (vsB _) (cB 163 Z) (fun _ hb=>qq3 (qkH y4 ((h.ext hb).oldS s6) ((h.ext hb).oldS s7) ((h.ext hb).oldS s8) ((h.ext hb).oldS s9)) hr7) Z Z Z Z (zd1 Z (dN h fun _ h=>qh Z F ?_ ?_))<;>intro F
  ·refine X0 4 Z ?_;obtain rfl:=qb F;replace F:=hK2;exact rb h F Z
  refine X0 6 Z ?_;replace h:=h.pick [1] Z;exact rK ⟨_,F,rfl,h⟩ Z
 refine qq Z ?_;obtain rfl:=qb F;replace F:=hK2;exact X0 4 Z (rb h F Z)
end Go.Fw


namespace Go.Fw
open Go
def qa1 (a:(List Int)):Nat:=a.length
theorem qes {a:(List Int)}(h:(rngL rngI) a)(w:qa1 a≤1048576):(okL okI) a:=
 ⟨by simp only[qa1] at w;omega,fun x hx=>h.2 x hx⟩
def qiz (x:qu):Prop:=(rngL rngI) x.Bl∧(rngL rngI) x.Bd∧(rngL rngI) x.Az
def qej (x:qu):Nat:=qa1 x.Bl+qa1 x.Bd+qa1 x.Az
structure qjb (x:qu):Prop where
 Bl:(okL okI) x.Bl
 Bd:(okL okI) x.Bd
 Az:(okL okI) x.Az
theorem qva {x:qu}(h:qiz x)(w:qej x≤1048576):qjb x:=⟨qes (h.1) (by simp only[qej] at w;omega),qes (h.2.1) (by simp only[qej] at w;omega),qes (h.2.2) (by simp only[qej] at w;omega)⟩
def qdm (a:(List qu)):Nat:=a.length+(a.map fun x=>qej x).sum
theorem qpW {a:(List qu)}(h:(rngL qiz) a)(w:qdm a≤1048576):(okL qjb) a:=
 ⟨by simp only[qdm] at w;omega,fun x hx=>qva (h.2 x hx) (by have:=qcX (wt:=fun x:qu=>qej x) hx;simp only[qdm] at w;omega)⟩
def qmp (x:qH):Prop:=rngI x.Aq∧rngI x.Bc∧rngI x.To∧rngI x.Bn∧(rngL qiz) x.Bk∧(rngL qiz) x.Ba
def qjj (x:qH):Nat:=qdm x.Bk+qdm x.Ba
structure qod (x:qH):Prop where
 Aq:okI x.Aq
 Bc:okI x.Bc
 To:okI x.To
 Bn:okI x.Bn
 Bk:(okL qjb) x.Bk
 Ba:(okL qjb) x.Ba
theorem qxE {x:qH}(h:qmp x)(w:qjj x≤1048576):qod x:=⟨h.1,h.2.1,h.2.2.1,h.2.2.2.1,qpW (h.2.2.2.2.1) (by simp only[qjj] at w;omega),qpW (h.2.2.2.2.2) (by simp only[qjj] at w;omega)⟩
theorem qgR {a:(List Int)}(h:qa1 a≤1048576):Ev (fun n=>qbM n a a) true:=by
 have hl:a.length≤1048576:=by simp only[qa1] at h;omega
 unfold qbM;exact Ev.ff (by simp) (Ev.bind (b:=.nxt (a.length:Int)) (qje (eqf:=fun _ x y=>V (!(x != y))) (fun x _=>Ev.now (by simp))
  (fun n=>by simp only[qf6,ql (je _),cond_false])
  (fun n j x hx=>by
   have hj:=(List.getElem?_eq_some_iff.1 hx).1;simp only[qf6,qj hj,cond_true,qas hx,jd,Bool.not_not,wS j])) .done)
theorem qw8 {a:qu}(h:qej a≤1048576):Ev (fun n=>qi3 n a a) true:=by
 unfold qi3;simp only[qej] at h;exact Ev.bind (qgR (a:=a.Bl) (by omega)) (Ev.ff Z (Ev.bind (qgR (a:=a.Bd) (by omega)) (Ev.ff Z (Ev.bind (qgR (a:=a.Az) (by omega)) (Ev.ff Z (.done))))))
theorem qr5 {a:(List qu)}(h:qdm a≤1048576):Ev (fun n=>qhY n a a) true:=by
 have hl:a.length≤1048576:=by simp only[qdm] at h;omega
 unfold qhY;exact Ev.ff (by simp) (Ev.bind (b:=.nxt (a.length:Int)) (qje (eqf:=qi3) (fun x hx=>qw8 (by have:=qcX (wt:=fun x:qu=>qej x) hx;simp only[qdm] at h;omega))
  (fun n=>by simp only[qfV,ql (je _),cond_false])
  (fun n j x hx=>by
   have hj:=(List.getElem?_eq_some_iff.1 hx).1;simp only[qfV,qj hj,cond_true,qas hx,jd,wS j])) .done)
theorem qzu {a:qH}(h:qjj a≤1048576):Ev (fun n=>qle n a a) true:=by
 unfold qle;simp only[qjj] at h;exact Ev.ff qaX (Ev.ff qaX (Ev.ff qaX (Ev.ff qaX (Ev.bind (qr5 (a:=a.Bk) (by omega)) (Ev.ff Z (Ev.bind (qr5 (a:=a.Ba) (by omega)) (Ev.ff Z (.done))))))))
def qhT (a:(List qH)):Nat:=a.length+(a.map fun x=>qjj x).sum
theorem qwm {a:(List qH)}(h:(rngL qmp) a)(w:qhT a≤1048576):(okL qod) a:=
 ⟨by simp only[qhT] at w;omega,fun x hx=>qxE (h.2 x hx) (by have:=qcX (wt:=fun x:qH=>qjj x) hx;simp only[qhT] at w;omega)⟩
theorem qx8 {a:(List qH)}(h:qhT a≤1048576):Ev (fun n=>qlE n a a) true:=by
 have hl:a.length≤1048576:=by simp only[qhT] at h;omega
 unfold qlE;exact Ev.ff (by simp) (Ev.bind (b:=.nxt (a.length:Int)) (qje (eqf:=qle) (fun x hx=>qzu (by have:=qcX (wt:=fun x:qH=>qjj x) hx;simp only[qhT] at h;omega))
  (fun n=>by simp only[qht,ql (je _),cond_false])
  (fun n j x hx=>by
   have hj:=(List.getElem?_eq_some_iff.1 hx).1;simp only[qht,qj hj,cond_true,qas hx,jd,wS j])) .done)
def qmv (x:qam):Prop:=rngS x.Au∧rngI x.Bu∧rngI x.Br∧rngB x.Bo
def qkK (x:qam):Nat:=x.Au.size
structure qm9 (x:qam):Prop where
 Au:okS x.Au
 Bu:okI x.Bu
 Br:okI x.Br
 Bo:okT x.Bo
theorem qxv {x:qam}(h:qmv x)(w:qkK x≤1048576):qm9 x:=⟨(by unfold okS;simp only[qkK] at w;omega),h.2.1,h.2.2.1,trivial⟩
def qhU (a:(List qam)):Nat:=a.length+(a.map fun x=>qkK x).sum
theorem qwq {a:(List qam)}(h:(rngL qmv) a)(w:qhU a≤1048576):(okL qm9) a:=
 ⟨by simp only[qhU] at w;omega,fun x hx=>qxv (h.2 x hx) (by have:=qcX (wt:=fun x:qam=>qkK x) hx;simp only[qhU] at w;omega)⟩
def qld (x:qv):Prop:=rngS x.Au∧rngI x.Aq∧(rngL qmv) x.As∧(rngL qmp) x.Ak∧(rngL rngI) x.Bm∧rngI x.Bz∧rngI x.Bs
def qfY (x:qv):Nat:=x.Au.size+qhU x.As+qhT x.Ak+qa1 x.Bm
structure qnH (x:qv):Prop where
 Au:okS x.Au
 Aq:okI x.Aq
 As:(okL qm9) x.As
 Ak:(okL qod) x.Ak
 Bm:(okL okI) x.Bm
 Bz:okI x.Bz
 Bs:okI x.Bs
theorem qvN {x:qv}(h:qld x)(w:qfY x≤1048576):qnH x:=⟨(by unfold okS;simp only[qfY] at w;omega),h.2.1,qwq (h.2.2.1) (by simp only[qfY] at w;omega),qwm (h.2.2.2.1) (by simp only[qfY] at w;omega),qes (h.2.2.2.2.1) (by simp only[qfY] at w;omega),h.2.2.2.2.2.1,h.2.2.2.2.2.2⟩
def qgp (a:(List qv)):Nat:=a.length+(a.map fun x=>qfY x).sum
theorem quW {a:(List qv)}(h:(rngL qld) a)(w:qgp a≤1048576):(okL qnH) a:=
 ⟨by simp only[qgp] at w;omega,fun x hx=>qvN (h.2 x hx) (by have:=qcX (wt:=fun x:qv=>qfY x) hx;simp only[qgp] at w;omega)⟩
def qlz (x:qr):Prop:=(rngL qld) x.Am
def qex (x:qr):Nat:=qgp x.Am
structure qis (x:qr):Prop where
 Am:(okL qnH) x.Am
theorem qs0 {x:qr}(h:qlz x)(w:qex x≤1048576):qis x:=⟨quW (h) (by simp only[qex] at w;omega)⟩
def qgx (x:qk):Prop:=rngS x.Au∧rngI x.Bp∧(rngL rngI) x.Ah
def qbR (x:qk):Nat:=x.Au.size+qa1 x.Ah
structure qno (x:qk):Prop where
 Au:okS x.Au
 Bp:okI x.Bp
 Ah:(okL okI) x.Ah
theorem qrw {x:qk}(h:qgx x)(w:qbR x≤1048576):qno x:=⟨(by unfold okS;simp only[qbR] at w;omega),h.2.1,qes (h.2.2) (by simp only[qbR] at w;omega)⟩
def qb1 (a:(List qk)):Nat:=a.length+(a.map fun x=>qbR x).sum
theorem qqH {a:(List qk)}(h:(rngL qgx) a)(w:qb1 a≤1048576):(okL qno) a:=
 ⟨by simp only[qb1] at w;omega,fun x hx=>qrw (h.2 x hx) (by have:=qcX (wt:=fun x:qk=>qbR x) hx;simp only[qb1] at w;omega)⟩
def qeL (a:(List ByteArray)):Nat:=a.length+(a.map fun x=>x.size).sum
theorem qs3 {a:(List ByteArray)}(_:(rngL rngS) a)(w:qeL a≤1048576):(okL okS) a:=
 ⟨by simp only[qeL] at w;omega,fun x hx=>(by unfold okS;have:=qcX (wt:=fun x:ByteArray=>x.size) hx;simp only[qeL] at w;omega)⟩
def qkZ (x:qW):Prop:=rngS x.Au∧rngI x.Bu∧rngI x.Bx
def qiq (x:qW):Nat:=x.Au.size
structure qsJ (x:qW):Prop where
 Au:okS x.Au
 Bu:okI x.Bu
 Bx:okI x.Bx
theorem qvP {x:qW}(h:qkZ x)(w:qiq x≤1048576):qsJ x:=⟨(by unfold okS;simp only[qiq] at w;omega),h.2.1,h.2.2⟩
def qgy (a:(List qW)):Nat:=a.length+(a.map fun x=>qiq x).sum
theorem qup {a:(List qW)}(h:(rngL qkZ) a)(w:qgy a≤1048576):(okL qsJ) a:=
 ⟨by simp only[qgy] at w;omega,fun x hx=>qvP (h.2 x hx) (by have:=qcX (wt:=fun x:qW=>qiq x) hx;simp only[qgy] at w;omega)⟩
def qmB (x:qe):Prop:=(rngL qgx) x.Ab∧(rngL rngS) x.Ah∧(rngL qkZ) x.Af
def qeU (x:qe):Nat:=qb1 x.Ab+qeL x.Ah+qgy x.Af
structure qkG (x:qe):Prop where
 Ab:(okL qno) x.Ab
 Ah:(okL okS) x.Ah
 Af:(okL qsJ) x.Af
theorem qto {x:qe}(h:qmB x)(w:qeU x≤1048576):qkG x:=⟨qqH (h.1) (by simp only[qeU] at w;omega),qs3 (h.2.1) (by simp only[qeU] at w;omega),qup (h.2.2) (by simp only[qeU] at w;omega)⟩
def qkP (x:qG):Prop:=(rngL rngI) x.Aj∧(rngL rngI) x.Bv∧(rngL rngI) x.Br∧(rngL rngI) x.Bi
def qga (x:qG):Nat:=qa1 x.Aj+qa1 x.Bv+qa1 x.Br+qa1 x.Bi
structure qos (x:qG):Prop where
 Aj:(okL okI) x.Aj
 Bv:(okL okI) x.Bv
 Br:(okL okI) x.Br
 Bi:(okL okI) x.Bi
theorem qv7 {x:qG}(h:qkP x)(w:qga x≤1048576):qos x:=⟨qes (h.1) (by simp only[qga] at w;omega),qes (h.2.1) (by simp only[qga] at w;omega),qes (h.2.2.1) (by simp only[qga] at w;omega),qes (h.2.2.2) (by simp only[qga] at w;omega)⟩
def qgB (a:(List qG)):Nat:=a.length+(a.map fun x=>qga x).sum
theorem quE {a:(List qG)}(h:(rngL qkP) a)(w:qgB a≤1048576):(okL qos) a:=
 ⟨by simp only[qgB] at w;omega,fun x hx=>qv7 (h.2 x hx) (by have:=qcX (wt:=fun x:qG=>qga x) hx;simp only[qgB] at w;omega)⟩
def qny (x:qd):Prop:=qlz x.Ap∧qmB x.Aa∧(rngL qkP) x.Ac
def qgl (x:qd):Nat:=qex x.Ap+qeU x.Aa+qgB x.Ac
structure qla (x:qd):Prop where
 Ap:qis x.Ap
 Aa:qkG x.Aa
 Ac:(okL qos) x.Ac
theorem qun {x:qd}(h:qny x)(w:qgl x≤1048576):qla x:=⟨qs0 (h.1) (by simp only[qgl] at w;omega),qto (h.2.1) (by simp only[qgl] at w;omega),quE (h.2.2) (by simp only[qgl] at w;omega)⟩
theorem qzM {a:qam}(_:qkK a≤1048576):Ev (fun n=>qkO n a a) true:=by
 unfold qkO;exact Ev.ff qkl (Ev.ff qaX (Ev.ff qaX (Ev.ff qta (.done))))
theorem qye {a:(List qam)}(h:qhU a≤1048576):Ev (fun n=>qly n a a) true:=by
 have hl:a.length≤1048576:=by simp only[qhU] at h;omega
 unfold qly;exact Ev.ff (by simp) (Ev.bind (b:=.nxt (a.length:Int)) (qje (eqf:=qkO) (fun x hx=>qzM (by have:=qcX (wt:=fun x:qam=>qkK x) hx;simp only[qhU] at h;omega))
  (fun n=>by simp only[qhw,ql (je _),cond_false])
  (fun n j x hx=>by
   have hj:=(List.getElem?_eq_some_iff.1 hx).1;simp only[qhw,qj hj,cond_true,qas hx,jd,wS j])) .done)
theorem qx7 {a:qv}(h:qfY a≤1048576):Ev (fun n=>qjU n a a) true:=by
 unfold qjU;simp only[qfY] at h;exact Ev.ff qkl (Ev.ff qaX (Ev.bind (qye (a:=a.As) (by omega)) (Ev.ff Z (Ev.bind (qx8 (a:=a.Ak) (by omega)) (Ev.ff Z (Ev.bind (qgR (a:=a.Bm) (by omega)) (Ev.ff Z (Ev.ff qaX (Ev.ff qaX (.done))))))))))
theorem qxh {a:(List qv)}(h:qgp a≤1048576):Ev (fun n=>qkz n a a) true:=by
 have hl:a.length≤1048576:=by simp only[qgp] at h;omega
 unfold qkz;exact Ev.ff (by simp) (Ev.bind (b:=.nxt (a.length:Int)) (qje (eqf:=qjU) (fun x hx=>qx7 (by have:=qcX (wt:=fun x:qv=>qfY x) hx;simp only[qgp] at h;omega))
  (fun n=>by simp only[qgM,ql (je _),cond_false])
  (fun n j x hx=>by
   have hj:=(List.getElem?_eq_some_iff.1 hx).1;simp only[qgM,qj hj,cond_true,qas hx,jd,wS j])) .done)
theorem qu9 {a:qr}(h:qex a≤1048576):Ev (fun n=>qiW n a a) true:=by
 unfold qiW;simp only[qex] at h;exact Ev.bind (qxh (a:=a.Am) (by omega)) (Ev.ff Z (.done))
theorem qtE {a:qk}(h:qbR a≤1048576):Ev (fun n=>qgC n a a) true:=by
 unfold qgC;simp only[qbR] at h;exact Ev.ff qkl (Ev.ff qaX (Ev.bind (qgR (a:=a.Ah) (by omega)) (Ev.ff Z (.done))))
theorem qsM {a:(List qk)}(h:qb1 a≤1048576):Ev (fun n=>qhF n a a) true:=by
 have hl:a.length≤1048576:=by simp only[qb1] at h;omega
 unfold qhF;exact Ev.ff (by simp) (Ev.bind (b:=.nxt (a.length:Int)) (qje (eqf:=qgC) (fun x hx=>qtE (by have:=qcX (wt:=fun x:qk=>qbR x) hx;simp only[qb1] at h;omega))
  (fun n=>by simp only[qea,ql (je _),cond_false])
  (fun n j x hx=>by
   have hj:=(List.getElem?_eq_some_iff.1 hx).1;simp only[qea,qj hj,cond_true,qas hx,jd,wS j])) .done)
theorem quj {a:(List ByteArray)}(h:qeL a≤1048576):Ev (fun n=>qiM n a a) true:=by
 have hl:a.length≤1048576:=by simp only[qeL] at h;omega
 unfold qiM;exact Ev.ff (by simp) (Ev.bind (b:=.nxt (a.length:Int)) (qje (eqf:=fun _ x y=>V (!(x.toList != y.toList))) (fun x _=>Ev.now (by simp))
  (fun n=>by simp only[qfC,ql (je _),cond_false])
  (fun n j x hx=>by
   have hj:=(List.getElem?_eq_some_iff.1 hx).1;simp only[qfC,qj hj,cond_true,qas hx,jd,Bool.not_not,wS j])) .done)
theorem qyS {a:qW}(_:qiq a≤1048576):Ev (fun n=>qjN n a a) true:=by
 unfold qjN;exact Ev.ff qkl (Ev.ff qaX (Ev.ff qaX (.done)))
theorem qxL {a:(List qW)}(h:qgy a≤1048576):Ev (fun n=>qkC n a a) true:=by
 have hl:a.length≤1048576:=by simp only[qgy] at h;omega
 unfold qkC;exact Ev.ff (by simp) (Ev.bind (b:=.nxt (a.length:Int)) (qje (eqf:=qjN) (fun x hx=>qyS (by have:=qcX (wt:=fun x:qW=>qiq x) hx;simp only[qgy] at h;omega))
  (fun n=>by simp only[qgD,ql (je _),cond_false])
  (fun n j x hx=>by
   have hj:=(List.getElem?_eq_some_iff.1 hx).1;simp only[qgD,qj hj,cond_true,qas hx,jd,wS j])) .done)
theorem qvF {a:qe}(h:qeU a≤1048576):Ev (fun n=>qjL n a a) true:=by
 unfold qjL;simp only[qeU] at h;exact Ev.bind (qsM (a:=a.Ab) (by omega)) (Ev.ff Z (Ev.bind (quj (a:=a.Ah) (by omega)) (Ev.ff Z (Ev.bind (qxL (a:=a.Af) (by omega)) (Ev.ff Z (.done))))))
theorem qyn {a:qG}(h:qga a≤1048576):Ev (fun n=>qjR n a a) true:=by
 unfold qjR;simp only[qga] at h;exact Ev.bind (qgR (a:=a.Aj) (by omega)) (Ev.ff Z (Ev.bind (qgR (a:=a.Bv) (by omega)) (Ev.ff Z (Ev.bind (qgR (a:=a.Br) (by omega)) (Ev.ff Z (Ev.bind (qgR (a:=a.Bi) (by omega)) (Ev.ff Z (.done))))))))
theorem qwT {a:(List qG)}(h:qgB a≤1048576):Ev (fun n=>qks n a a) true:=by
 have hl:a.length≤1048576:=by simp only[qgB] at h;omega
 unfold qks;exact Ev.ff (by simp) (Ev.bind (b:=.nxt (a.length:Int)) (qje (eqf:=qjR) (fun x hx=>qyn (by have:=qcX (wt:=fun x:qG=>qga x) hx;simp only[qgB] at h;omega))
  (fun n=>by simp only[qgG,ql (je _),cond_false])
  (fun n j x hx=>by
   have hj:=(List.getElem?_eq_some_iff.1 hx).1;simp only[qgG,qj hj,cond_true,qas hx,jd,wS j])) .done)
theorem qxb {a:qd}(h:qgl a≤1048576):Ev (fun n=>qkA n a a) true:=by
 unfold qkA;simp only[qgl] at h;exact Ev.bind (qu9 (a:=a.Ap) (by omega)) (Ev.ff Z (Ev.bind (qvF (a:=a.Aa) (by omega)) (Ev.ff Z (Ev.bind (qwT (a:=a.Ac) (by omega)) (Ev.ff Z (.done))))))
theorem qhP {a:(List Int)}{left:Int}(h:(rngL rngI) a)(h0:0≤left)(h1:left≤1048576):Sz (fun n=>qcp n a left) (fun r=>r=left-(qa1 a:Int)):=
 Sz.less h0 h1 (by omega) (by have:=h.1;omega) (fun _=>rfl)
theorem qxO {a:qu}{left:Int}(h:qiz a)(h0:0≤left)(h1:left≤1048576):Sz (fun n=>qiK n a left) (fun r=>r=left-(qej a:Int)):=by
 unfold qiK;obtain⟨h_0,h_1,h_2⟩:=h;exact Sz.step (qhP (a:=a.Bl) h_0 (by omega) (by omega)) fun r0 p0 q0=>Sz.step (qhP (a:=a.Bd) h_1 (by omega) (by omega)) fun r1 p1 q1=>Sz.step (qhP (a:=a.Az) h_2 (by omega) (by omega)) fun r2 p2 q2=>Sz.done p2 (by simp only[qej];omega)
theorem qrS {a:(List qu)}{left:Int}(h:(rngL qiz) a)(h0:0≤left)(h1:left≤1048576):Sz (fun n=>qjB n a left) (fun r=>r=left-(qdm a:Int)):=
 Sz.list (Lf:=qeM a) (wt:=fun x:qu=>qej x) (el:=qiK) h0 h1 h.1 (fun x hx left p q=>qxO (h.2 x hx) p q)
  (fun acc n=>by simp only[qeM,ql (je _),cond_false])
  (fun acc n j x hx=>by
   have hj:=(List.getElem?_eq_some_iff.1 hx).1;have hl:=h.1;simp only[qeM,qj hj,cond_true,qas hx,jd,wS j])
  (fun _=>rfl)
theorem qzp {a:qH}{left:Int}(h:qmp a)(h0:0≤left)(h1:left≤1048576):Sz (fun n=>qkS n a left) (fun r=>r=left-(qjj a:Int)):=by
 unfold qkS;obtain⟨h_0,h_1,h_2,h_3,h_4,h_5⟩:=h;exact Sz.step (qrS (a:=a.Bk) h_4 (by omega) (by omega)) fun r0 p0 q0=>Sz.step (qrS (a:=a.Ba) h_5 (by omega) (by omega)) fun r1 p1 q1=>Sz.done p1 (by simp only[qjj];omega)
theorem qx0 {a:(List qH)}{left:Int}(h:(rngL qmp) a)(h0:0≤left)(h1:left≤1048576):Sz (fun n=>qne n a left) (fun r=>r=left-(qhT a:Int)):=
 Sz.list (Lf:=qfT a) (wt:=fun x:qH=>qjj x) (el:=qkS) h0 h1 h.1 (fun x hx left p q=>qzp (h.2 x hx) p q)
  (fun acc n=>by simp only[qfT,ql (je _),cond_false])
  (fun acc n j x hx=>by
   have hj:=(List.getElem?_eq_some_iff.1 hx).1;have hl:=h.1;simp only[qfT,qj hj,cond_true,qas hx,jd,wS j])
  (fun _=>rfl)
theorem qzL {a:qam}{left:Int}(h:qmv a)(h0:0≤left)(h1:left≤1048576):Sz (fun n=>qk3 n a left) (fun r=>r=left-(qkK a:Int)):=by
 unfold qk3;obtain⟨h_0,h_1,h_2,h_3⟩:=h;exact Sz.strStep h_0 (by omega) (by omega) fun p0 q0=>Sz.done p0 (by simp only[qkK];omega)
theorem qxS {a:(List qam)}{left:Int}(h:(rngL qmv) a)(h0:0≤left)(h1:left≤1048576):Sz (fun n=>qm7 n a left) (fun r=>r=left-(qhU a:Int)):=
 Sz.list (Lf:=qfW a) (wt:=fun x:qam=>qkK x) (el:=qk3) h0 h1 h.1 (fun x hx left p q=>qzL (h.2 x hx) p q)
  (fun acc n=>by simp only[qfW,ql (je _),cond_false])
  (fun acc n j x hx=>by
   have hj:=(List.getElem?_eq_some_iff.1 hx).1;have hl:=h.1;simp only[qfW,qj hj,cond_true,qas hx,jd,wS j])
  (fun _=>rfl)
theorem qyD {a:qv}{left:Int}(h:qld a)(h0:0≤left)(h1:left≤1048576):Sz (fun n=>qj7 n a left) (fun r=>r=left-(qfY a:Int)):=by
 unfold qj7;obtain⟨h_0,h_1,h_2,h_3,h_4,h_5,h_6⟩:=h;exact Sz.strStep h_0 (by omega) (by omega) fun p0 q0=>Sz.step (qxS (a:=a.As) h_2 (by omega) (by omega)) fun r1 p1 q1=>Sz.step (qx0 (a:=a.Ak) h_3 (by omega) (by omega)) fun r2 p2 q2=>Sz.step (qhP (a:=a.Bm) h_4 (by omega) (by omega)) fun r3 p3 q3=>Sz.done p3 (by simp only[qfY];omega)
theorem qxc {a:(List qv)}{left:Int}(h:(rngL qld) a)(h0:0≤left)(h1:left≤1048576):Sz (fun n=>qmo n a left) (fun r=>r=left-(qgp a:Int)):=
 Sz.list (Lf:=qe7 a) (wt:=fun x:qv=>qfY x) (el:=qj7) h0 h1 h.1 (fun x hx left p q=>qyD (h.2 x hx) p q)
  (fun acc n=>by simp only[qe7,ql (je _),cond_false])
  (fun acc n j x hx=>by
   have hj:=(List.getElem?_eq_some_iff.1 hx).1;have hl:=h.1;simp only[qe7,qj hj,cond_true,qas hx,jd,wS j])
  (fun _=>rfl)
theorem quA {a:qr}{left:Int}(h:qlz a)(h0:0≤left)(h1:left≤1048576):Sz (fun n=>qiY n a left) (fun r=>r=left-(qex a:Int)):=by
 unfold qiY;have h_0:=h;exact Sz.step (qxc (a:=a.Am) h_0 (by omega) (by omega)) fun r0 p0 q0=>Sz.done p0 (by simp only[qex];omega)
theorem qtK {a:qk}{left:Int}(h:qgx a)(h0:0≤left)(h1:left≤1048576):Sz (fun n=>qgH n a left) (fun r=>r=left-(qbR a:Int)):=by
 unfold qgH;obtain⟨h_0,h_1,h_2⟩:=h;exact Sz.strStep h_0 (by omega) (by omega) fun p0 q0=>Sz.step (qhP (a:=a.Ah) h_2 (by omega) (by omega)) fun r1 p1 q1=>Sz.done p1 (by simp only[qbR];omega)
theorem qsO {a:(List qk)}{left:Int}(h:(rngL qgx) a)(h0:0≤left)(h1:left≤1048576):Sz (fun n=>qjo n a left) (fun r=>r=left-(qb1 a:Int)):=
 Sz.list (Lf:=qc4 a) (wt:=fun x:qk=>qbR x) (el:=qgH) h0 h1 h.1 (fun x hx left p q=>qtK (h.2 x hx) p q)
  (fun acc n=>by simp only[qc4,ql (je _),cond_false])
  (fun acc n j x hx=>by
   have hj:=(List.getElem?_eq_some_iff.1 hx).1;have hl:=h.1;simp only[qc4,qj hj,cond_true,qas hx,jd,wS j])
  (fun _=>rfl)
theorem quI {a:(List ByteArray)}{left:Int}(h:(rngL rngS) a)(h0:0≤left)(h1:left≤1048576):Sz (fun n=>qkU n a left) (fun r=>r=left-(qeL a:Int)):=
 Sz.list (Lf:=qdU a) (wt:=fun x:ByteArray=>x.size) (el:=fun _ (x:ByteArray) acc=>V (W64 (acc-(x.size:Int)))) h0 h1 h.1 (fun x hx left p q=>Sz.str (h.2 x hx) p q)
  (fun acc n=>by simp only[qdU,ql (je _),cond_false])
  (fun acc n j x hx=>by
   have hj:=(List.getElem?_eq_some_iff.1 hx).1;have hl:=h.1;simp only[qdU,qj hj,cond_true,qas hx,jd,wS j])
  (fun _=>rfl)
theorem qyA {a:qW}{left:Int}(h:qkZ a)(h0:0≤left)(h1:left≤1048576):Sz (fun n=>qjY n a left) (fun r=>r=left-(qiq a:Int)):=by
 unfold qjY;obtain⟨h_0,h_1,h_2⟩:=h;exact Sz.strStep h_0 (by omega) (by omega) fun p0 q0=>Sz.done p0 (by simp only[qiq];omega)
theorem qxk {a:(List qW)}{left:Int}(h:(rngL qkZ) a)(h0:0≤left)(h1:left≤1048576):Sz (fun n=>qmn n a left) (fun r=>r=left-(qgy a:Int)):=
 Sz.list (Lf:=qfb a) (wt:=fun x:qW=>qiq x) (el:=qjY) h0 h1 h.1 (fun x hx left p q=>qyA (h.2 x hx) p q)
  (fun acc n=>by simp only[qfb,ql (je _),cond_false])
  (fun acc n j x hx=>by
   have hj:=(List.getElem?_eq_some_iff.1 hx).1;have hl:=h.1;simp only[qfb,qj hj,cond_true,qas hx,jd,wS j])
  (fun _=>rfl)
theorem qv9 {a:qe}{left:Int}(h:qmB a)(h0:0≤left)(h1:left≤1048576):Sz (fun n=>qjy n a left) (fun r=>r=left-(qeU a:Int)):=by
 unfold qjy;obtain⟨h_0,h_1,h_2⟩:=h;exact Sz.step (qsO (a:=a.Ab) h_0 (by omega) (by omega)) fun r0 p0 q0=>Sz.step (quI (a:=a.Ah) h_1 (by omega) (by omega)) fun r1 p1 q1=>Sz.step (qxk (a:=a.Af) h_2 (by omega) (by omega)) fun r2 p2 q2=>Sz.done p2 (by simp only[qeU];omega)
theorem qxR {a:qG}{left:Int}(h:qkP a)(h0:0≤left)(h1:left≤1048576):Sz (fun n=>qj1 n a left) (fun r=>r=left-(qga a:Int)):=by
 unfold qj1;obtain⟨h_0,h_1,h_2,h_3⟩:=h;exact Sz.step (qhP (a:=a.Aj) h_0 (by omega) (by omega)) fun r0 p0 q0=>Sz.step (qhP (a:=a.Bv) h_1 (by omega) (by omega)) fun r1 p1 q1=>Sz.step (qhP (a:=a.Br) h_2 (by omega) (by omega)) fun r2 p2 q2=>Sz.step (qhP (a:=a.Bi) h_3 (by omega) (by omega)) fun r3 p3 q3=>Sz.done p3 (by simp only[qga];omega)
theorem qw0 {a:(List qG)}{left:Int}(h:(rngL qkP) a)(h0:0≤left)(h1:left≤1048576):Sz (fun n=>qmE n a left) (fun r=>r=left-(qgB a:Int)):=
 Sz.list (Lf:=qe5 a) (wt:=fun x:qG=>qga x) (el:=qj1) h0 h1 h.1 (fun x hx left p q=>qxR (h.2 x hx) p q)
  (fun acc n=>by simp only[qe5,ql (je _),cond_false])
  (fun acc n j x hx=>by
   have hj:=(List.getElem?_eq_some_iff.1 hx).1;have hl:=h.1;simp only[qe5,qj hj,cond_true,qas hx,jd,wS j])
  (fun _=>rfl)
theorem qxe {a:qd}{left:Int}(h:qny a)(h0:0≤left)(h1:left≤1048576):Sz (fun n=>qkm n a left) (fun r=>r=left-(qgl a:Int)):=by
 unfold qkm;obtain⟨h_0,h_1,h_2⟩:=h;exact Sz.step (quA (a:=a.Ap) h_0 (by omega) (by omega)) fun r0 p0 q0=>Sz.step (qv9 (a:=a.Aa) h_1 (by omega) (by omega)) fun r1 p1 q1=>Sz.step (qw0 (a:=a.Ac) h_2 (by omega) (by omega)) fun r2 p2 q2=>Sz.done p2 (by simp only[qgl];omega)
theorem qeI {a:(List Int)}(h:qa1 a≤1048576):Ev (fun n=>qaZ n a) a:=by
 have hl:a.length≤1048576:=by simp only[qa1] at h;omega
 unfold qaZ;exact Ev.bindN (qjD (by omega)) (Ev.bind (b:=(a,(a.length:Int))) (qku (cp:=fun _ x=>V x) (fun _ _=>.done)
  (fun acc n=>by simp only[qf2,ql (je _),cond_false])
  (fun acc n j x y hx hy=>by
   have hj:=(List.getElem?_eq_some_iff.1 hx).1;simp only[qf2,qj hj,cond_true,qas hx,qas hy,jd,wS j])) .done)
theorem qxm {a:qu}(h:qej a≤1048576):Ev (fun n=>qiS n a) a:=by
 unfold qiS;simp only[qej] at h;exact Ev.bind (qeI (a:=a.Bl) (by omega)) (Ev.bind (qeI (a:=a.Bd) (by omega)) (Ev.bind (qeI (a:=a.Az) (by omega)) (.done)))
theorem qrZ {a:(List qu)}(h:qdm a≤1048576):Ev (fun n=>qh8 n a) a:=by
 have hl:a.length≤1048576:=by simp only[qdm] at h;omega
 unfold qh8;exact Ev.bindN (qjD (by omega)) (Ev.bind (b:=(a,(a.length:Int))) (qku (cp:=qiS) (fun x hx=>qxm (by have:=qcX (wt:=fun x:qu=>qej x) hx;simp only[qdm] at h;omega))
  (fun acc n=>by simp only[qf8,ql (je _),cond_false])
  (fun acc n j x y hx hy=>by
   have hj:=(List.getElem?_eq_some_iff.1 hx).1;simp only[qf8,qj hj,cond_true,qas hx,qas hy,jd,wS j])) .done)
theorem qzw {a:qH}(h:qjj a≤1048576):Ev (fun n=>qk8 n a) a:=by
 unfold qk8;simp only[qjj] at h;exact Ev.bind (qrZ (a:=a.Bk) (by omega)) (Ev.bind (qrZ (a:=a.Ba) (by omega)) (.done))
theorem qxX {a:(List qH)}(h:qhT a≤1048576):Ev (fun n=>qls n a) a:=by
 have hl:a.length≤1048576:=by simp only[qhT] at h;omega
 unfold qls;exact Ev.bindN (qjD (by omega)) (Ev.bind (b:=(a,(a.length:Int))) (qku (cp:=qk8) (fun x hx=>qzw (by have:=qcX (wt:=fun x:qH=>qjj x) hx;simp only[qhT] at h;omega))
  (fun acc n=>by simp only[qho,ql (je _),cond_false])
  (fun acc n j x y hx hy=>by
   have hj:=(List.getElem?_eq_some_iff.1 hx).1;simp only[qho,qj hj,cond_true,qas hx,qas hy,jd,wS j])) .done)
theorem qzt {a:qam}(_:qkK a≤1048576):Ev (fun n=>qk2 n a) a:=by
 unfold qk2;exact .done
theorem qyH {a:(List qam)}(h:qhU a≤1048576):Ev (fun n=>qlI n a) a:=by
 have hl:a.length≤1048576:=by simp only[qhU] at h;omega
 unfold qlI;exact Ev.bindN (qjD (by omega)) (Ev.bind (b:=(a,(a.length:Int))) (qku (cp:=qk2) (fun x hx=>qzt (by have:=qcX (wt:=fun x:qam=>qkK x) hx;simp only[qhU] at h;omega))
  (fun acc n=>by simp only[qhp,ql (je _),cond_false])
  (fun acc n j x y hx hy=>by
   have hj:=(List.getElem?_eq_some_iff.1 hx).1;simp only[qhp,qj hj,cond_true,qas hx,qas hy,jd,wS j])) .done)
theorem qyK {a:qv}(h:qfY a≤1048576):Ev (fun n=>qjM n a) a:=by
 unfold qjM;simp only[qfY] at h;exact Ev.bind (qyH (a:=a.As) (by omega)) (Ev.bind (qxX (a:=a.Ak) (by omega)) (Ev.bind (qeI (a:=a.Bm) (by omega)) (.done)))
theorem qxp {a:(List qv)}(h:qgp a≤1048576):Ev (fun n=>qkj n a) a:=by
 have hl:a.length≤1048576:=by simp only[qgp] at h;omega
 unfold qkj;exact Ev.bindN (qjD (by omega)) (Ev.bind (b:=(a,(a.length:Int))) (qku (cp:=qjM) (fun x hx=>qyK (by have:=qcX (wt:=fun x:qv=>qfY x) hx;simp only[qgp] at h;omega))
  (fun acc n=>by simp only[qgL,ql (je _),cond_false])
  (fun acc n j x y hx hy=>by
   have hj:=(List.getElem?_eq_some_iff.1 hx).1;simp only[qgL,qj hj,cond_true,qas hx,qas hy,jd,wS j])) .done)
theorem quV {a:qr}(h:qex a≤1048576):Ev (fun n=>qiU n a) a:=by
 unfold qiU;simp only[qex] at h;exact Ev.bind (qxp (a:=a.Am) (by omega)) (.done)
theorem qt5 {a:qk}(h:qbR a≤1048576):Ev (fun n=>qgN n a) a:=by
 unfold qgN;simp only[qbR] at h;exact Ev.bind (qeI (a:=a.Ah) (by omega)) (.done)
theorem qtg {a:(List qk)}(h:qb1 a≤1048576):Ev (fun n=>qhD n a) a:=by
 have hl:a.length≤1048576:=by simp only[qb1] at h;omega
 unfold qhD;exact Ev.bindN (qjD (by omega)) (Ev.bind (b:=(a,(a.length:Int))) (qku (cp:=qgN) (fun x hx=>qt5 (by have:=qcX (wt:=fun x:qk=>qbR x) hx;simp only[qb1] at h;omega))
  (fun acc n=>by simp only[qed,ql (je _),cond_false])
  (fun acc n j x y hx hy=>by
   have hj:=(List.getElem?_eq_some_iff.1 hx).1;simp only[qed,qj hj,cond_true,qas hx,qas hy,jd,wS j])) .done)
theorem quz {a:(List ByteArray)}(h:qeL a≤1048576):Ev (fun n=>qiV n a) a:=by
 have hl:a.length≤1048576:=by simp only[qeL] at h;omega
 unfold qiV;exact Ev.bindN (qjD (by omega)) (Ev.bind (b:=(a,(a.length:Int))) (qku (cp:=fun _ x=>V x) (fun _ _=>.done)
  (fun acc n=>by simp only[qfl,ql (je _),cond_false])
  (fun acc n j x y hx hy=>by
   have hj:=(List.getElem?_eq_some_iff.1 hx).1;simp only[qfl,qj hj,cond_true,qas hx,qas hy,jd,wS j])) .done)
theorem qyN {a:qW}(_:qiq a≤1048576):Ev (fun n=>qjX n a) a:=by
 unfold qjX;exact .done
theorem qwH {a:(List qW)}(h:qgy a≤1048576):Ev (fun n=>qkx n a) a:=by
 have hl:a.length≤1048576:=by simp only[qgy] at h;omega
 unfold qkx;exact Ev.bindN (qjD (by omega)) (Ev.bind (b:=(a,(a.length:Int))) (qku (cp:=qjX) (fun x hx=>qyN (by have:=qcX (wt:=fun x:qW=>qiq x) hx;simp only[qgy] at h;omega))
  (fun acc n=>by simp only[qgP,ql (je _),cond_false])
  (fun acc n j x y hx hy=>by
   have hj:=(List.getElem?_eq_some_iff.1 hx).1;simp only[qgP,qj hj,cond_true,qas hx,qas hy,jd,wS j])) .done)
theorem qvY {a:qe}(h:qeU a≤1048576):Ev (fun n=>qjF n a) a:=by
 unfold qjF;simp only[qeU] at h;exact Ev.bind (qtg (a:=a.Ab) (by omega)) (Ev.bind (quz (a:=a.Ah) (by omega)) (Ev.bind (qwH (a:=a.Af) (by omega)) (.done)))
theorem qyI {a:qG}(h:qga a≤1048576):Ev (fun n=>qjZ n a) a:=by
 unfold qjZ;simp only[qga] at h;exact Ev.bind (qeI (a:=a.Aj) (by omega)) (Ev.bind (qeI (a:=a.Bv) (by omega)) (Ev.bind (qeI (a:=a.Br) (by omega)) (Ev.bind (qeI (a:=a.Bi) (by omega)) (.done))))
theorem qxF {a:(List qG)}(h:qgB a≤1048576):Ev (fun n=>qkr n a) a:=by
 have hl:a.length≤1048576:=by simp only[qgB] at h;omega
 unfold qkr;exact Ev.bindN (qjD (by omega)) (Ev.bind (b:=(a,(a.length:Int))) (qku (cp:=qjZ) (fun x hx=>qyI (by have:=qcX (wt:=fun x:qG=>qga x) hx;simp only[qgB] at h;omega))
  (fun acc n=>by simp only[qgK,ql (je _),cond_false])
  (fun acc n j x y hx hy=>by
   have hj:=(List.getElem?_eq_some_iff.1 hx).1;simp only[qgK,qj hj,cond_true,qas hx,qas hy,jd,wS j])) .done)
theorem qoQ {a:qd}(h:qgl a≤1048576):Ev (fun n=>qgA n a) a:=by
 unfold qgA;simp only[qgl] at h;exact Ev.bind (quV (a:=a.Ap) (by omega)) (Ev.bind (qvY (a:=a.Aa) (by omega)) (Ev.bind (qxF (a:=a.Ac) (by omega)) (.done)))
end Go.Fw


namespace Go.Fw
open Go
set_option maxRecDepth 100000
theorem qdk {n:Nat}{x lo hi:Int}:qaq n x lo hi=V (inI x lo hi):=by
 simp only[qaq,qm4,qoR];rfl
theorem qey {n:Nat}{x lo hi:Int}:qaY n x lo hi=V (inI x lo hi):=by
 simp only[qaY,qm4,qoR];rfl
def bt (s:ByteArray)(j:Nat):Nat:=(s.data.toList.getD j 0).toNat
theorem qwM {s:ByteArray}{j:Nat}(h:j<s.size):atS s (j:Int)=V (bt s j:Int):=by
 have h':j<s.data.size:=h;have hl:j<s.data.toList.length:=by simpa using h'
 unfold atS;rw[if_pos (by omega),jq];have:s[j]?=V (s.data.toList.getD j 0):=by
  rw[getElem?_pos s j h,jC,ji hl]
  rfl
 rw[this]
 rfl
def letB (b:Nat):Bool:=decide (97≤b)&&decide (b≤122)
def digB (b:Nat):Bool:=decide (48≤b)&&decide (b≤57)
def chB (s:ByteArray)(j:Nat):Bool:=letB (bt s j) || digB (bt s j)&&decide (0<j)
def nameB (s:ByteArray):Bool:=(decide (1≤s.size)&&decide (s.size≤8))&&allN (chB s) s.size
theorem qmt {s:ByteArray}(h:okS s):Ev (fun n=>qgi n s) (nameB s):=by
 unfold okS at h;have hL:Ev (fun n=>qd0 s n 0) (bif allN (chB s) s.size then .nxt (s.size:Int) else .ret false):=by
  refine qfG ?_ (fun j hj X hX=>?_)
  ·exact Ev.succ (by simp only[qd0,ql (je _),cond_false];exact .done)
  ·refine Ev.succ ?_;simp only[qd0,qj hj,cond_true,qwM hj,jd,qm4,qoR,wS j];have e1:(decide ((bt s j:Int) ≥ 97)&&decide ((bt s j:Int)≤122))=letB (bt s j):=by unfold letB;rw[jj];simp;omega
   have e2:(decide ((bt s j:Int) ≥ 48)&&decide ((bt s j:Int)≤57))=digB (bt s j):=by unfold digB;rw[jj];simp;omega
   have e3:decide ((j:Int) > 0)=decide (0<j):=by rw[jj];simp
   rw[e1,e2,e3];unfold chB;cases letB (bt s j)<;>cases digB (bt s j)<;>cases decide (0<j)<;>first|exact hX|exact .done
 unfold qgi;refine Ev.cast (r:=bif allN (chB s) s.size then(decide (1≤s.size)&&decide (s.size≤8)) else false) (Ev.bindB hL (fun _=>?_) (fun _=>.done)) ?_
 ·simp only[qm4,qoR];exact Ev.now (by congr 1;rw[jj];simp;omega)
 ·unfold nameB;cases allN (chB s) s.size<;>simp
def cutset:List UInt8:=[97,98,99,100,101,102,103,104,105,106,107,108,109,110,111,112,113,114,115,116,117,118,119,120,121,122,48,49,50,51,52,53,54,55,56,57]
theorem qrn (b:UInt8):cutset.contains b=(letB b.toNat || digB b.toNat):=by
 have h0:(List.range 256).all (fun m=>cutset.contains (UInt8.ofNat m)==(letB (UInt8.ofNat m).toNat || digB (UInt8.ofNat m).toNat))=true:=by kernel_rfl
 have h:=List.all_eq_true.1 h0 b.toNat (List.mem_range.2 b.toNat_lt);rw[beq_iff_eq] at h;simpa using h
def letters:List UInt8:=[97,98,99,100,101,102,103,104,105,106,107,108,109,110,111,112,113,114,115,116,117,118,119,120,121,122]
theorem qu4 (m:Nat)(hm:m<256):decide ((Lib.indexByte letters m.toUInt8) ≥ 0)=letB m:=by
 have h0:(List.range 256).all (fun m=>decide ((Lib.indexByte letters m.toUInt8) ≥ 0)==letB m)=true:=by kernel_rfl
 have h:=List.all_eq_true.1 h0 m (List.mem_range.2 hm);rwa [beq_iff_eq] at h
theorem qrA {α:Type}{p:α→Bool}{l:List α}:l.dropWhile p=[]↔∀ x,x ∈ l→p x=true:=by
 induction l with
 | nil=>simp
 | cons y l ih=>
  rw[List.dropWhile_cons];by_cases h:p y=true
  ·rw[if_pos h,ih];simp[h]
  ·rw[if_neg h];simp[h]
theorem qrH {α:Type}{p:α→Bool}{l:List α}(h:∀ x,x ∈ l.dropWhile p→p x=true):∀ x,x ∈ l→p x=true:=by
 induction l with
 | nil=>simp
 | cons y l ih=>
  rw[List.dropWhile_cons] at h;by_cases hy:p y=true
  ·rw[if_pos hy] at h;intro x hx;rcases List.mem_cons.1 hx with rfl|hx
   ·exact hy
   ·exact ih h x hx
  ·rw[if_neg hy] at h;exact h
theorem qxq {l cs:List UInt8}:Lib.trimS l cs=[]↔∀ x,x ∈ l→cs.contains x=true:=by
 unfold Lib.trimS Lib.trimRightS Lib.trimLeftS;rw[qrA];constructor
 ·intro h x hx;exact qrH (p:=(cs.contains ·)) (l:=l.reverse) (fun y hy=>h y (List.mem_reverse.2 hy)) x (List.mem_reverse.2 hx)
 ·intro h x hx;exact h x (List.mem_reverse.1 ((List.dropWhile_suffix _).subset (List.mem_reverse.1 hx)))
theorem qh6 {a b:ByteArray}:(a.toList==b.toList)=decide (a=b):=by
 rw[jj,beq_iff_eq,decide_eq_true_iff];constructor
 ·intro h;exact ByteArray.ext (by have:=congrArg List.toArray h;simpa [ByteArray.toList_eq] using this)
 ·rintro rfl;rfl
end Go.Fw


namespace Go.Fw
open Go
set_option maxRecDepth 100000
theorem qy5 {s:ByteArray}{j:Nat}(h:j<s.data.toList.length):bt s j=(s.data.toList[j]).toNat:=by
 unfold bt;rw[jC,ji h];rfl
theorem qzR {s:ByteArray}{j:Nat}:bt s j<256:=UInt8.toNat_lt _
theorem qpw {n:Nat}{s:ByteArray}(h:okS s):qiA n s=V (nameB s):=by
 unfold okS at h;have hl:s.data.toList.length=s.size:=by simp
 simp only[qiA,qey,jd];cases hI:inI (s.size:Int) 1 8 with
 | false=>
  have hs:(decide (1≤s.size)&&decide (s.size≤8))=false:=by rw[qvG] at hI;rw[Bool.and_eq_false_iff,decide_eq_false_iff_not,decide_eq_false_iff_not];omega
  simp[nameB,hs]
 | true=>
  have hs:1≤s.size∧s.size≤8:=by rw[qbA] at hI;omega
  have hT:qiT n s (⟨#[97,98,99,100,101,102,103,104,105,106,107,108,109,110,111,112,113,114,115,116,117,118,119,120,121,122,48,49,50,51,52,53,54,55,56,57]⟩:ByteArray)=V ⟨(Lib.trimS s.data.toList cutset).toArray⟩:=by
   unfold qiT;rw[if_pos ⟨by omega,by decide,by decide⟩]
   rfl
  rw[hT];simp only[cond_true,jd];have hE:(((⟨(Lib.trimS s.data.toList cutset).toArray⟩:ByteArray).toList==(⟨#[]⟩:ByteArray).toList))=allN (fun j=>letB (bt s j) || digB (bt s j)) s.size:=by
   rw[qh6,jj,decide_eq_true_iff,qaF];have:((⟨(Lib.trimS s.data.toList cutset).toArray⟩:ByteArray)=⟨#[]⟩)↔Lib.trimS s.data.toList cutset=[]:=by
    constructor
    ·intro he;have:=congrArg (fun x:ByteArray=>x.data.toList) he;simpa using this
    ·intro he;rw[he]
   rw[this,qxq];constructor
   ·intro hx j hj;have hj':j<s.data.toList.length:=by omega
    have:=hx _ (jo hj');rw[qrn,←qy5 hj'] at this;exact this
   ·intro hx x hm;obtain⟨j,hj,rfl⟩:=jP hm;have:=hx j (by omega);rw[qrn,←qy5 hj];exact this
  rw[hE];have h0:atS s 0=V (bt s 0:Int):=qwM (j:=0) (by omega);have hI2:decide (Lib.indexByte letters (bt s 0:Int).toNat.toUInt8 ≥ 0)=letB (bt s 0):=by
   rw[jq];exact qu4 _ qzR
  have hF:∀ b:Bool,(bif b then(atS s 0).bind fun y1=>(qg9 n (⟨#[97,98,99,100,101,102,103,104,105,106,107,108,109,110,111,112,113,114,115,116,117,118,119,120,121,122]⟩:ByteArray) (⟨y1⟩:IntK .u8)).bind fun r3=>V (decide (r3 ≥ 0)) else V false)=V (b&&letB (bt s 0)):=by
   intro b;cases b with
   | false=>rfl
   | true=>
    rw[h0];simp only[cond_true,jd,qg9,jG];exact congrArg V hI2
  rw[hF]
  congr 1
  have hs':(decide (1≤s.size)&&decide (s.size≤8))=true:=by simp[hs]
  unfold nameB;rw[hs',jG,jj,jf,qaF,qaF];simp only[chB,Bool.or_eq_true,jf,decide_eq_true_eq];constructor
  ·rintro⟨h1,h2⟩ j hj;rcases Nat.eq_zero_or_pos j with rfl|hp
   ·exact .inl h2
   ·exact(h1 j hj).imp id (fun h=>⟨h,hp⟩)
  ·intro h1;refine⟨fun j hj=>(h1 j hj).imp id (fun h=>h.1),?_⟩;rcases h1 0 (by omega) with h2|h2
   ·exact h2
   ·omega
def strAt (xs:List ByteArray)(j:Nat):ByteArray:=xs.getD j ByteArray.empty
theorem qo2 {xs:List ByteArray}{j:Nat}(h:j<xs.length):strAt xs j=xs[j]:=by simp[strAt,h]
theorem qqw {xs:List ByteArray}{j:Nat}(h:j<xs.length):idx xs (j:Int)=V (strAt xs j):=by rw[qgq h,qo2 h]
def neB (xs:List ByteArray)(j i:Nat):Bool:=!decide (strAt xs i=strAt xs j)
def namesB (xs:List ByteArray):Bool:=allN (fun j=>nameB (strAt xs j)&&allN (neB xs j) j) xs.length
theorem qnb {xs:List ByteArray}(h:okL okS xs):Ev (fun n=>qgV n xs) (namesB xs):=by
 have hl:=h.len;have hL2:∀ j,j<xs.length→Ev (fun n=>qeD xs (j:Int) n 0) (bif allN (neB xs j) j then .nxt (j:Int) else .ret false):=by
  intro j hj;refine qfG ?_ (fun i hi X hX=>Ev.succ ?_)
  ·exact Ev.succ (by simp only[qeD,ql (je _),cond_false];exact .done)
  ·simp only[qeD,qj hi,cond_true,qqw (show i<xs.length by omega),qqw hj,jd,qh6,wS i];unfold neB;cases decide (strAt xs i=strAt xs j)
   ·exact hX
   ·exact .done
 have hL1:Ev (fun n=>qeF xs n 0) (bif namesB xs then .nxt (xs.length:Int) else .ret false):=by
  refine qfG ?_ (fun j hj X hX=>Ev.succ ?_)
  ·exact Ev.succ (by simp only[qeF,ql (je _),cond_false];exact .done)
  ·simp only[qeF,qj hj,cond_true,qqw hj,jd,wS j];refine Ev.bind (qmt (by rw[qo2 hj];exact h.at hj)) ?_;cases nameB (strAt xs j)
   ·exact .done
   ·refine Ev.ff Z (Ev.bind (hL2 j hj) ?_);cases allN (neB xs j) j
    ·exact .done
    ·exact hX
 unfold qgV;refine Ev.bind hL1 ?_;cases namesB xs<;>exact .done
theorem qtX {xs:List ByteArray}{v:ByteArray}(hl:xs.length≤1048576):Ev (fun n=>qfM n xs v) (ixL (fun x=>decide (v=x)) xs):=
 qfS (fin:=(xs.length:Int)) (Lf:=qch xs v) (pf:=fun _ x=>V (decide (v=x))) (fun _ _=>.done)
  (fun n=>by simp only[qch,ql (je _),cond_false])
  (fun n j x hx=>by
   have hj:=(List.getElem?_eq_some_iff.1 hx).1;simp only[qch,qj hj,cond_true,qas hx,jd,qh6,wS j])
  (fun n=>by unfold qfM;congr 1;funext o;cases o<;>rfl)
theorem qrr {xs:List ByteArray}{v:ByteArray}(hl:xs.length≤1048576):Ev (fun n=>qel n xs v) (xs.any fun x=>decide (v=x)):=by
 unfold qel;exact Ev.bind (qtX hl) (Ev.now (by rw[qoq]))
theorem qj2 {xs:List ByteArray}(h:okL okS xs):Ev (fun n=>qev n xs) (namesB xs):=by
 have hl:=h.len;have hL1:Ev (fun n=>qeH xs n 0) (bif namesB xs then .nxt (xs.length:Int) else .ret false):=by
  refine qfG ?_ (fun j hj X hX=>Ev.succ ?_)
  ·exact Ev.succ (by simp only[qeH,ql (je _),cond_false];exact .done)
  ·have hs:subS xs 0 (j:Int)=V (xs.take j):=by
    unfold subS;rw[if_pos ⟨by omega,by omega,by omega⟩];simp
   simp only[qeH,qj hj,cond_true,qqw hj,jd,hs,qpw (show okS (strAt xs j) by rw[qo2 hj];exact h.at hj),wS j];cases nameB (strAt xs j)
   ·exact .done
   ·refine Ev.ff Z (Ev.bind (qrr (by simp;omega)) ?_);have:((xs.take j).any fun x=>decide (strAt xs j=x)) = !allN (neB xs j) j:=by
     rw[qtW (d:=ByteArray.empty)]
     congr 1
     rw[Jf,Nat.min_eq_left (by omega)];refine qip (fun i hi=>?_);unfold neB strAt
     congr 1
     have:(xs.take j).getD i ByteArray.empty=xs.getD i ByteArray.empty:=by simp[jC,hi]
     rw[this];exact decide_eq_decide.2 eq_comm
    rw[this];cases allN (neB xs j) j
    ·exact .done
    ·exact hX
 unfold qev;refine Ev.bind hL1 ?_;cases namesB xs<;>exact .done
end Go.Fw


namespace Go.Fw
open Go
set_option maxRecDepth 100000
theorem qrI {n:Nat}{x lo hi:Int}:qhK n x lo hi=V (!inI x lo hi):=by simp only[qhK,qey,jd]
theorem qgv {xs:List Int}{lo hi:Int}(hl:xs.length≤1048576):Ev (fun n=>qcq n xs lo hi) (xs.all fun x=>inI x lo hi):=by
 have h1:Ev (fun n=>qa2 n xs lo hi) (ixL (fun x=>!inI x lo hi) xs):=
  qfS (fin:=(xs.length:Int)) (Lf:=qak xs lo hi) (pf:=fun _ x=>V (!inI x lo hi)) (fun _ _=>.done)
   (fun n=>by simp only[qak,ql (je _),cond_false])
   (fun n j x hx=>by
    have hj:=(List.getElem?_eq_some_iff.1 hx).1;simp only[qak,qj hj,cond_true,qas hx,jd,qrI,wS j])
   (fun n=>by unfold qa2;congr 1;funext o;cases o<;>rfl)
 unfold qcq qbF;refine Ev.bind (Ev.bind h1 (Ev.now Z)) (Ev.now ?_);rw[qoq,qqA]
def stepB (xs:List Int)(j:Nat):Bool:=decide (j=0) || decide (at0 xs (j-1)<at0 xs j)
def incB (xs:List Int):Bool:=allN (stepB xs) xs.length
theorem qmM {xs:List Int}(hl:xs.length≤1048576):Ev (fun n=>qfm n xs) (incB xs):=by
 have hL:Ev (fun n=>qbC xs n 1) (bif incB xs then .nxt (max 1 xs.length:Int) else .ret false):=by
  by_cases h0:xs.length=0
  ·have hb:incB xs=true:=by unfold incB;rw[h0];rfl
   rw[hb];refine Ev.succ ?_;have:decide ((1:Int)<(xs.length:Int))=false:=by rw[h0];decide
   simp only[qbC,this,cond_false];exact Ev.now (by rw[h0];rfl)
  ·have:=qvs (Lf:=qbC xs) (len:=xs.length) (i0:=1) (f:=stepB xs) (bad:=false) (fin:=.nxt (max 1 xs.length:Int)) (by omega)
    (Ev.succ (by
     simp only[qbC,ql (je _),cond_false];exact Ev.now (by congr 2;omega)))
    (fun j h1 hj X hX=>Ev.succ (by
     simp only[qbC,qj hj,cond_true,wS j,show(j:Int)-1=((j-1:Nat):Int) by omega,qI (show -9223372036854775808≤((j-1:Nat):Int) by omega) (by omega),qaz (show j-1<xs.length by omega),qaz hj,jd];unfold stepB;by_cases hc:at0 xs (j-1)<at0 xs j
     ·have e1:decide (at0 xs (j-1) ≥ at0 xs j)=false:=by simp;omega
      rw[e1];simp only[hc,decide_true,Bool.or_true,cond_true,cond_false];exact hX
     ·have e1:decide (at0 xs (j-1) ≥ at0 xs j)=true:=by simp;omega
      have e2:decide (j=0)=false:=by simp;omega
      rw[e1,e2];simp only[hc,decide_false,Bool.or_self,cond_true,cond_false];exact .done))
   have e:allN (fun j=>stepB xs (1+j)) (xs.length-1)=incB xs:=by
    unfold incB;rw[jj,qaF,qaF];constructor
    ·intro h j hj;cases j with
     | zero=>rfl
     | succ j=>have:=h j (by omega);rwa [Nat.add_comm] at this
    ·intro h j hj;exact h (1+j) (by omega)
   rw[e] at this;exact this
 unfold qfm;refine Ev.bind hL ?_;cases incB xs<;>exact .done
def lenB {α:Type}(xs:List α)(lo hi:Nat):Bool:=decide (lo≤xs.length)&&decide (xs.length≤hi)
theorem qsT {α:Type}{xs:List α}{lo hi:Nat}:inI (xs.length:Int) (lo:Int) (hi:Int)=lenB xs lo hi:=by
 unfold inI lenB;rw[jj];simp
def axisB (xs:List Int):Bool:=lenB xs 1 4&&((xs.all fun x=>inI x 0 100000)&&incB xs)
theorem qst {xs:List Int}(hl:xs.length≤1048576):Ev (fun n=>qj5 n xs) (axisB xs):=by
 simp only[qj5,qaL,jd,qey,show inI (xs.length:Int) 1 4=lenB xs 1 4 from qsT (lo:=1) (hi:=4)];unfold axisB;cases lenB xs 1 4
 ·exact .done
 ·refine Ev.tt Z (Ev.bind (qgv hl) ?_);cases (xs.all fun x=>inI x 0 100000)
  ·exact .done
  ·exact Ev.tt Z (Ev.bind (qmM hl) .done)
theorem qqY {xs:List Int}(hl:xs.length≤1048576):Ev (fun n=>qjg n xs) (axisB xs):=by
 have hL:Ev (fun n=>qd3 xs n 0) (bif allN (fun j=>inI (at0 xs j) 0 100000&&stepB xs j) xs.length then .nxt (xs.length:Int) else .ret false):=by
  refine qfG ?_ (fun j hj X hX=>Ev.succ ?_)
  ·exact Ev.succ (by simp only[qd3,ql (je _),cond_false];exact .done)
  ·simp only[qd3,qj hj,cond_true,qaz hj,jd,qdk,wS j];cases inI (at0 xs j) 0 100000
   ·exact .done
   ·simp only[jW,cond_false,jG];unfold stepB;by_cases h0:j=0
    ·subst h0;exact Ev.ff (by decide) hX
    ·simp only[show(j:Int)-1=((j-1:Nat):Int) by omega,qI (show -9223372036854775808≤((j-1:Nat):Int) by omega) (by omega),qaz (show j-1<xs.length by omega),jd];have e2:decide (j=0)=false:=by simp;omega
     have e3:decide ((j:Int) > 0)=true:=by simp;omega
     rw[e2,e3];simp only[cond_true,Bool.false_or];by_cases hc:at0 xs (j-1)<at0 xs j
     ·have e1:decide (at0 xs (j-1) ≥ at0 xs j)=false:=by simp;omega
      rw[e1];simp only[hc,decide_true,cond_true,cond_false];exact hX
     ·have e1:decide (at0 xs (j-1) ≥ at0 xs j)=true:=by simp;omega
      rw[e1];simp only[hc,decide_false,cond_true,cond_false];exact .done
 have e:axisB xs=(allN (fun j=>inI (at0 xs j) 0 100000&&stepB xs j) xs.length&&lenB xs 1 4):=by
  unfold axisB incB;rw[qmc,qhu (d:=0),Bool.and_comm]
  rfl
 rw[e];unfold qjg;refine Ev.bind hL ?_;cases allN (fun j=>inI (at0 xs j) 0 100000&&stepB xs j) xs.length
 ·exact .done
 ·simp only[cond_true,qm4,qoR,jG];exact Ev.now (by congr 1;unfold lenB;rw[jj];simp;omega)
def tableB (t:qu):Bool:=axisB t.Bl&&(axisB t.Bd&&(decide (t.Az.length=t.Bl.length*t.Bd.length)&&(t.Az.all fun x=>inI x (-1000000) 1000000)))
theorem qvh {a b:Nat}(ha:a≤1048576)(hb:b≤1048576):W64 ((a:Int)*(b:Int))=((a*b:Nat):Int):=by
 have h:a*b≤1048576*1048576:=Nat.mul_le_mul ha hb;have e:(a:Int)*(b:Int)=((a*b:Nat):Int):=by simp
 rw[e];exact qI (by omega) (by omega)
theorem quR {t:qu}(h:qjb t):Ev (fun n=>qkB n t) (tableB t):=by
 unfold qkB tableB;refine Ev.bind (qst h.Bl.len) ?_;cases axisB t.Bl
 ·exact .done
 ·refine Ev.tt Z (Ev.bind (qst h.Bd.len) ?_);cases axisB t.Bd
  ·exact .done
  ·rw[qvh h.Bl.len h.Bd.len];have e:(((t.Az.length:Nat):Int)==((t.Bl.length*t.Bd.length:Nat):Int))=decide (t.Az.length=t.Bl.length*t.Bd.length):=by rw[jj];simp;omega
   rw[e];cases decide (t.Az.length=t.Bl.length*t.Bd.length)
   ·exact .done
   ·exact Ev.tt Z (Ev.tt Z (Ev.bind (qgv h.Az.len) .done))
theorem qtM {t:qu}(h:qjb t):Ev (fun n=>qkq n t) (tableB t):=by
 have hl:=h.Az.len;have hL:Ev (fun n=>qfc t n 0) (bif (t.Az.all fun x=>inI x (-1000000) 1000000) then .nxt (t.Az.length:Int) else .ret false):=
  qo3 (fun n=>by simp only[qfc,ql (je _),cond_false]) (fun j hj X hX=>by
   simp only[qfc,qj hj,cond_true,qgq hj,jd,qdk,wS j];cases inI t.Az[j] (-1000000) 1000000
   ·exact .done
   ·exact hX)
 unfold qkq tableB;refine Ev.bind (b:=!(axisB t.Bl&&(axisB t.Bd&&decide (t.Az.length=t.Bl.length*t.Bd.length)))) ?_ ?_
 ·refine Ev.bind (qqY h.Bl.len) ?_;cases axisB t.Bl
  ·exact .done
  ·refine Ev.ff Z (Ev.bind (qqY h.Bd.len) ?_);cases axisB t.Bd
   ·exact .done
   ·refine Ev.ff Z (Ev.now ?_);rw[qvh h.Bl.len h.Bd.len]
    congr 1
    rw[jj];simp;omega
 ·cases axisB t.Bl
  ·exact .done
  ·cases axisB t.Bd
   ·exact .done
   ·cases decide (t.Az.length=t.Bl.length*t.Bd.length)
    ·exact .done
    ·refine Ev.ff Z (Ev.bind hL ?_);cases (t.Az.all fun x=>inI x (-1000000) 1000000)<;>exact .done
end Go.Fw


namespace Go.Fw
open Go
set_option maxRecDepth 100000
instance:Inhabited qam:=⟨⟨ByteArray.empty,0,0,false⟩⟩
instance:Inhabited qu:=⟨⟨[],[],[]⟩⟩
instance:Inhabited qH:=⟨⟨0,0,0,0,[],[]⟩⟩
instance:Inhabited qv:=⟨⟨ByteArray.empty,0,[],[],[],0,0⟩⟩
instance:Inhabited qk:=⟨⟨ByteArray.empty,0,[]⟩⟩
instance:Inhabited qW:=⟨⟨ByteArray.empty,0,0⟩⟩
instance:Inhabited qG:=⟨⟨[],[],[],[]⟩⟩
theorem lastE {j m:Nat}(h:j<m)(hm:m≤1048576):((j:Int)==W64 ((m:Int)-1))=decide (j+1=m):=by
 rcases qx5 h with h|h
 ·exact h
 ·omega
theorem qkJ {α:Type}[Inhabited α]{xs:List α}{g:α→ByteArray}{j:Nat}(h:j<xs.length):strAt (xs.map g) j=g (gt xs j):=by
 rw[qo2 (by simpa using h),qdW h];simp
theorem qnE {α:Type}{xs:List α}{g:α→ByteArray}{ok:α→Prop}(h:okL ok xs)(hg:∀ x,ok x→okS (g x)):okL okS (xs.map g):=
 ⟨by rw[ju];exact h.1,fun y hy=>by
  obtain⟨x,hx,rfl⟩:=List.mem_map.1 hy;exact hg x (h.2 x hx)⟩
theorem ql3 {α β:Type}{xs:List α}{g:α→β}{j:Nat}(h:j<xs.length)(hl:xs.length≤1048576){y:β}:appS ((xs.take j).map g) [y]=V ((xs.take j).map g++[y]):=
 qb0 (by simp;omega)
def pinB (ps:List qam)(j:Nat):Bool:=
 bif decide (j+1=ps.length) then((gt ps j).Bu==2)&&(((gt ps j).Br==0)&&!(gt ps j).Bo) else((gt ps j).Bu==1)&&inI (gt ps j).Br 0 500
def pinsB (ps:List qam):Bool:=allN (pinB ps) ps.length&&(lenB ps 2 5&&namesB (ps.map qam.Au))
def clkN (ps:List qam)(j:Nat):Nat:=cntP (fun i=>(gt ps i).Bo) j
theorem quQ {ps:List qam}(h:okL qm9 ps):Ev (fun n=>qkE n ps) (pinsB ps):=by
 have hl:=h.len;have hL:Ev (fun n=>qde ps n ([]:List ByteArray) 0) (bif allN (pinB ps) ps.length then .nxt (ps.map qam.Au,(ps.length:Int)) else .ret false):=by
  refine loopN (Lf:=qde ps) (S:=fun j=>(ps.take j).map qam.Au) (pinB ps) (fun n=>?_) (fun j hj hp X hX=>?_)
  ·simp only[qde,ql (je _),cond_false,jH]
  ·simp only[qde,qj hj,cond_true,qz hj,jd,ql3 hj hl,qgk (g:=qam.Au) hj,lastE hj hl,bne,qdj,qey,wS j];generalize hc:pinB ps j=c at hX ⊢;unfold pinB at hc;cases hd:decide (j+1=ps.length)
   ·rw[hd] at hc;simp only[cond_false] at hc ⊢;subst hc;exact Ev.okP (fun h1=>Ev.okP1 (fun h2=>hX (by rw[h1,h2];rfl)))
   ·rw[hd] at hc;simp only[cond_true] at hc ⊢;subst hc;refine Ev.okP (fun h1=>Ev.okP (fun h2=>Ev.chkP1 (fun h3=>hX (by rw[h1,h2,h3];rfl))))
 unfold qkE pinsB;refine Ev.bind hL ?_;cases allN (pinB ps) ps.length
 ·exact .done
 ·simp only[cond_true,qb4,qey,jd,show inI (ps.length:Int) 2 5=lenB ps 2 5 from qsT (lo:=2) (hi:=5),jG];exact Ev.andP (fun _=>Ev.last (qj2 (qnE h (fun x hx=>hx.Au))))
def pinS (ps:List qam)(j:Nat):Bool:=allN (neB (ps.map qam.Au) j) j&&((nameB (gt ps j).Au&&inI (gt ps j).Br 0 500)&&(bif decide (j+1=ps.length) then((gt ps j).Bu==2)&&(((gt ps j).Br==0)&&!(gt ps j).Bo) else((gt ps j).Bu==1)))
theorem qx3 {ps:List qam}:(lenB ps 2 5&&allN (pinS ps) ps.length)=pinsB ps:=by
 have e:namesB (ps.map qam.Au)=allN (fun j=>nameB (gt ps j).Au&&allN (neB (ps.map qam.Au) j) j) ps.length:=by
  unfold namesB;rw[ju];exact qip (fun j hj=>by rw[qkJ hj])
 unfold pinsB;rw[e,←Bool.and_assoc,Bool.and_comm (allN (pinB ps) ps.length),Bool.and_assoc,←qmc]
 congr 1
 refine qip (fun j hj=>?_);unfold pinS pinB;cases hd:decide (j+1=ps.length)
 ·simp only[cond_false];cases allN (neB (ps.map qam.Au) j) j<;>cases nameB (gt ps j).Au<;>cases inI (gt ps j).Br 0 500<;>cases ((gt ps j).Bu==1)<;>rfl
 ·simp only[cond_true];cases hcap:((gt ps j).Br==0)
  ·simp
  ·have:inI (gt ps j).Br 0 500=true:=by rw[beq_iff_eq] at hcap;rw[hcap];rfl
   rw[this];cases allN (neB (ps.map qam.Au) j) j<;>cases nameB (gt ps j).Au<;>cases ((gt ps j).Bu==2)<;>cases (gt ps j).Bo<;>rfl
theorem quX {c:qv}(h:okL qm9 c.As):Ev (fun n=>qkw n c) (bif pinsB c.As then(((clkN c.As c.As.length:Nat):Int),true) else(0,false)):=by
 have hl:=h.len;have hL2:∀ j,j<c.As.length→Ev (fun n=>qfg c (j:Int) (gt c.As j) n 0) (bif allN (neB (c.As.map qam.Au) j) j then .nxt (j:Int) else .ret (0,false)):=by
  intro j hj;refine qfG ?_ (fun i hi X hX=>Ev.succ ?_)
  ·exact Ev.succ (by simp only[qfg,ql (je _),cond_false];exact .done)
  ·simp only[qfg,qj hi,cond_true,qz (show i<c.As.length by omega),jd,qh6,wS i];unfold neB;rw[qkJ (g:=qam.Au) (show i<c.As.length by omega),qkJ (g:=qam.Au) hj];exact Ev.chkP1 (fun _=>hX)
 have hL1:Ev (fun n=>qdb c n 0 0) (bif allN (pinS c.As) c.As.length then .nxt (((clkN c.As c.As.length:Nat):Int),(c.As.length:Int)) else .ret (0,false)):=by
  refine loopN (Lf:=qdb c) (S:=fun j=>((clkN c.As j:Nat):Int)) (pinS c.As) (fun n=>?_) (fun j hj hp X hX=>?_)
  ·simp only[qdb,ql (je _),cond_false]
  ·have hn:clkN c.As j≤j:=qgz;have ejl:((j:Int)==W64 ((c.As.length:Int)-1))=decide (j+1=c.As.length):=lastE hj hl;have elt:decide ((j:Int)<W64 ((c.As.length:Int)-1)) = !decide (j+1=c.As.length):=by
    rw[qI (by omega) (by omega),jj];simp;omega
   simp only[qdb,qj hj,cond_true,qz hj,jd,wS j,qdM (show clkN c.As j<9223372036854775807 by omega),ejl,elt,qdk];unfold pinS;refine Ev.bind (hL2 j hj) ?_;cases ha:allN (neB (c.As.map qam.Au) j) j
   ·exact .done
   ·simp only[cond_true,jG];refine Ev.chkT ?_ (fun h1=>?_)
    ·exact Ev.or (qmt (qm5 h hj).Au) (fun _=>.done)
    ·refine Ev.chkT1 ?_ (fun h2=>?_)
     ·cases decide (j+1=c.As.length)
      ·exact .done
      ·simp only[cond_true,jW,cond_false,bne,qdj];cases ((gt c.As j).Bu==2)<;>cases ((gt c.As j).Br==0)<;>cases (gt c.As j).Bo<;>exact .done
     ·have hX:=hX (by unfold pinS;rw[ha,h1,h2];rfl);have hck:clkN c.As (j+1)=clkN c.As j+(bif (gt c.As j).Bo then 1 else 0):=rfl;rw[hck] at hX;cases hc:(gt c.As j).Bo
      ·rw[hc] at hX;exact Ev.ff Z hX
      ·rw[hc] at hX;exact Ev.tt Z hX
 rw[←qx3];unfold qkw;refine Ev.guard ?_ (fun h1=>?_)
 ·unfold lenB;have e1:decide ((c.As.length:Int)<2) = !decide (2≤c.As.length):=by rw[jj];simp;omega
  have e2:decide ((c.As.length:Int) > 5) = !decide (c.As.length≤5):=by rw[jj];simp;omega
  rw[e1,e2];cases decide (2≤c.As.length)<;>cases decide (c.As.length≤5)<;>exact .done
 ·refine Ev.bind hL1 ?_;cases allN (pinS c.As) c.As.length<;>exact .done
def mnL (xs:List Int):Int:=(xs.drop 1).foldl (fun m y=>if y<m then y else m) (at0 xs 0)
def mxL (xs:List Int):Int:=(xs.drop 1).foldl (fun m y=>if y > m then y else m) (at0 xs 0)
theorem qqU {t:qu}(h:tableB t=true):1≤t.Az.length:=by
 unfold tableB axisB lenB at h;simp only[jf,decide_eq_true_eq] at h;obtain⟨⟨⟨h1,_⟩,_⟩,⟨⟨h2,_⟩,_⟩,h3,_⟩:=h;rw[h3];exact Nat.mul_pos h1 h2
theorem qxV {xs:List Int}(h1:1≤xs.length)(hl:xs.length≤1048576):Ev (fun n=>qhL n xs) (mnL xs):=by
 have hL:=(qpl (Lf:=fun n t j=>qc6 xs n t j) (xs:=xs) (step:=fun(m y:Int)=>if y<m then y else m) (fin:=fun t=>(t,(xs.length:Int))) 1 (at0 xs 0) (fun _ _=>True) h1 trivial (fun _ _ _ _=>trivial)
  (fun n t=>by simp only[qc6,ql (je _),cond_false])
  (fun j t hj _ X hX=>by simpa only[qc6,qj hj,cond_true,qgq hj,jd,wS j] using hX)).1
 unfold qhL;rw[show decide ((xs.length:Int)<1)=false by simp;omega,show idx xs (0:Int)=V (at0 xs 0) from qaz (j:=0) (by omega)];simp only[cond_false,jd];exact Ev.bind hL .done
theorem quu {t:qu}(h:qjb t):Ev (fun n=>qhN n t) (bif tableB t then(⟨mnL t.Az,mxL t.Az⟩,0) else(⟨0,0⟩,1)):=by
 unfold qhN;refine Ev.chk1 (qtM h) (fun hb=>?_);have h1:=qqU hb;have hl:=h.Az.len;have hL:=(qpl (Lf:=fun n (t':Int×Int) j=>qc8 t n t'.1 t'.2 j) (xs:=t.Az) (step:=fun(m:Int×Int) y=>(if y<m.1 then y else m.1,if y > m.2 then y else m.2)) (fin:=fun t'=>(t'.1,t'.2,(t.Az.length:Int))) 1 (at0 t.Az 0,at0 t.Az 0) (fun _ _=>True) h1 trivial (fun _ _ _ _=>trivial)
  (fun n t=>by simp only[qc8,ql (je _),cond_false])
  (fun j t hj _ X hX=>by simpa only[qc8,qj hj,cond_true,qgq hj,jd,wS j] using hX)).1
 have hf:∀ (ys:List Int) (a b:Int),ys.foldl (fun(m:Int×Int) y=>(if y<m.1 then y else m.1,if y > m.2 then y else m.2)) (a,b)=(ys.foldl (fun m y=>if y<m then y else m) a,ys.foldl (fun m y=>if y > m then y else m) b):=by
  intro ys
  induction ys with
  | nil=>intro a b;rfl
  | cons y ys ih=>intro a b;simp only[List.foldl_cons,ih]
 rw[hf] at hL;rw[show idx t.Az (0:Int)=V (at0 t.Az 0) from qaz (j:=0) (by omega)];simp only[jd];exact Ev.bind hL .done
def tabB (pos:Bool)(t:qu):Bool:=tableB t&&(!pos || decide (0≤mnL t.Az))
def tablesB (ts:List qu)(pos:Bool):Bool:=decide (ts.length=2)&&ts.all (tabB pos)
theorem qmu {ts:List qu}{pos:Bool}(h:okL qjb ts):Ev (fun n=>qf1 n ts pos) (tablesB ts pos):=by
 have hl:=h.len;have h1:Ev (fun n=>qaM n ts pos) (ixL (fun x=>!tabB pos x) ts):=
  qfS (fin:=(ts.length:Int)) (Lf:=qaa ts pos) (pf:=fun n x=>qhJ n x pos) (fun x hx=>by
    unfold qhJ tabB;refine Ev.or (quR (h.2 x hx)) (fun hb=>?_);cases pos
    ·exact .done
    ·refine Ev.tt Z (Ev.bind (qxV (qqU hb) (h.2 x hx).Az.len) (Ev.now ?_))
     congr 1
     rw[jj];simp)
   (fun n=>by simp only[qaa,ql (je _),cond_false])
   (fun n j x hx=>by
    have hj:=(List.getElem?_eq_some_iff.1 hx).1;simp only[qaa,qj hj,cond_true,qas hx,jd,wS j])
   (fun n=>by unfold qaM;congr 1;funext o;cases o<;>rfl)
 unfold qf1 qa5 tablesB;rw[show((ts.length:Int)==2)=decide (ts.length=2) by rw[jj];simp;omega];refine Ev.andP (fun _=>Ev.bind (Ev.bind h1 (Ev.now Z)) (Ev.now ?_));rw[qoq,qqA]
theorem qi4 {ts:List qu}{pos:Bool}(h:okL qjb ts):Ev (fun n=>qdI n ts pos) (tablesB ts pos):=by
 unfold qdI tablesB;rw[show((ts.length:Int) != 2) = !decide (ts.length=2) by rw[jj];simp;omega];simp only[qdj];refine Ev.andP (fun h2=>?_);have h2:ts.length=2:=by simpa using h2
 have hL:Ev (fun n=>qcS ts pos n 0) (bif allN (fun j=>tabB pos (gt ts j)) ts.length then .nxt (2:Int) else .ret false):=by
  refine qfG (len:=ts.length) ?_ (fun j hj X hX=>Ev.succ ?_)
  ·rw[h2];exact Ev.succ (by simp only[qcS];exact .done)
  ·simp only[qcS,show decide ((j:Int)<2)=true by simp;omega,cond_true,qz hj,jd,wS j];refine Ev.bind (quu (qm5 h hj)) ?_;unfold tabB;cases tableB (gt ts j)
   ·exact .done
   ·simp only[cond_true,jG];refine Ev.ff Z ?_;cases pos
    ·exact hX
    ·refine Ev.tt Z ?_;rw[show decide (mnL (gt ts j).Az<0) = !decide (0≤mnL (gt ts j).Az) by rw[jj];simp];simp only[qdj];exact Ev.okP1 (fun _=>hX)
 rw[qiZ];refine Ev.bind hL ?_;cases allN (fun j=>tabB pos (gt ts j)) ts.length<;>exact .done
end Go.Fw


namespace Go.Fw
open Go
set_option maxRecDepth 100000
theorem qd4 {α:Type}[Inhabited α]{xs:List α}{x:Int}(h0:0≤x)(h1:x<xs.length):idx xs x=V (gt xs x.toNat):=by
  have:=qz (xs:=xs) (j:=x.toNat) (by omega);rwa [←qhh h0] at this
theorem qsm {q:Nat→Bool}{m n:Nat}(h:m≤n):cntP q m≤cntP q n:=by
  induction n with
  | zero=>
    obtain rfl:m=0:=by omega
    exact je _
  | succ n ih=>
    rcases Nat.lt_or_eq_of_le h with h|rfl
    · exact Nat.le_trans (ih (by omega)) (Nat.le_add_right _ _)
    · exact je _
theorem qnM {m k:Nat}:decide ((m:Int)≤(k:Int))=decide (m≤k):=by rw[jj];simp
theorem qti {q:Nat→Bool}{n i j:Nat}(hi:i<j)(hj:j<n)(h1:q i=true)(h2:q j=true):2≤cntP q n:=by
  have e1:cntP q (i+1)=cntP q i+1:=by rw[cntP,h1];rfl
  have e2:cntP q (j+1)=cntP q j+1:=by rw[cntP,h2];rfl
  have m1:=qsm (q:=q) (show i+1≤j by omega);have m2:=qsm (q:=q) (show j+1≤n by omega);omega
theorem qts {q:Nat→Bool}{n i j:Nat}(hn:cntP q n≤1)(hi:i<n)(hj:j<n)(h1:q i=true)(h2:q j=true):i=j:=by
  rcases Nat.lt_trichotomy i j with h|h|h
  · have:=qti h hj h1 h2;omega
  · exact h
  · have:=qti h hi h2 h1;omega
def clkIx (ps:List qam):Int:=ixL (fun p=>p.Bo) ps
def clkAt (ps:List qam)(x:Int):Bool:=(gt ps x.toNat).Bo
theorem qxH {c:qv}(hl:c.As.length≤1048576):Ev (fun n=>qib n c) (clkIx c.As):=by
  unfold qib;refine Ev.bind (b:=clkIx c.As) ?_ .done;exact qfS (fin:=(c.As.length:Int)) (Lf:=qab c.As) (pf:=fun n x=>qiN n x) (fun _ _=>.done)
    (fun n=>by simp only[qab,ql (je _),cond_false])
    (fun n j x hx=>by
      have hj:=(List.getElem?_eq_some_iff.1 hx).1;simp only[qab,qj hj,cond_true,qas hx,jd,wS j])
    (fun n=>by unfold qbB;congr 1;funext o;cases o<;>rfl)
def arcI (ps:List qam)(a:qH):Bool:=
  bif (a.Aq==4) || (a.Aq==5) then
    (a.Bn==0)&&(((a.Ba.length:Int)==0)&&(tablesB a.Bk false&&((a.Bc==clkIx ps)&&(decide (a.Bc ≥ 0)&&(inI a.To 0 (ps.length-2)&&!(a.To==a.Bc))))))
  else
    (tablesB a.Bk true&&(tablesB a.Ba true&&((a.To==(ps.length:Int)-1)&&inI a.Bc 0 (ps.length-2)))) &&
      (bif a.Aq==1 then !clkAt ps a.Bc&&inI a.Bn 1 3 else(bif (a.Aq==2) || (a.Aq==3) then clkAt ps a.Bc&&(a.Bn==0) else false))
def arcS (ps:List qam)(a:qH):Bool:=
  (inI a.Bc 0 (ps.length-2)&&inI a.To 0 (ps.length-1)) &&
    (bif a.Aq==1 then !clkAt ps a.Bc&&((a.To==(ps.length:Int)-1)&&(inI a.Bn 1 3&&(tablesB a.Bk true&&tablesB a.Ba true)))
     else(bif (a.Aq==2) || (a.Aq==3) then clkAt ps a.Bc&&((a.To==(ps.length:Int)-1)&&((a.Bn==0)&&(tablesB a.Bk true&&tablesB a.Ba true)))
     else(bif (a.Aq==4) || (a.Aq==5) then clkAt ps a.Bc&&(decide (a.To<(ps.length:Int)-1)&&(!clkAt ps a.To&&((a.Bn==0)&&(tablesB a.Bk false&&((a.Ba.length:Int)==0))))) else false)))
theorem qpN {c d:Bool}:(bif c then V c else V d)=V (c || d):=by cases c<;>rfl
theorem qtw {c d:Bool}:(bif c then V true else V d)=V (c || d):=by cases c<;>rfl
theorem quK {n:Nat}{k:Int}:qkt n k=V ((k==4) || (k==5)):=by simp only[qkt,qtw]
theorem qwF {c:qv}{a:qH}(h:okL qm9 c.As)(ha:qod a)(hm:2≤c.As.length):Ev (fun n=>qim n c a) (arcI c.As a):=by
  have hl:=h.len;have e1:W64 ((c.As.length:Int)-1)=(c.As.length:Int)-1:=qfh (by omega);have e2:W64 ((c.As.length:Int)-1-1)=(c.As.length:Int)-2:=by rw[qI (by omega) (by omega)];omega
  simp only[qim,quK,jd,qg8,qcb,qb4,e1,e2,qey,qpN,bne];unfold arcI;refine Ev.iff (fun _=>Ev.last ?_) (fun _=>Ev.guardB ?_ (fun hb=>?_))
  · exact Ev.andP fun _=>Ev.andP fun _=>Ev.and (qmu ha.Bk) fun _=>Ev.bind (qxH hl) (Ev.andP fun _=>Ev.andP fun _=>Ev.andP fun _=>.done)
  · refine Ev.or (qmu ha.Bk) fun _=>Ev.or (qmu ha.Ba) fun _=>?_
    simp only[qdj];exact Ev.orBP fun _=>.done
  · have hf:0≤a.Bc∧a.Bc≤(c.As.length:Int)-2:=by
      simp only[jf,qbA] at hb;exact hb.2.2.2
    simp only[qd4 hf.1 (show a.Bc<(c.As.length:Int) by omega),jd];exact Ev.iff (fun _=>Ev.andP fun _=>.done) (fun _=>Ev.iff (fun _=>Ev.andP fun _=>.done) (fun _=>.done))
theorem qv8 {c:qv}{a:qH}(h:okL qm9 c.As)(ha:qod a)(hm:2≤c.As.length):Ev (fun n=>qlH n c a) (arcS c.As a):=by
  have hl:=h.len;have e1:W64 ((c.As.length:Int)-1)=(c.As.length:Int)-1:=qfh (by omega);have e2:W64 ((c.As.length:Int)-1-1)=(c.As.length:Int)-2:=by rw[qI (by omega) (by omega)];omega
  simp only[qlH,jd,e1,e2,qdk,qpN];unfold arcS;refine Ev.guardB ?_ (fun hb=>?_)
  · simp only[qdj]
    exact Ev.orBP fun _=>.done
  · have hf:(0≤a.Bc∧a.Bc≤(c.As.length:Int)-2)∧(0≤a.To∧a.To≤(c.As.length:Int)-1):=by
      simp only[jf,qbA] at hb;exact hb
    simp only[qd4 hf.1.1 (show a.Bc<(c.As.length:Int) by omega),qd4 hf.2.1 (show a.To<(c.As.length:Int) by omega),jd];refine Ev.iff (fun _=>?_) (fun _=>Ev.iff (fun _=>?_) (fun _=>Ev.iff (fun _=>?_) (fun _=>.done)))
    · exact Ev.andP fun _=>Ev.andP fun _=>Ev.andP fun _=>Ev.and (qi4 ha.Bk) fun _=>Ev.last (qi4 ha.Ba)
    · exact Ev.andP fun _=>Ev.andP fun _=>Ev.andP fun _=>Ev.and (qi4 ha.Bk) fun _=>Ev.last (qi4 ha.Ba)
    · exact Ev.andP fun _=>Ev.andP fun _=>Ev.andP fun _=>Ev.andP fun _=>Ev.and (qi4 ha.Bk) fun _=>.done
theorem qpD {ps:List qam}(h1:clkN ps ps.length≤1){x:Int}(hx:0≤x):clkIx ps=x↔x<ps.length∧clkAt ps x=true:=by
  unfold clkIx ixL;cases hf:ps.findIdx? (fun p=>p.Bo) with
  | some j=>
    obtain⟨hj,hp,_⟩:=List.findIdx?_eq_some_iff_getElem.1 hf;have hpj:(gt ps j).Bo=true:=by rw[qdW hj];exact hp
    constructor
    · intro e
      have e:(j:Int)=x:=e;subst e;exact⟨by omega,by unfold clkAt;rw[jq];exact hpj⟩
    · rintro⟨hl,hc⟩
      have:=qts h1 hj (show x.toNat<ps.length by omega) hpj hc;show(j:Int)=x;omega
  | none=>
    have hn:=List.findIdx?_eq_none_iff.1 hf;constructor
    · intro e
      have e:(-1:Int)=x:=e;omega
    · rintro⟨hl,hc⟩
      have hxl:x.toNat<ps.length:=by omega
      unfold clkAt at hc;rw[qdW hxl] at hc;have:=hn _ (jo hxl);rw[hc] at this;exact absurd this (by decide)
theorem qfD {ps:List qam}(h:pinsB ps=true):(2≤ps.length∧ps.length≤5)∧clkAt ps ((ps.length:Int)-1)=false:=by
  unfold pinsB lenB at h;simp only[jf,decide_eq_true_eq] at h;refine⟨h.2.1,?_⟩;have h1:=qaF.1 h.1 (ps.length-1) (by omega);unfold pinB at h1;rw[show decide (ps.length-1+1=ps.length)=true by simp;omega] at h1;simp only[cond_true,jf,jD] at h1;unfold clkAt;rw[show((ps.length:Int)-1).toNat=ps.length-1 by omega];exact h1.2.2
theorem qw3 {ps:List qam}{a:qH}(h:pinsB ps=true)(h1:clkN ps ps.length≤1):arcI ps a=arcS ps a:=by
  obtain⟨⟨hm,hm5⟩,hlast⟩:=qfD h;rw[jj];unfold arcI arcS;cases h45:((a.Aq==4) || (a.Aq==5)) with
  | true=>
    have k1:(a.Aq==1)=false:=by simp at h45 ⊢;omega
    have k23:((a.Aq==2) || (a.Aq==3))=false:=by simp at h45 ⊢;omega
    rw[k1,k23];simp only[cond_true,cond_false,jf,qbA,decide_eq_true_eq,beq_iff_eq,jD,beq_eq_false_iff_ne,ne_eq];constructor
    · rintro⟨hs,hsl,hd,hf,hf0,ht,hne⟩
      obtain⟨hl,hc⟩:=(qpD h1 hf0).1 hf.symm;have hfl:a.Bc ≠ (ps.length:Int)-1:=by intro e;rw[e,hlast] at hc;cases hc
      refine⟨⟨⟨hf0,by omega⟩,⟨ht.1,by omega⟩⟩,hc,by omega,?_,hs,hd,hsl⟩;cases hct:clkAt ps a.To with
      | false=>rfl
      | true=>
        have:=(qpD h1 ht.1).2 ⟨by omega,hct⟩;omega
    · rintro⟨⟨hf,ht⟩,hc,hlt,hct,hs,hd,hsl⟩
      have:=(qpD h1 hf.1).2 ⟨by omega,hc⟩;refine⟨hs,hsl,hd,this.symm,hf.1,⟨ht.1,by omega⟩,?_⟩;intro e;rw[e,hc] at hct;cases hct
  | false=>
    simp only[cond_false,jf,qbA,beq_iff_eq];cases (a.Aq==1)
    · cases ((a.Aq==2) || (a.Aq==3))
      · simp
      · simp only[cond_true,cond_false,jf,beq_iff_eq]
        constructor
        · rintro⟨⟨h1,h2,h3,h4⟩,h5,h6⟩
          exact⟨⟨h4,by omega⟩,h5,h3,h6,h1,h2⟩
        · rintro⟨⟨h4,h7⟩,h5,h3,h6,h1,h2⟩
          exact⟨⟨h1,h2,h3,h4⟩,h5,h6⟩
    · simp only[cond_true,jf,qbA,jD,beq_iff_eq]
      constructor
      · rintro⟨⟨h1,h2,h3,h4⟩,h5,h6⟩
        exact⟨⟨h4,by omega⟩,h5,h3,h6,h1,h2⟩
      · rintro⟨⟨h4,h7⟩,h5,h3,h6,h1,h2⟩
        exact⟨⟨h1,h2,h3,h4⟩,h5,h6⟩
theorem qr9 {ps:List qam}{a:qH}(h:arcS ps a=true):1≤a.Aq∧a.Aq≤5:=by
  unfold arcS at h;rw[jf] at h;have h:=h.2;cases h1:(a.Aq==1)
  · cases h2:((a.Aq==2) || (a.Aq==3))
    · cases h4:((a.Aq==4) || (a.Aq==5))
      · rw[h1,h2,h4] at h;cases h
      · simp at h4;omega
    · simp at h2;omega
  · simp at h1;omega
def sameArc (x y:qH):Bool:=(x.Aq==y.Aq)&&((x.Bc==y.Bc)&&(x.To==y.To))
def newArc (ar:List qH)(j:Nat):Bool:=allN (fun i=>!sameArc (gt ar i) (gt ar j)) j
theorem qu2 {c:qv}(h:okL qm9 c.As)(ha:okL qod c.Ak)(hm:2≤c.As.length):Ev (fun n=>qg7 n c) (allN (fun j=>arcI c.As (gt c.Ak j)&&newArc c.Ak j) c.Ak.length&&decide (c.Ak.length≤8)):=by
  have hl:=ha.len;have h1:∀ (ar:List qH) (y:qH),ar.length≤1048576→Ev (fun n=>qaE n ar y) (ar.any fun x=>sameArc x y):=by
    intro ar y hl;unfold qaE;refine Ev.bind (b:=ixL (fun x=>sameArc x y) ar) (qfS (fin:=(ar.length:Int)) (Lf:=qY ar y) (pf:=fun n x=>qfP n x y) (fun x _=>?_)
      (fun n=>by simp only[qY,ql (je _),cond_false])
      (fun n j x hx=>by
        have hj:=(List.getElem?_eq_some_iff.1 hx).1;simp only[qY,qj hj,cond_true,qas hx,jd,wS j])
      (fun n=>by unfold qbg;congr 1;funext o;cases o<;>rfl)) (Ev.now (by rw[qoq]))
    unfold qfP sameArc;exact Ev.andP fun _=>Ev.andP fun _=>.done
  have hL:Ev (fun n=>qcK c n 0) (bif allN (fun j=>arcI c.As (gt c.Ak j)&&newArc c.Ak j) c.Ak.length then .nxt (c.Ak.length:Int) else .ret false):=by
    refine qfG ?_ (fun j hj X hX=>Ev.succ ?_)
    · exact Ev.succ (by simp only[qcK,ql (je _),cond_false];exact .done)
    · simp only[qcK,qj hj,cond_true,qz hj,jd,qws (Nat.le_of_lt hj),wS j]
      refine Ev.chk (qwF h (qm5 ha hj) hm) fun _=>Ev.chkT1 ?_ (fun _=>hX);refine(h1 _ _ (by simp;omega)).cast ?_;rw[qwK (Nat.le_of_lt hj)];rfl
  unfold qg7;refine Ev.bind hL ?_;cases allN (fun j=>arcI c.As (gt c.Ak j)&&newArc c.Ak j) c.Ak.length
  · exact .done
  · refine Ev.now ?_
    show V (decide ((c.Ak.length:Int)≤((8:Nat):Int)))=V (true&&decide (c.Ak.length≤8));rw[qnM,jG]
def hasB (ar:List qH)(k:Int):Bool:=ar.any fun a=>a.Aq==k
theorem qpb {c:qv}{k:Int}(hl:c.Ak.length≤1048576):Ev (fun n=>qdE n c k) (hasB c.Ak k):=by
  unfold qdE qbt;exact Ev.last (Ev.bind (b:=ixL (fun x=>x.Aq==k) c.Ak) (qfS (fin:=(c.Ak.length:Int)) (Lf:=qaf c.Ak k) (pf:=fun n x=>qj9 n x k) (fun x _=>.done)
      (fun n=>by simp only[qaf,ql (je _),cond_false])
      (fun n j x hx=>by
        have hj:=(List.getElem?_eq_some_iff.1 hx).1;simp only[qaf,qj hj,cond_true,qas hx,jd,wS j])
      (fun n=>by unfold qbK;congr 1;funext o;cases o<;>rfl)) (Ev.now (by rw[qoq];rfl)))
def kindN (ar:List qH)(k:Nat)(j:Nat):Nat:=cntP (fun i=>(gt ar i).Aq==(k:Int)) j
theorem qsp {ar:List qH}{k:Nat}:decide (((kindN ar k ar.length:Nat):Int) > 0)=hasB ar k:=by
  rw[show decide (((kindN ar k ar.length:Nat):Int) > 0)=decide (0<kindN ar k ar.length) by simp];unfold kindN hasB;rw[qtB,quH]
theorem quT {ar:List qH}{k:Nat}:(((kindN ar k ar.length:Nat):Int)==0) = !hasB ar k:=by
  rw[←qsp,jj];simp
theorem quc {c:qv}(ha:okL qod c.Ak)(hk:∀ j,j<c.Ak.length→1≤(gt c.Ak j).Aq∧(gt c.Ak j).Aq≤5):Ev (fun n=>qjI n c) (vecC (fun k=>kindN c.Ak k c.Ak.length) 6):=by
  have hl:=ha.len;have hL:Ev (fun n=>qds c n (vecC (fun _=>0) 6) 0) (vecC (fun k=>kindN c.Ak k c.Ak.length) 6,(c.Ak.length:Int)):=by
    refine loopF (Lf:=qds c) (S:=fun j=>vecC (fun k=>kindN c.Ak k j) 6) (len:=c.Ak.length) (fun n=>?_) (fun j hj X hX=>?_)
    · simp only[qds,ql (je _),cond_false]
    · obtain⟨k1,k5⟩:=hk j hj
      have ek:(gt c.Ak j).Aq=(((gt c.Ak j).Aq.toNat:Nat):Int):=qhh (by omega);have hc:kindN c.Ak (gt c.Ak j).Aq.toNat j≤j:=qgz;simp only[qds,qj hj,cond_true,qz hj,jd,wS j];rw[ek,qk1 (show(gt c.Ak j).Aq.toNat<6 by omega)];simp only[jd];rw[qsn (c:=fun k=>kindN c.Ak k j) (by show kindN c.Ak _ j<_;omega)];have:vecC (fun i=>kindN c.Ak i j+(bif decide ((gt c.Ak j).Aq.toNat=i) then 1 else 0)) 6=vecC (fun k=>kindN c.Ak k (j+1)) 6:=by
        refine qkQ (fun k _=>?_);show _=kindN c.Ak k j+(bif (gt c.Ak j).Aq==(k:Int) then 1 else 0)
        congr 2
        rw[jj];simp;omega
      rw[this];exact hX
  unfold qjI;rw[show mkS 6 (0:Int)=V (vecC (fun _=>0) 6) from qnF (m:=6) (by omega)];simp only[jd];exact Ev.bind hL .done
def kindB (c:qv):Bool:=
  bif c.Aq==1 then(((clkN c.As c.As.length:Nat):Int)==0)&&(((c.Bm.length:Int)==((2 ^ (c.As.length-1):Nat):Int))&&(c.Bm.all fun x=>inI x 0 1))
  else bif c.Aq==2 then(((clkN c.As c.As.length:Nat):Int)==1)&&(((c.Bm.length:Int)==0)&&(!hasB c.Ak 1&&!(hasB c.Ak 2==hasB c.Ak 3)))
  else bif c.Aq==3 then(((clkN c.As c.As.length:Nat):Int)==1)&&(((c.Bm.length:Int)==0)&&(hasB c.Ak 1&&(hasB c.Ak 2&&!hasB c.Ak 3)))
  else false
theorem qrW {c:qv}(h:kindB c=true):clkN c.As c.As.length≤1:=by
  unfold kindB at h;cases h1:(c.Aq==1)
  · cases h2:(c.Aq==2)
    · cases h3:(c.Aq==3)
      · rw[h1,h2,h3] at h;cases h
      · rw[h1,h2,h3] at h
        simp only[cond_true,cond_false,jf,beq_iff_eq] at h;omega
    · rw[h1,h2] at h
      simp only[cond_true,cond_false,jf,beq_iff_eq] at h;omega
  · rw[h1] at h
    simp only[cond_true,jf,beq_iff_eq] at h;omega
theorem qty {m:Nat}(h1:2≤m)(h2:m≤5):shlS 1 (W64 ((m:Int)-1))=V ((2 ^ (m-1):Nat):Int)∧shlS 1 (IntKind.wrap .u64 (W64 ((m:Int)-1)))=V ((2 ^ (m-1):Nat):Int):=by
  have:m=2∨m=3∨m=4∨m=5:=by omega
  rcases this with rfl|rfl|rfl|rfl<;>exact⟨by decide,by decide⟩
theorem qud {c:qv}(hc:qnH c)(hm:2≤c.As.length)(hm5:c.As.length≤5):Ev (fun n=>qgm n c) (kindB c):=by
  have hl:=hc.As.len;have hL:Ev (fun n=>qbh c n 0 0) (((clkN c.As c.As.length:Nat):Int),(c.As.length:Int)):=by
    refine loopF (Lf:=qbh c) (S:=fun j=>((clkN c.As j:Nat):Int)) (len:=c.As.length) (fun n=>?_) (fun j hj X hX=>?_)
    · simp only[qbh,ql (je _),cond_false]
    · have hn:clkN c.As j≤j:=qgz
      simp only[qbh,qj hj,cond_true,qz hj,jd,wS j,qdM (show clkN c.As j<9223372036854775807 by omega)];have hck:clkN c.As (j+1)=clkN c.As j+(bif (gt c.As j).Bo then 1 else 0):=rfl;rw[hck] at hX;cases hc:(gt c.As j).Bo
      · rw[hc] at hX;exact Ev.ff Z hX
      · rw[hc] at hX;exact Ev.tt Z hX
  unfold qgm kindB;refine Ev.bind hL ?_;simp only[qcb,qb4,jd,(qty hm hm5).1];have hal:=hc.Ak.len;refine Ev.iff (fun _=>?_) (fun _=>Ev.iff (fun _=>?_) (fun _=>Ev.iff (fun _=>?_) (fun _=>.done)))
  · exact Ev.andP fun _=>Ev.andP fun _=>Ev.last (qgv hc.Bm.len)
  · exact Ev.andP fun _=>Ev.andP fun _=>Ev.bind (qpb hal) (Ev.andP fun _=>Ev.bind (qpb hal) (Ev.bind (qpb hal) .done))
  · exact Ev.andP fun _=>Ev.andP fun _=>Ev.and (qpb hal) fun _=>Ev.and (qpb hal) fun _=>Ev.bind (qpb hal) .done
def cellB (c:qv):Bool:=
  nameB c.Au&&(pinsB c.As&&((allN (fun j=>arcI c.As (gt c.Ak j)&&newArc c.Ak j) c.Ak.length&&decide (c.Ak.length≤8))&&(inI c.Bz 0 100000&&(inI c.Bs 0 100000&&kindB c))))
theorem qvL {c:qv}(hc:qnH c):Ev (fun n=>qlD n c) (cellB c):=by
  simp only[qlD,qpw hc.Au,qey,jd];unfold cellB;refine Ev.andP fun _=>Ev.and (quQ hc.As) fun hp=>?_;obtain⟨⟨hm,hm5⟩,_⟩:=qfD hp;exact Ev.and (qu2 hc.As hc.Ak hm) fun _=>Ev.andP fun _=>Ev.andP fun _=>Ev.last (qud hc hm hm5)
theorem qum {c:qv}(hc:qnH c):Ev (fun n=>qlp n c) (cellB c):=by
  have hal:=hc.Ak.len;have htl:=hc.Bm.len;have e:cellB c=((pinsB c.As&&(nameB c.Au&&(decide (c.Ak.length≤8)&&(inI c.Bz 0 100000&&inI c.Bs 0 100000))))&&(allN (fun j=>arcS c.As (gt c.Ak j)&&newArc c.Ak j) c.Ak.length&&kindB c)):=by
    unfold cellB;cases hk:kindB c
    · simp
    · cases hp:pinsB c.As
      · simp
      · rw[qip (fun j _=>by rw[qw3 hp (qrW hk)])]
        cases nameB c.Au<;>cases allN (fun j=>arcS c.As (gt c.Ak j)&&newArc c.Ak j) c.Ak.length<;>cases decide (c.Ak.length≤8)<;>cases inI c.Bz 0 100000<;>cases inI c.Bs 0 100000<;>rfl
  rw[e];unfold qlp;refine Ev.bind (quX hc.As) ?_;cases hp:pinsB c.As
  · exact .done
  · obtain⟨⟨hm,hm5⟩,_⟩:=qfD hp
    simp only[cond_true,jG,jW,cond_false];refine Ev.guardB ?_ (fun _=>?_)
    · simp only[qdk,jd,qdj]
      refine Ev.orB (qmt hc.Au) fun _=>?_;rw[show decide ((c.Ak.length:Int) > 8) = !decide (c.Ak.length≤8) by rw[jj];simp;omega,qdj];exact Ev.orBP fun _=>Ev.orBP fun _=>.done
    · have hL2:∀ j,j<c.Ak.length→Ev (fun n=>qdJ c (j:Int) (gt c.Ak j) n 0) (bif newArc c.Ak j then .nxt (j:Int) else .ret false):=by
        intro j hj;refine qfG ?_ (fun i hi X hX=>Ev.succ ?_)
        · exact Ev.succ (by simp only[qdJ,ql (je _),cond_false];exact .done)
        · simp only[qdJ,qj hi,cond_true,qz (show i<c.Ak.length by omega),jd,wS i]
          unfold sameArc;cases ((gt c.Ak i).Aq==(gt c.Ak j).Aq)
          · exact hX
          · cases ((gt c.Ak i).Bc==(gt c.Ak j).Bc)
            · exact hX
            · cases ((gt c.Ak i).To==(gt c.Ak j).To)
              · exact hX
              · exact .done
      have hL1:Ev (fun n=>qgc c n 0) (bif allN (fun j=>arcS c.As (gt c.Ak j)&&newArc c.Ak j) c.Ak.length then .nxt (c.Ak.length:Int) else .ret false):=by
        refine qfG ?_ (fun j hj X hX=>Ev.succ ?_)
        · exact Ev.succ (by simp only[qgc,ql (je _),cond_false];exact .done)
        · simp only[qgc,qj hj,cond_true,qz hj,jd,wS j]
          refine Ev.chk (qv8 hc.As (qm5 hc.Ak hj) hm) fun _=>Ev.bind (hL2 j hj) ?_;cases newArc c.Ak j
          · exact .done
          · exact hX
      have hL3:Ev (fun n=>qf4 c n 0) (bif (c.Bm.all fun x=>inI x 0 1) then .nxt (c.Bm.length:Int) else .ret false):=
        qo3 (fun n=>by simp only[qf4,ql (je _),cond_false]) (fun j hj X hX=>by
          simp only[qf4,qj hj,cond_true,qgq hj,jd,qdk,wS j,qdj];exact Ev.okP1 fun _=>hX)
      refine Ev.bind hL1 ?_;cases hA:allN (fun j=>arcS c.As (gt c.Ak j)&&newArc c.Ak j) c.Ak.length
      · exact .done
      · have hk:∀ j,j<c.Ak.length→1≤(gt c.Ak j).Aq∧(gt c.Ak j).Aq≤5:=fun j hj=>by
          have:=qaF.1 hA j hj;rw[jf] at this;exact qr9 this.1
        simp only[cond_true,jG];refine Ev.bind (quc hc.Ak hk) ?_;simp only[(qty hm hm5).2,jd,
          show idx (vecC (fun k=>kindN c.Ak k c.Ak.length) 6) (1:Int)=V ((kindN c.Ak 1 c.Ak.length:Nat):Int) from qk1 (k:=1) (by omega),
          show idx (vecC (fun k=>kindN c.Ak k c.Ak.length) 6) (2:Int)=V ((kindN c.Ak 2 c.Ak.length:Nat):Int) from qk1 (k:=2) (by omega),
          show idx (vecC (fun k=>kindN c.Ak k c.Ak.length) 6) (3:Int)=V ((kindN c.Ak 3 c.Ak.length:Nat):Int) from qk1 (k:=3) (by omega),qsp,quT]
        unfold kindB;refine Ev.iff (fun _=>?_) (fun _=>Ev.iff (fun _=>?_) (fun _=>Ev.iff (fun _=>?_) (fun _=>.done)))
        · refine Ev.bind hL3 ?_
          cases (c.Bm.all fun x=>inI x 0 1)
          · exact Ev.now (by simp)
          · exact(Ev.andP (fun _=>.done)).cast (by rw[Bool.and_true])
        · refine(Ev.andP fun _=>Ev.andP fun _=>Ev.andP fun _=>.done).cast ?_
          cases (((clkN c.As c.As.length:Nat):Int)==1)<;>cases ((c.Bm.length:Int)==0)<;>cases hasB c.Ak ((1:Nat):Int)<;>cases hasB c.Ak ((2:Nat):Int)<;>cases hasB c.Ak ((3:Nat):Int)<;>rfl
        · refine(Ev.andP fun _=>Ev.andP fun _=>Ev.andP fun _=>Ev.andP fun _=>.done).cast ?_
          cases (((clkN c.As c.As.length:Nat):Int)==1)<;>cases ((c.Bm.length:Int)==0)<;>cases hasB c.Ak ((1:Nat):Int)<;>cases hasB c.Ak ((2:Nat):Int)<;>cases hasB c.Ak ((3:Nat):Int)<;>rfl
def libB (l:qr):Bool:=l.Am.all cellB&&(decide (l.Am.length≤8)&&namesB (l.Am.map qv.Au))
theorem qtc {l:qr}(h:qis l):Ev (fun n=>qi5 n l) (libB l):=by
  have hl:=h.Am.len;have hL:Ev (fun n=>qc0 l n ([]:List ByteArray) 0) (bif allN (fun j=>cellB (gt l.Am j)) l.Am.length then .nxt (l.Am.map qv.Au,(l.Am.length:Int)) else .ret false):=by
    refine loopN (Lf:=qc0 l) (S:=fun j=>(l.Am.take j).map qv.Au) (fun j=>cellB (gt l.Am j)) (fun n=>?_) (fun j hj hp X hX=>?_)
    · simp only[qc0,ql (je _),cond_false,jH]
    · simp only[qc0,qj hj,cond_true,qz hj,jd,ql3 hj hl,qgk (g:=qv.Au) hj,wS j]
      exact Ev.chk1 (qvL (qm5 h.Am hj)) hX
  unfold qi5 libB;rw[qiZ];refine Ev.bind hL ?_;cases allN (fun j=>cellB (gt l.Am j)) l.Am.length
  · exact .done
  · simp only[cond_true,jG,show decide ((l.Am.length:Int)≤8)=decide (l.Am.length≤8) from qnM (k:=8)]
    exact Ev.andP fun _=>Ev.last (qj2 (qnE h.Am (fun x hx=>hx.Au)))
end Go.Fw


namespace Go.Fw
open Go
set_option maxRecDepth 100000
theorem quM {c:qv}(h:cellB c=true):nameB c.Au=true:=by
 unfold cellB at h;rw[jf] at h;exact h.1
theorem qhr {c:qv}(h:cellB c=true):pinsB c.As=true:=by
 unfold cellB at h;simp only[jf] at h;exact h.2.1
theorem qrF {l:qr}(h:qis l):Ev (fun n=>qi6 n l) (libB l):=by
 have hl:=h.Am.len;have hL2:∀ j,j<l.Am.length→Ev (fun n=>qdN l (j:Int) n 0) (bif allN (neB (l.Am.map qv.Au) j) j then .nxt (j:Int) else .ret false):=by
  intro j hj;refine qfG ?_ (fun i hi X hX=>Ev.succ ?_)
  ·exact Ev.succ (by simp only[qdN,ql (je _),cond_false];exact .done)
  ·simp only[qdN,qj hi,cond_true,qz (show i<l.Am.length by omega),qz hj,jd,qh6,wS i];unfold neB;rw[qkJ (g:=qv.Au) (show i<l.Am.length by omega),qkJ (g:=qv.Au) hj];exact Ev.chkP1 (fun _=>hX)
 have hL1:Ev (fun n=>qdO l n 0) (bif allN (fun j=>cellB (gt l.Am j)&&allN (neB (l.Am.map qv.Au) j) j) l.Am.length then .nxt (l.Am.length:Int) else .ret false):=by
  refine qfG ?_ (fun j hj X hX=>Ev.succ ?_)
  ·exact Ev.succ (by simp only[qdO,ql (je _),cond_false];exact .done)
  ·simp only[qdO,qj hj,cond_true,qz hj,jd,wS j];refine Ev.chk (qum (qm5 h.Am hj)) fun _=>Ev.bind (hL2 j hj) ?_;cases allN (neB (l.Am.map qv.Au) j) j
   ·exact .done
   ·exact hX
 have e:libB l=(allN (fun j=>cellB (gt l.Am j)&&allN (neB (l.Am.map qv.Au) j) j) l.Am.length&&decide (l.Am.length≤8)):=by
  unfold libB namesB;rw[qiZ,ju,Bool.and_comm (decide (l.Am.length≤8)),←Bool.and_assoc,←qmc]
  congr 1
  refine qip (fun j hj=>?_);rw[qkJ (g:=qv.Au) hj];cases hc:cellB (gt l.Am j)
  ·rfl
  ·rw[quM hc];rfl
 rw[e];unfold qi6;refine Ev.bind hL1 ?_;cases allN (fun j=>cellB (gt l.Am j)&&allN (neB (l.Am.map qv.Au) j) j) l.Am.length
 ·exact .done
 ·refine Ev.now ?_;show V (decide ((l.Am.length:Int)≤((8:Nat):Int)))=V (true&&decide (l.Am.length≤8));rw[qnM,jG]
theorem qlV {c c':Nat→Nat}{m:Nat}{x:Int}(h0:0≤x)(h1:x<m)(hc:c x.toNat<9223372036854775807)(he:∀ k,k<m→c' k=c k+(bif x==(k:Int) then 1 else 0)) :
  idx (vecC c m) x=V (c x.toNat:Int)∧setS (vecC c m) x (W64 ((c x.toNat:Int)+1))=vecC c' m:=by
 have ex:x=(x.toNat:Int):=qhh h0;have e1:=qk1 (c:=c) (m:=m) (k:=x.toNat) (by omega);have e2:=qsn (c:=c) (m:=m) (k:=x.toNat) hc;rw[←ex] at e1 e2;refine⟨e1,e2.trans (qkQ (fun k hk=>?_))⟩;rw[he k hk]
 congr 2
 rw[jj];simp;omega
def netB (d:qe)(x:Int):Bool:=inI x 0 ((d.Ah.length:Int)-1)
theorem qtQ {n:Nat}{d:qe}{x:Int}(hl:d.Ah.length≤1048576):qdV n d x=V (netB d x):=by
 simp only[qdV,qit,jd,qey,qfh (show d.Ah.length≤9223372036854775807 by omega)];rfl
theorem qr8 {n:Nat}{d:qe}{x:Int}(hl:d.Ah.length≤1048576):qaq n x 0 (W64 ((d.Ah.length:Int)-1))=V (netB d x):=by
 rw[qdk,qfh (show d.Ah.length≤9223372036854775807 by omega)];rfl
def hasNamesB (d:qe):Bool:=(decide (d.Ab.length≤14)&&(decide (d.Ah.length≤30)&&decide (d.Af.length≤8)))&&(namesB (d.Ab.map qk.Au)&&(namesB d.Ah&&namesB (d.Af.map qW.Au)))
theorem qtA {d:qe}(h:qkG d):Ev (fun n=>qfv n d) (hasNamesB d):=by
 have hli:=h.Ab.len;have hlp:=h.Af.len;have hL1:Ev (fun n=>qbx d n ([]:List ByteArray) 0) (d.Ab.map qk.Au,(d.Ab.length:Int)):=by
  refine loopF (Lf:=qbx d) (S:=fun j=>(d.Ab.take j).map qk.Au) (len:=d.Ab.length) (fun n=>?_) (fun j hj X hX=>?_)
  ·simp only[qbx,ql (je _),cond_false,jH]
  ·simpa only[qbx,qj hj,cond_true,qz hj,jd,ql3 hj hli,qgk (g:=qk.Au) hj,wS j] using hX
 have hL2:Ev (fun n=>qbv d n ([]:List ByteArray) 0) (d.Af.map qW.Au,(d.Af.length:Int)):=by
  refine loopF (Lf:=qbv d) (S:=fun j=>(d.Af.take j).map qW.Au) (len:=d.Af.length) (fun n=>?_) (fun j hj X hX=>?_)
  ·simp only[qbv,ql (je _),cond_false,jH]
  ·simpa only[qbv,qj hj,cond_true,qz hj,jd,ql3 hj hlp,qgk (g:=qW.Au) hj,wS j] using hX
 unfold qfv hasNamesB;refine Ev.bind hL1 (Ev.bind hL2 ?_);simp only[ju];rw[show decide ((d.Ab.length:Int)≤14)=decide (d.Ab.length≤14) from qnM (k:=14),show decide ((d.Ah.length:Int)≤30)=decide (d.Ah.length≤30) from qnM (k:=30),show decide ((d.Af.length:Int)≤8)=decide (d.Af.length≤8) from qnM (k:=8)];rw[Bool.and_assoc,Bool.and_assoc];exact Ev.andP fun _=>Ev.andP fun _=>Ev.andP fun _=>Ev.and (qj2 (qnE h.Ab (fun x hx=>hx.Au))) fun _=>Ev.and (qj2 h.Ah) fun _=>Ev.last (qj2 (qnE h.Af (fun x hx=>hx.Au)))
def instB (l:qr)(d:qe)(x:qk):Bool:=inI x.Bp 0 ((l.Am.length:Int)-1)&&(((x.Ah.length:Int)==((gt l.Am x.Bp.toNat).As.length:Int))&&x.Ah.all (netB d))
theorem qrz {d:qe}{l:qr}{x:qk}(hn:d.Ah.length≤1048576)(hc:l.Am.length≤1048576)(hx:x.Ah.length≤1048576):Ev (fun n=>qeq n d l x) (instB l d x):=by
 simp only[qeq,qgZ,jd,qey,qfh (show l.Am.length≤9223372036854775807 by omega)];unfold instB;refine Ev.andP fun hI=>?_;rw[qbA] at hI;rw[qd4 hI.1 (by omega)];simp only[jd];refine Ev.andP fun _=>Ev.bind (b:=x.Ah.any fun y=>!netB d y) ?_ (Ev.now (by rw[qqA]));unfold qaT;exact Ev.bind (b:=ixL (fun y=>!netB d y) x.Ah) (qfS (fin:=(x.Ah.length:Int)) (Lf:=qS x.Ah d) (pf:=fun n y=>qdD n y d) (fun y _=>⟨0,fun n _=>by simp only[qdD,qtQ hn,jd]⟩)
   (fun n=>by simp only[qS,ql (je _),cond_false])
   (fun n j y hx=>by
    have hj:=(List.getElem?_eq_some_iff.1 hx).1;simp only[qS,qj hj,cond_true,qas hx,jd,wS j])
   (fun n=>by unfold qba;congr 1;funext o;cases o<;>rfl)) (Ev.now (by rw[qoq]))
def portB (d:qe)(p:qW):Bool:=inI p.Bu 1 2&&netB d p.Bx
theorem qzz {x:Int}:inI x 1 2=((x==1) || (x==2)):=by
 unfold inI;rw[jj];simp;omega
def lastN (x:qk):Int:=at0 x.Ah (x.Ah.length-1)
theorem qtF {x:qk}(h1:1≤x.Ah.length)(h2:x.Ah.length≤1048576):idx x.Ah (W64 ((x.Ah.length:Int)-1))=V (lastN x):=by
 rw[qfh (by omega),show((x.Ah.length:Int)-1)=((x.Ah.length-1:Nat):Int) by omega,qaz (by omega)];rfl
theorem qvx {d:qe}{x:qk}(h1:1≤x.Ah.length)(h:x.Ah.all (netB d)=true):0≤lastN x∧lastN x<d.Ah.length:=by
 rw[qhu (d:=0),qaF] at h;have:=h (x.Ah.length-1) (by omega);unfold netB at this;rw[qbA] at this;unfold lastN at0;omega
theorem qrs {l:qr}{d:qe}{x:qk}(hl:libB l=true)(h:instB l d x=true):1≤x.Ah.length∧0≤lastN x∧lastN x<d.Ah.length:=by
 unfold instB at h;simp only[jf,qbA,beq_iff_eq] at h;obtain⟨h1,h2,h3⟩:=h;unfold libB at hl;simp only[jf] at hl;have hc:=hl.1;rw[qiZ,qaF] at hc;have:=qfD (qhr (hc x.Bp.toNat (by omega)));have h4:1≤x.Ah.length:=by omega
 exact⟨h4,qvx h4 h3⟩
def drvI (d:qe)(k j:Nat):Nat:=cntP (fun i=>lastN (gt d.Ab i)==(k:Int)) j
def drvP (d:qe)(k j:Nat):Nat:=cntP (fun i=>((gt d.Af i).Bu==1)&&((gt d.Af i).Bx==(k:Int))) j
def drvB (d:qe):Bool:=allN (fun k=>((drvI d k d.Ab.length+drvP d k d.Af.length:Nat):Int)==1) d.Ah.length
def designB (l:qr)(d:qe):Bool:=(libB l&&hasNamesB d)&&(d.Ab.all (instB l d)&&(d.Af.all (portB d)&&drvB d))
theorem qps {d:qe}{k j:Nat}:drvI d k (j+1)=drvI d k j+(bif lastN (gt d.Ab j)==(k:Int) then 1 else 0):=rfl
theorem qnG {d:qe}{k j:Nat}:drvP d k (j+1)=drvP d k j+(bif ((gt d.Af j).Bu==1)&&((gt d.Af j).Bx==(k:Int)) then 1 else 0):=rfl
theorem quh {l:qr}{d:qe}(h:qis l)(hd:qkG d):Ev (fun n=>qjw n l d) (designB l d):=by
 have hli:=hd.Ab.len;have hlp:=hd.Af.len;have hln:=hd.Ah.len;have hlc:=h.Am.len;unfold qjw designB;refine Ev.guardB (Ev.or (qtc h) fun _=>Ev.neg (qtA hd)) fun hb=>?_;rw[jf] at hb;rw[qnF (m:=d.Ah.length) (by omega)];simp only[jd];have hL1:Ev (fun n=>qdn l d n (vecC (fun _=>0) d.Ah.length) 0) (bif allN (fun j=>instB l d (gt d.Ab j)) d.Ab.length then .nxt (vecC (fun k=>drvI d k d.Ab.length) d.Ah.length,(d.Ab.length:Int)) else .ret false):=by
  refine loopN (Lf:=qdn l d) (S:=fun j=>vecC (fun k=>drvI d k j) d.Ah.length) (fun j=>instB l d (gt d.Ab j)) (fun n=>?_) (fun j hj hp X hX=>?_)
  ·simp only[qdn,ql (je _),cond_false]
  ·simp only[qdn,qj hj,cond_true,qz hj,jd,wS j];have hxl:=(qm5 hd.Ab hj).Ah.len;refine Ev.chk1 (qrz hln hlc hxl) fun hi=>?_;obtain⟨h1,h2,h3⟩:=qrs hb.1 hi;have hc:drvI d (lastN (gt d.Ab j)).toNat j≤j:=qgz;obtain⟨e1,e2⟩:=qlV (c:=fun k=>drvI d k j) (c':=fun k=>drvI d k (j+1)) h2 h3 (by show drvI _ _ _<_;omega) (fun k _=>qps);simp only[qtF h1 hxl,jd,e1,e2];exact hX hi
 have hL2:Ev (fun n=>qcL d n (vecC (fun k=>drvI d k d.Ab.length) d.Ah.length) 0) (bif allN (fun j=>portB d (gt d.Af j)) d.Af.length then .nxt (vecC (fun k=>drvI d k d.Ab.length+drvP d k d.Af.length) d.Ah.length,(d.Af.length:Int)) else .ret false):=by
  refine loopN (Lf:=qcL d) (S:=fun j=>vecC (fun k=>drvI d k d.Ab.length+drvP d k j) d.Ah.length) (fun j=>portB d (gt d.Af j)) (fun n=>?_) (fun j hj hp X hX=>?_)
  ·simp only[qcL,ql (je _),cond_false]
  ·simp only[qcL,qj hj,cond_true,qz hj,jd,qtQ hln,bne,wS j];refine Ev.chkT1 ?_ fun hi=>?_
   ·unfold portB;rw[qzz];cases ((gt d.Af j).Bu==1)<;>cases ((gt d.Af j).Bu==2)<;>exact .done
   ·have hX:=hX hi;unfold portB netB at hi;simp only[jf,qbA] at hi;have hc1:drvI d (gt d.Af j).Bx.toNat d.Ab.length≤d.Ab.length:=qgz;have hc2:drvP d (gt d.Af j).Bx.toNat j≤j:=qgz;cases h1:((gt d.Af j).Bu==1)
    ·have:vecC (fun k=>drvI d k d.Ab.length+drvP d k (j+1)) d.Ah.length=vecC (fun k=>drvI d k d.Ab.length+drvP d k j) d.Ah.length:=by
      refine qkQ (fun k _=>?_);rw[qnG,h1];rfl
     rw[this] at hX;exact hX
    ·obtain⟨e1,e2⟩:=qlV (c:=fun k=>drvI d k d.Ab.length+drvP d k j) (c':=fun k=>drvI d k d.Ab.length+drvP d k (j+1)) (x:=(gt d.Af j).Bx) (m:=d.Ah.length) hi.2.1 (by omega) (by show drvI _ _ _+drvP _ _ _<_;omega) (fun k _=>by rw[qnG,h1,jG];omega);simp only[cond_true,jd,e1,e2];exact hX
 rw[qiZ,qiZ];refine Ev.bind hL1 ?_;cases allN (fun j=>instB l d (gt d.Ab j)) d.Ab.length
 ·exact .done
 ·refine Ev.bind hL2 ?_;cases allN (fun j=>portB d (gt d.Af j)) d.Af.length
  ·exact .done
  ·simp only[cond_true,jG];unfold qbX;refine Ev.bind (b:=(vecC (fun k=>drvI d k d.Ab.length+drvP d k d.Af.length) d.Ah.length).any fun x=>!(x==1)) (Ev.bind (b:=ixL (fun x=>!(x==1)) (vecC (fun k=>drvI d k d.Ab.length+drvP d k d.Af.length) d.Ah.length)) (qfS (fin:=(((vecC (fun k=>drvI d k d.Ab.length+drvP d k d.Af.length) d.Ah.length).length:Nat):Int)) (Lf:=qat (vecC (fun k=>drvI d k d.Ab.length+drvP d k d.Af.length) d.Ah.length)) (pf:=fun n y=>qkc n y) (fun y _=>.done)
    (fun n=>by simp only[qat,ql (je _),cond_false])
    (fun n j y hx=>by
     have hj:=(List.getElem?_eq_some_iff.1 hx).1;have:j<d.Ah.length:=by rw[qnf] at hj;exact hj
     simp only[qat,qj hj,cond_true,qas hx,jd,wS j])
    (fun n=>by unfold qcm;congr 1;funext o;cases o<;>rfl)) (Ev.now (by rw[qoq]))) (Ev.now ?_)
   rw[qqA,qhu (d:=0),qnf];unfold drvB
   congr 1
   exact qip (fun k hk=>by
    have:=qtJ (c:=fun k=>drvI d k d.Ab.length+drvP d k d.Af.length) hk;unfold at0 at this;rw[this])
theorem quf {l:qr}{d:qe}(h:qis l)(hd:qkG d):Ev (fun n=>qjK n l d) (d.Ab.all (instB l d)&&d.Af.all (portB d)):=by
 have hli:=hd.Ab.len;have hlp:=hd.Af.len;have hln:=hd.Ah.len;have hlc:=h.Am.len;have hL2:∀ x:qk,x.Ah.length≤1048576→Ev (fun n=>qeN d x n 0) (bif x.Ah.all (netB d) then .nxt (x.Ah.length:Int) else .ret false):=fun x hx=>
  qo3 (fun n=>by simp only[qeN,ql (je _),cond_false]) (fun j hj X hX=>by
   simp only[qeN,qj hj,cond_true,qgq hj,jd,qr8 hln,wS j,qdj];exact Ev.okP1 fun _=>hX)
 have hL1:Ev (fun n=>qez l d n 0) (bif allN (fun j=>instB l d (gt d.Ab j)) d.Ab.length then .nxt (d.Ab.length:Int) else .ret false):=by
  refine qfG ?_ (fun j hj X hX=>Ev.succ ?_)
  ·exact Ev.succ (by simp only[qez,ql (je _),cond_false];exact .done)
  ·simp only[qez,qj hj,cond_true,qz hj,jd,qdk,qfh (show l.Am.length≤9223372036854775807 by omega),wS j,bne];have hxl:=(qm5 hd.Ab hj).Ah.len;unfold instB;rw[←Bool.and_assoc];refine Ev.chkT ?_ fun _=>Ev.bind (hL2 _ hxl) ?_
   ·simp only[qdj];refine Ev.orBP fun hI=>?_;rw[qbA] at hI;rw[qd4 hI.1 (by omega)];exact .done
   ·cases (gt d.Ab j).Ah.all (netB d)
    ·exact .done
    ·exact hX
 have hL3:Ev (fun n=>qew d n 0) (bif allN (fun j=>portB d (gt d.Af j)) d.Af.length then .nxt (d.Af.length:Int) else .ret false):=by
  refine qfG ?_ (fun j hj X hX=>Ev.succ ?_)
  ·exact Ev.succ (by simp only[qew,ql (je _),cond_false];exact .done)
  ·simp only[qew,qj hj,cond_true,qz hj,jd,qr8 hln,wS j];simp only[qdk,jd,qdj];unfold portB;exact Ev.okP fun _=>Ev.okP1 fun _=>hX
 unfold qjK;rw[qiZ,qiZ];refine Ev.bind hL1 ?_;cases allN (fun j=>instB l d (gt d.Ab j)) d.Ab.length
 ·exact .done
 ·refine Ev.bind hL3 ?_;cases allN (fun j=>portB d (gt d.Af j)) d.Af.length<;>exact .done
theorem qsI {l:qr}{d:qe}(h:qis l)(hd:qkG d):Ev (fun n=>qjz n l d) (designB l d):=by
 have hli:=hd.Ab.len;have hlp:=hd.Af.len;have hln:=hd.Ah.len;have hlc:=h.Am.len;have e:designB l d=((libB l&&(decide (d.Ab.length≤14)&&(decide (d.Ah.length≤30)&&(decide (d.Af.length≤8)&&(d.Ab.all (instB l d)&&d.Af.all (portB d))))))&&((namesB (d.Ab.map qk.Au)&&(namesB (d.Af.map qW.Au)&&namesB d.Ah))&&drvB d)):=by
  unfold designB hasNamesB;generalize libB l=a1;generalize decide (d.Ab.length≤14)=a2;generalize decide (d.Ah.length≤30)=a3;generalize decide (d.Af.length≤8)=a4;generalize d.Ab.all (instB l d)=a5;generalize d.Af.all (portB d)=a6;generalize namesB (d.Ab.map qk.Au)=a7;generalize namesB (d.Af.map qW.Au)=a8;generalize namesB d.Ah=a9;generalize drvB d=a10;rw[jj];simp only[jf];constructor
  ·rintro⟨⟨h1,⟨h2,h3,h4⟩,h7,h9,h8⟩,h5,h6,h10⟩;exact⟨⟨h1,h2,h3,h4,h5,h6⟩,⟨h7,h8,h9⟩,h10⟩
  ·rintro⟨⟨h1,h2,h3,h4,h5,h6⟩,⟨h7,h8,h9⟩,h10⟩;exact⟨⟨h1,⟨h2,h3,h4⟩,h7,h9,h8⟩,h5,h6,h10⟩
 rw[e];unfold qjz;refine Ev.guardB ?_ fun hb=>?_
 ·refine Ev.or (qrF h) fun _=>?_;rw[show decide ((d.Ab.length:Int) > 14) = !decide (d.Ab.length≤14) by rw[jj];simp;omega,show decide ((d.Ah.length:Int) > 30) = !decide (d.Ah.length≤30) by rw[jj];simp;omega,show decide ((d.Af.length:Int) > 8) = !decide (d.Af.length≤8) by rw[jj];simp;omega];simp only[qdj];exact Ev.orBP fun _=>Ev.orBP fun _=>Ev.orBP fun _=>Ev.neg (quf h hd)
 ·simp only[jf] at hb;obtain⟨hlib,_,_,_,hI,hP⟩:=hb;rw[qiZ,qaF] at hI hP;have hL1:Ev (fun n=>qdw d n ([]:List ByteArray) 0) (d.Ab.map qk.Au,(d.Ab.length:Int)):=by
   refine loopF (Lf:=qdw d) (S:=fun j=>(d.Ab.take j).map qk.Au) (len:=d.Ab.length) (fun n=>?_) (fun j hj X hX=>?_)
   ·simp only[qdw,ql (je _),cond_false,jH]
   ·simpa only[qdw,qj hj,cond_true,qz hj,jd,ql3 hj hli,qgk (g:=qk.Au) hj,wS j] using hX
  have hL2:Ev (fun n=>qdv d n ([]:List ByteArray) 0) (d.Af.map qW.Au,(d.Af.length:Int)):=by
   refine loopF (Lf:=qdv d) (S:=fun j=>(d.Af.take j).map qW.Au) (len:=d.Af.length) (fun n=>?_) (fun j hj X hX=>?_)
   ·simp only[qdv,ql (je _),cond_false,jH]
   ·simpa only[qdv,qj hj,cond_true,qz hj,jd,ql3 hj hlp,qgk (g:=qW.Au) hj,wS j] using hX
  have hL3:Ev (fun n=>qdz d n (vecC (fun _=>0) d.Ah.length) 0) (vecC (fun k=>drvI d k d.Ab.length) d.Ah.length,(d.Ab.length:Int)):=by
   refine loopF (Lf:=qdz d) (S:=fun j=>vecC (fun k=>drvI d k j) d.Ah.length) (len:=d.Ab.length) (fun n=>?_) (fun j hj X hX=>?_)
   ·simp only[qdz,ql (je _),cond_false]
   ·have hxl:=(qm5 hd.Ab hj).Ah.len;obtain⟨h1,h2,h3⟩:=qrs hlib (hI j hj);have hc:drvI d (lastN (gt d.Ab j)).toNat j≤j:=qgz;obtain⟨e1,e2⟩:=qlV (c:=fun k=>drvI d k j) (c':=fun k=>drvI d k (j+1)) h2 h3 (by show drvI _ _ _<_;omega) (fun k _=>qps);simpa only[qdz,qj hj,cond_true,qz hj,jd,wS j,qtF h1 hxl,e1,e2] using hX
  have hL4:Ev (fun n=>qcI d n (vecC (fun k=>drvI d k d.Ab.length) d.Ah.length) 0) (vecC (fun k=>drvI d k d.Ab.length+drvP d k d.Af.length) d.Ah.length,(d.Af.length:Int)):=by
   refine loopF (Lf:=qcI d) (S:=fun j=>vecC (fun k=>drvI d k d.Ab.length+drvP d k j) d.Ah.length) (len:=d.Af.length) (fun n=>?_) (fun j hj X hX=>?_)
   ·simp only[qcI,ql (je _),cond_false]
   ·have hi:=hP j hj;unfold portB netB at hi;simp only[jf,qbA] at hi;have hc1:drvI d (gt d.Af j).Bx.toNat d.Ab.length≤d.Ab.length:=qgz;have hc2:drvP d (gt d.Af j).Bx.toNat j≤j:=qgz;simp only[qcI,qj hj,cond_true,qz hj,jd,wS j];cases h1:((gt d.Af j).Bu==1)
    ·have:vecC (fun k=>drvI d k d.Ab.length+drvP d k (j+1)) d.Ah.length=vecC (fun k=>drvI d k d.Ab.length+drvP d k j) d.Ah.length:=by
      refine qkQ (fun k _=>?_);rw[qnG,h1];rfl
     rw[this] at hX;exact hX
    ·obtain⟨e1,e2⟩:=qlV (c:=fun k=>drvI d k d.Ab.length+drvP d k j) (c':=fun k=>drvI d k d.Ab.length+drvP d k (j+1)) (x:=(gt d.Af j).Bx) (m:=d.Ah.length) hi.2.1 (by omega) (by show drvI _ _ _+drvP _ _ _<_;omega) (fun k _=>by rw[qnG,h1,jG];omega);simp only[cond_true,jd,e1,e2];exact hX
  have hL5:Ev (fun n=>qeA (vecC (fun _=>0) d.Ah.length) (vecC (fun k=>drvI d k d.Ab.length+drvP d k d.Af.length) d.Ah.length) n 0) (bif drvB d then .nxt (d.Ah.length:Int) else .ret false):=by
   refine qfG ?_ (fun j hj X hX=>Ev.succ ?_)
   ·exact Ev.succ (by simp only[qeA,qnf,ql (je _),cond_false];exact .done)
   ·simp only[qeA,qnf,qj hj,cond_true,qk1 hj,jd,bne,qdj,wS j];exact Ev.okP1 fun _=>hX
  refine Ev.bind hL1 (Ev.bind hL2 ?_);refine Ev.guardB (Ev.or (qnb (qnE hd.Ab (fun x hx=>hx.Au))) fun _=>Ev.or (qnb (qnE hd.Af (fun x hx=>hx.Au))) fun _=>Ev.neg (qnb hd.Ah)) fun _=>?_;rw[qnF (m:=d.Ah.length) (by omega)];simp only[jd];refine Ev.bind hL3 (Ev.bind hL4 (Ev.bind hL5 ?_));cases drvB d<;>exact .done
end Go.Fw


namespace Go.Fw
open Go
set_option maxRecDepth 100000
theorem qyi {m k:Nat}:decide ((m:Int)<(k:Int)) = !decide (k≤m):=by rw[jj];simp
theorem qxT {m k:Nat}:decide ((m:Int) > (k:Int)) = !decide (m≤k):=by rw[jj];simp
def treeB (w:qG)(j:Nat):Bool:=bif decide (j=0) then(at0 w.Aj j==-1)&&(at0 w.Bv j==0) else inI (at0 w.Aj j) 0 ((j:Int)-1)
def wireB (w:qG)(s:Int):Bool:=
 lenB w.Aj 1 8&&(((w.Bv.length:Int)==(w.Aj.length:Int))&&(((w.Br.length:Int)==(w.Aj.length:Int))&&(allN (treeB w) w.Aj.length &&
  ((w.Bv.all fun x=>inI x 0 1000)&&((w.Br.all fun x=>inI x 0 500)&&(((w.Bi.length:Int)==s)&&(w.Bi.all fun x=>inI x 0 ((w.Aj.length:Int)-1))))))))
theorem qvO {w:qG}(hl:w.Aj.length≤1048576)(hr:((w.Bv.length:Int)==(w.Aj.length:Int))=true):Ev (fun n=>qhR n w) (allN (treeB w) w.Aj.length):=by
 rw[beq_iff_eq] at hr;have hL:Ev (fun n=>qbl w n 0) (bif allN (treeB w) w.Aj.length then .nxt (w.Aj.length:Int) else .ret false):=by
  refine qfG ?_ (fun j hj X hX=>Ev.succ ?_)
  ·exact Ev.succ (by simp only[qbl,ql (je _),cond_false];exact .done)
  ·simp only[qbl,qj hj,cond_true,qaz hj,jd,qey,wS j,bne,qdj];unfold treeB;by_cases h0:j=0
   ·subst h0;rw[show idx w.Bv (0:Int)=V (at0 w.Bv 0) from qaz (j:=0) (by omega)];simp only[jd];refine Ev.tt (by simp) (Ev.okP fun _=>Ev.okP1 fun _=>Ev.ff (by simp) hX)
   ·have e1:decide (j=0)=false:=by simp;omega
    have e2:((j:Int)==0)=false:=by simp;omega
    have e3:decide ((j:Int) > 0)=true:=by simp;omega
    rw[e1,e2,e3,qfh (show j≤9223372036854775807 by omega)];simp only[cond_false,cond_true];exact Ev.okP1 fun _=>hX
 unfold qhR;refine Ev.bind hL ?_;cases allN (treeB w) w.Aj.length<;>exact .done
theorem qv1 {w:qG}{s:Int}(h:qos w):Ev (fun n=>qlw n w s) (wireB w s):=by
 have hl:=h.Aj.len;simp only[qlw,qaL,jd,qey,qfh (show w.Aj.length≤9223372036854775807 by omega)];unfold wireB;rw[show inI (w.Aj.length:Int) 1 8=lenB w.Aj 1 8 from qsT (lo:=1) (hi:=8)];exact Ev.andP fun _=>Ev.andP fun hr=>Ev.andP fun _=>Ev.and (qvO hl hr) fun _=>Ev.and (qgv h.Bv.len) fun _=>Ev.and (qgv h.Br.len) fun _=>Ev.andP fun _=>Ev.last (qgv h.Bi.len)
theorem qu0 {w:qG}{s:Int}(h:qos w):Ev (fun n=>qln n w s) (wireB w s):=by
 have hl:=h.Aj.len;have hsl:=h.Bi.len;have e:wireB w s=((decide (1≤w.Aj.length)&&(decide (w.Aj.length≤8)&&(((w.Bv.length:Int)==(w.Aj.length:Int))&&(((w.Br.length:Int)==(w.Aj.length:Int))&&((w.Bi.length:Int)==s)))))&&(allN (fun j=>(inI (at0 w.Br j) 0 500&&inI (at0 w.Bv j) 0 1000)&&treeB w j) w.Aj.length&&(w.Bi.all fun x=>inI x 0 ((w.Aj.length:Int)-1)))):=by
  unfold wireB lenB;cases h1:((w.Bv.length:Int)==(w.Aj.length:Int))
  ·simp
  ·cases h2:((w.Br.length:Int)==(w.Aj.length:Int))
   ·simp
   ·rw[beq_iff_eq] at h1 h2;rw[qmc,qmc];rw[qhu (p:=fun x=>inI x 0 1000) (d:=0),qhu (p:=fun x=>inI x 0 500) (d:=0),show w.Bv.length=w.Aj.length by omega,show w.Br.length=w.Aj.length by omega];show _=(_&&((allN (fun j=>inI (w.Br.getD j 0) 0 500) _&&allN (fun j=>inI (w.Bv.getD j 0) 0 1000) _&&_)&&_));generalize allN (fun j=>inI (w.Br.getD j 0) 0 500) w.Aj.length=a1;generalize allN (fun j=>inI (w.Bv.getD j 0) 0 1000) w.Aj.length=a2;generalize allN (fun j=>treeB w j) w.Aj.length=a3;generalize ((w.Bi.length:Int)==s)=a4;generalize decide (1≤w.Aj.length)=a5;generalize decide (w.Aj.length≤8)=a6;generalize (w.Bi.all fun x=>inI x 0 ((w.Aj.length:Int)-1))=a7;cases a1<;>cases a2<;>cases a3<;>cases a4<;>cases a5<;>cases a6<;>rfl
 rw[e];unfold qln;refine Ev.guardB ?_ fun hb=>?_
 ·rw[show decide ((w.Aj.length:Int)<1) = !decide (1≤w.Aj.length) from qyi (k:=1),show decide ((w.Aj.length:Int) > 8) = !decide (w.Aj.length≤8) from qxT (k:=8)];simp only[bne,qdj];exact Ev.orBP fun _=>Ev.orBP fun _=>Ev.orBP fun _=>Ev.orBP fun _=>.done
 ·simp only[jf,beq_iff_eq] at hb;have hL1:Ev (fun n=>qc1 w n 0) (bif allN (fun j=>(inI (at0 w.Br j) 0 500&&inI (at0 w.Bv j) 0 1000)&&treeB w j) w.Aj.length then .nxt (w.Aj.length:Int) else .ret false):=by
   refine qfG ?_ (fun j hj X hX=>Ev.succ ?_)
   ·exact Ev.succ (by simp only[qc1,ql (je _),cond_false];exact .done)
   ·simp only[qc1,qj hj,cond_true,qaz hj,qaz (show j<w.Br.length by omega),qaz (show j<w.Bv.length by omega),jd,qdk,wS j,bne,qdj];refine Ev.chkT (Ev.orBP fun _=>.done) fun _=>?_;unfold treeB;by_cases h0:j=0
    ·subst h0;refine Ev.tt (by simp) (Ev.okP fun _=>Ev.okP1 fun _=>Ev.ff (by simp) hX)
    ·have e1:decide (j=0)=false:=by simp;omega
     have e2:((j:Int)==0)=false:=by simp;omega
     have e3:decide ((j:Int) > 0)=true:=by simp;omega
     rw[e1,e2,e3,qfh (show j≤9223372036854775807 by omega)];simp only[cond_false,cond_true];exact Ev.okP1 fun _=>hX
  have hL2:Ev (fun n=>qf5 w n 0) (bif (w.Bi.all fun x=>inI x 0 ((w.Aj.length:Int)-1)) then .nxt (w.Bi.length:Int) else .ret false):=
   qo3 (fun n=>by simp only[qf5,ql (je _),cond_false]) (fun j hj X hX=>by
    simp only[qf5,qj hj,cond_true,qgq hj,jd,qdk,qfh (show w.Aj.length≤9223372036854775807 by omega),wS j,qdj];exact Ev.okP1 fun _=>hX)
  refine Ev.bind hL1 ?_;cases allN (fun j=>(inI (at0 w.Br j) 0 500&&inI (at0 w.Bv j) 0 1000)&&treeB w j) w.Aj.length
  ·exact .done
  ·refine Ev.bind hL2 ?_;cases (w.Bi.all fun x=>inI x 0 ((w.Aj.length:Int)-1))<;>exact .done
instance:Inhabited Tplace:=⟨⟨0,0,0,false⟩⟩
instance:Inhabited Tl05Place:=⟨⟨0,0,0,false⟩⟩
def toSp (p:Tplace):Tl05Place:=⟨p.instance_,p.pin,p.net,p.drives⟩
def plX (i:Nat)(x:qk)(j:Nat):List Tplace:=(List.range j).map fun(k:Nat)=>⟨(i:Int),(k:Int),at0 x.Ah k,decide (k+1=x.Ah.length)⟩
def plI (d:qe)(j:Nat):List Tplace:=(List.range j).flatMap fun(i:Nat)=>plX i (gt d.Ab i) (gt d.Ab i).Ah.length
def plP (d:qe)(j:Nat):List Tplace:=(List.range j).map fun(i:Nat)=>⟨-1,(i:Int),(gt d.Af i).Bx,(gt d.Af i).Bu==1⟩
def places (d:qe):List Tplace:=plI d d.Ab.length++plP d d.Af.length
theorem qt1 {i:Nat}{x:qk}{j:Nat}:plX i x (j+1)=plX i x j++[⟨(i:Int),(j:Int),at0 x.Ah j,decide (j+1=x.Ah.length)⟩]:=by
 unfold plX;rw[Je,jF];rfl
theorem qmY {d:qe}{j:Nat}:plI d (j+1)=plI d j++plX j (gt d.Ab j) (gt d.Ab j).Ah.length:=by
 unfold plI;rw[Je,List.flatMap_append];simp
theorem qtj {d:qe}{j:Nat}:plP d (j+1)=plP d j++[⟨-1,(j:Int),(gt d.Af j).Bx,(gt d.Af j).Bu==1⟩]:=by
 unfold plP;rw[Je,jF];rfl
theorem qqD {i:Nat}{x:qk}{j:Nat}:(plX i x j).length=j:=by simp[plX]
theorem qqB {d:qe}{j:Nat}:(plP d j).length=j:=by simp[plP]
structure smallD (d:qe):Prop where
 ni:d.Ab.length≤14
 nn:d.Ah.length≤30
 np:d.Af.length≤8
 nx:∀ i,i<d.Ab.length→2≤(gt d.Ab i).Ah.length∧(gt d.Ab i).Ah.length≤5
theorem qU {l:qr}{d:qe}(h:designB l d=true):smallD d:=by
 unfold designB hasNamesB libB at h;simp only[jf,decide_eq_true_eq] at h;obtain⟨⟨⟨hc,_⟩,⟨h1,h2,h3⟩,_⟩,hI,_⟩:=h;refine⟨h1,h2,h3,fun i hi=>?_⟩;rw[qiZ,qaF] at hI hc;have:=hI i hi;unfold instB at this;simp only[jf,qbA,beq_iff_eq] at this;have h5:=qfD (qhr (hc (gt d.Ab i).Bp.toNat (by omega)));omega
theorem qoW {d:qe}(h:smallD d){j:Nat}(hj:j≤d.Ab.length):(plI d j).length≤5*j:=by
 induction j with
 | zero=>exact je _
 | succ j ih=>
  rw[qmY,jh,qqD];have:=ih (by omega);have:=h.nx j (by omega);omega
theorem qbc {d:qe}(h:smallD d):(places d).length≤78:=by
 unfold places;rw[jh,qqB];have:=qoW h (je _);have:=h.ni;have:=h.np;omega
theorem qnK {d:qe}(h:smallD d):Ev (fun n=>qcC n d) (places d):=by
 have h1:=h.ni;have h2:=h.np;have hL2:∀ i,i<d.Ab.length→∀ pre:List Tplace,pre.length≤100→Ev (fun n=>qbQ (i:Int) (gt d.Ab i) n pre 0) (pre++plX i (gt d.Ab i) (gt d.Ab i).Ah.length,((gt d.Ab i).Ah.length:Int)):=by
  intro i hi pre hp;have h5:=h.nx i hi;have:=loopF (Lf:=qbQ (i:Int) (gt d.Ab i)) (S:=fun j=>pre++plX i (gt d.Ab i) j) (len:=(gt d.Ab i).Ah.length) (fin:=(pre++plX i (gt d.Ab i) (gt d.Ab i).Ah.length,((gt d.Ab i).Ah.length:Int))) (fun n=>by
    simp only[qbQ,ql (je _),cond_false])
   (fun j hj X hX=>by
    have hc:(pre++plX i (gt d.Ab i) j).length+[(⟨(i:Int),(j:Int),at0 (gt d.Ab i).Ah j,decide (j+1=(gt d.Ab i).Ah.length)⟩:Tplace)].length≤2147483648:=by
     rw[jh,qqD];simp;omega
    simp only[qbQ,qj hj,cond_true,qaz hj,jd,lastE hj (show(gt d.Ab i).Ah.length≤1048576 by omega),qb0 hc,jp,←qt1,wS j];exact hX)
  simpa [plX] using this
 have hL1:Ev (fun n=>qbT d n ([]:List Tplace) 0) (plI d d.Ab.length,(d.Ab.length:Int)):=by
  refine loopF (Lf:=qbT d) (S:=fun j=>plI d j) (len:=d.Ab.length) (fun n=>?_) (fun j hj X hX=>?_)
  ·simp only[qbT,ql (je _),cond_false]
  ·simp only[qbT,qj hj,cond_true,qz hj,jd,wS j];refine Ev.bind (hL2 j hj _ (by have:=qoW h (Nat.le_of_lt hj);omega)) ?_;rw[←qmY];exact hX
 have hL3:Ev (fun n=>qbS d n (plI d d.Ab.length) 0) (places d,(d.Af.length:Int)):=by
  have:=loopF (Lf:=qbS d) (S:=fun j=>plI d d.Ab.length++plP d j) (len:=d.Af.length) (fin:=(places d,(d.Af.length:Int))) (fun n=>by
    simp only[qbS,ql (je _),cond_false];rfl)
   (fun j hj X hX=>by
    have hc:(plI d d.Ab.length++plP d j).length+[(⟨-1,(j:Int),(gt d.Af j).Bx,(gt d.Af j).Bu==1⟩:Tplace)].length≤2147483648:=by
     rw[jh,qqB];have:=qoW h (je _);simp;omega
    simp only[qbS,qj hj,cond_true,qz hj,jd,qb0 hc,jp,←qtj,wS j];exact hX)
  simpa [plP] using this
 unfold qcC;exact Ev.bind hL1 (Ev.bind hL3 .done)
theorem qgt {d:qe}(h:smallD d):Ev (fun n=>qbH n d) ((places d).map toSp):=by
 have h1:=h.ni;have h2:=h.np;have hL2:∀ i,i<d.Ab.length→∀ pre:List Tplace,pre.length≤100→Ev (fun n=>qcR (i:Int) (gt d.Ab i) n (pre.map toSp) 0) ((pre++plX i (gt d.Ab i) (gt d.Ab i).Ah.length).map toSp,((gt d.Ab i).Ah.length:Int)):=by
  intro i hi pre hp;have h5:=h.nx i hi;have:=loopF (Lf:=qcR (i:Int) (gt d.Ab i)) (S:=fun j=>(pre++plX i (gt d.Ab i) j).map toSp) (len:=(gt d.Ab i).Ah.length) (fin:=((pre++plX i (gt d.Ab i) (gt d.Ab i).Ah.length).map toSp,((gt d.Ab i).Ah.length:Int))) (fun n=>by
    simp only[qcR,ql (je _),cond_false])
   (fun j hj X hX=>by
    have hc:((pre++plX i (gt d.Ab i) j).map toSp).length+[(⟨(i:Int),(j:Int),at0 (gt d.Ab i).Ah j,decide (j+1=(gt d.Ab i).Ah.length)⟩:Tl05Place)].length≤2147483648:=by
     rw[ju,jh,qqD];simp;omega
    simp only[qcR,qj hj,cond_true,qaz hj,jd,lastE hj (show(gt d.Ab i).Ah.length≤1048576 by omega),qb0 hc,wS j];rw[qt1,←jp,jF] at hX;exact hX)
  simpa [plX] using this
 have hL1:Ev (fun n=>qcV d n ([]:List Tl05Place) 0) ((plI d d.Ab.length).map toSp,(d.Ab.length:Int)):=by
  refine loopF (Lf:=qcV d) (S:=fun j=>(plI d j).map toSp) (len:=d.Ab.length) (fun n=>?_) (fun j hj X hX=>?_)
  ·simp only[qcV,ql (je _),cond_false]
  ·simp only[qcV,qj hj,cond_true,qz hj,jd,wS j];refine Ev.bind (hL2 j hj _ (by have:=qoW h (Nat.le_of_lt hj);omega)) ?_;rw[←qmY];exact hX
 have hL3:Ev (fun n=>qcY d n ((plI d d.Ab.length).map toSp) 0) ((places d).map toSp,(d.Af.length:Int)):=by
  have:=loopF (Lf:=qcY d) (S:=fun j=>(plI d d.Ab.length++plP d j).map toSp) (len:=d.Af.length) (fin:=((places d).map toSp,(d.Af.length:Int))) (fun n=>by
    simp only[qcY,ql (je _),cond_false];rfl)
   (fun j hj X hX=>by
    have hc:((plI d d.Ab.length++plP d j).map toSp).length+[(⟨-1,(j:Int),(gt d.Af j).Bx,(gt d.Af j).Bu==1⟩:Tl05Place)].length≤2147483648:=by
     rw[ju,jh,qqB];have:=qoW h (je _);simp;omega
    simp only[qcY,qj hj,cond_true,qz hj,jd,qb0 hc,wS j];rw[qtj,←jp,jF] at hX;exact hX)
  simpa [plP] using this
 unfold qbH;exact Ev.bind hL1 (Ev.bind hL3 .done)
def snkQ (d:qe)(k:Int)(i:Nat):Bool:=((gt (places d) i).net==k)&&!(gt (places d) i).drives
def sinksL (d:qe)(k:Int)(j:Nat):List Int:=((List.range j).filter (snkQ d k)).map fun(i:Nat)=>(i:Int)
def snkN (d:qe)(k:Int):Nat:=cntP (snkQ d k) (places d).length
theorem qjS {d:qe}{k:Int}{j:Nat}:sinksL d k (j+1)=sinksL d k j++(bif snkQ d k j then[(j:Int)] else[]):=by
 unfold sinksL;rw[Je,List.filter_append,jF]
 congr 1
 cases h:snkQ d k j<;>simp[h]
theorem qju {d:qe}{k:Int}{j:Nat}:(sinksL d k j).length=cntP (snkQ d k) j:=by
 induction j with
 | zero=>rfl
 | succ j ih=>
  rw[qjS,jh,ih];show _=cntP (snkQ d k) j+_
  congr 1
  cases snkQ d k j<;>rfl
theorem qpj {α β:Type}[Inhabited α][Inhabited β]{xs:List α}{g:α→β}{j:Nat}(h:j<xs.length):gt (xs.map g) j=g (gt xs j):=by
 rw[qdW (by simpa using h),qdW h];simp
theorem qm8 {d:qe}{k:Int}(h:smallD d):Ev (fun n=>qgQ n d k) (sinksL d k (places d).length):=by
 have hl:=qbc h;have hL:Ev (fun n=>qcM k ((places d).map toSp) n ([]:List Int) 0) (sinksL d k (places d).length,((places d).length:Int)):=by
  refine loopF (Lf:=qcM k ((places d).map toSp)) (S:=fun j=>sinksL d k j) (len:=(places d).length) (fun n=>?_) (fun j hj X hX=>?_)
  ·simp only[qcM,ju,ql (je _),cond_false]
  ·have hj':j<((places d).map toSp).length:=by simpa using hj
   have hc:(sinksL d k j).length+[(j:Int)].length≤2147483648:=by
    rw[qju];have:cntP (snkQ d k) j≤j:=qgz;simp;omega
   simp only[qcM,qj hj',cond_true,qz hj',qpj hj,jd,wS j];rw[show ∀ p:Tplace,(toSp p).net=p.net from fun _=>rfl,show ∀ p:Tplace,(toSp p).drives=p.drives from fun _=>rfl];refine Ev.bind (b:=snkQ d k j) (Ev.andP fun _=>.done) ?_;rw[qjS] at hX;cases hq:snkQ d k j
   ·rw[hq] at hX;simp only[cond_false,jX] at hX ⊢;exact hX
   ·rw[hq] at hX;simp only[cond_true,qb0 hc,jd] at hX ⊢;exact hX
 unfold qgQ;exact Ev.bind (qgt h) (Ev.bind hL .done)
theorem qmr {l:qr}{d:qe}(h:designB l d=true){i:Nat}(hi:i<(places d).length):0≤(gt (places d) i).net∧(gt (places d) i).net<d.Ah.length:=by
 unfold designB at h;simp only[jf] at h;obtain⟨_,hI,hP,_⟩:=h;rw[qiZ,qaF] at hI hP;have hm:gt (places d) i ∈ places d:=by rw[qdW hi];exact jo hi
 generalize gt (places d) i=p at hm;unfold places at hm;rcases List.mem_append.1 hm with hm|hm
 ·unfold plI at hm;obtain⟨i,hi,hm⟩:=List.mem_flatMap.1 hm;unfold plX at hm;obtain⟨k,hk,rfl⟩:=List.mem_map.1 hm;have:=hI i (List.mem_range.1 hi);unfold instB at this;simp only[jf] at this;have h3:=this.2.2;rw[qhu (d:=0),qaF] at h3;have h4:=h3 k (List.mem_range.1 hk);unfold netB at h4;rw[qbA] at h4;show 0≤at0 _ _∧at0 _ _<_;unfold at0;omega
 ·unfold plP at hm;obtain⟨i,hi,rfl⟩:=List.mem_map.1 hm;have:=hP i (List.mem_range.1 hi);unfold portB netB at this;simp only[jf,qbA] at this;show 0≤(gt d.Af i).Bx∧(gt d.Af i).Bx<_;omega
def blockB (b:qd):Bool:=(designB b.Ap b.Aa&&((b.Ac.length:Int)==(b.Aa.Ah.length:Int)))&&allN (fun j=>wireB (gt b.Ac j) (snkN b.Aa (j:Int))) b.Ac.length
theorem quN {b:qd}(h:qla b):Ev (fun n=>qiP n b) (blockB b):=by
 have hwl:=h.Ac.len;unfold qiP blockB;refine Ev.guardB (Ev.or (quh h.Ap h.Aa) fun _=>.done) fun hb=>?_;rw[jf,beq_iff_eq] at hb;obtain⟨hd,hw⟩:=hb;have hs:=qU hd;have hl:=qbc hs;have hn:=hs.nn;rw[qnF (m:=b.Ac.length) (by omega)];simp only[jd];have hL1:Ev (fun n=>qdg (places b.Aa) n (vecC (fun _=>0) b.Ac.length) 0) (vecC (fun k=>snkN b.Aa (k:Int)) b.Ac.length,((places b.Aa).length:Int)):=by
  refine loopF (Lf:=qdg (places b.Aa)) (S:=fun j=>vecC (fun k=>cntP (snkQ b.Aa (k:Int)) j) b.Ac.length) (len:=(places b.Aa).length) (fun n=>?_) (fun j hj X hX=>?_)
  ·simp only[qdg,ql (je _),cond_false];rfl
  ·simp only[qdg,qj hj,cond_true,qz hj,jd,wS j];obtain⟨n0,n1⟩:=qmr hd hj;cases h1:(gt (places b.Aa) j).drives
   ·have hc:cntP (snkQ b.Aa (((gt (places b.Aa) j).net.toNat:Nat):Int)) j≤j:=qgz;obtain⟨e1,e2⟩:=qlV (c:=fun k=>cntP (snkQ b.Aa (k:Int)) j) (c':=fun k=>cntP (snkQ b.Aa (k:Int)) (j+1)) (x:=(gt (places b.Aa) j).net) (m:=b.Ac.length) n0 (by omega) (by show cntP _ _<_;omega) (fun k _=>by
     show cntP _ j+(bif snkQ b.Aa (k:Int) j then 1 else 0)=_;unfold snkQ;rw[h1,Bool.not_false,Bool.and_true])
    simp only[Bool.not_false,cond_true,jd,e1,e2];exact hX
   ·have:vecC (fun k=>cntP (snkQ b.Aa (k:Int)) (j+1)) b.Ac.length=vecC (fun k=>cntP (snkQ b.Aa (k:Int)) j) b.Ac.length:=by
     refine qkQ (fun k _=>?_);show cntP _ j+(bif snkQ b.Aa (k:Int) j then 1 else 0)=_;unfold snkQ;rw[h1,jW,Bool.and_false];rfl
    rw[this] at hX;exact hX
 have hL2:Ev (fun n=>qe8 b (vecC (fun k=>snkN b.Aa (k:Int)) b.Ac.length) n 0) (bif allN (fun j=>wireB (gt b.Ac j) (snkN b.Aa (j:Int))) b.Ac.length then .nxt (b.Ac.length:Int) else .ret false):=by
  refine qfG ?_ (fun j hj X hX=>Ev.succ ?_)
  ·exact Ev.succ (by simp only[qe8,ql (je _),cond_false];exact .done)
  ·simp only[qe8,qj hj,cond_true,qz hj,qk1 hj,jd,wS j];exact Ev.chk1 (qv1 (qm5 h.Ac hj)) fun _=>hX
 refine Ev.bind (qnK hs) (Ev.bind hL1 (Ev.bind hL2 ?_));cases allN (fun j=>wireB (gt b.Ac j) (snkN b.Aa (j:Int))) b.Ac.length<;>exact .done
theorem qpQ {b:qd}(h:qla b):Ev (fun n=>qhS n b) (blockB b):=by
 have hwl:=h.Ac.len;unfold qhS blockB;refine Ev.guardB (Ev.or (qsI h.Ap h.Aa) fun _=>.done) fun hb=>?_;rw[jf] at hb;have hs:=qU hb.1;have hL:Ev (fun n=>qff b n 0) (bif allN (fun j=>wireB (gt b.Ac j) (snkN b.Aa (j:Int))) b.Ac.length then .nxt (b.Ac.length:Int) else .ret false):=by
  refine qfG ?_ (fun j hj X hX=>Ev.succ ?_)
  ·exact Ev.succ (by simp only[qff,ql (je _),cond_false];exact .done)
  ·simp only[qff,qj hj,cond_true,qz hj,jd,wS j];refine Ev.bind (qm8 hs) ?_;rw[qju];exact Ev.chk1 (qu0 (qm5 h.Ac hj)) fun _=>hX
 refine Ev.bind hL ?_;cases allN (fun j=>wireB (gt b.Ac j) (snkN b.Aa (j:Int))) b.Ac.length<;>exact .done
end Go.Fw
