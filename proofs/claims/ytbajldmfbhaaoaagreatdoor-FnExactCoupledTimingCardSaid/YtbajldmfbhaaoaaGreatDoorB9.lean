/- By a program of mine (gen.py): for each function a plain function and the proof that the code computes it. -/
import Derived.Test.YtbajldmfbhaaoaaGreatDoorA2
import Derived.Test.YtbajldmfbhaaoaaGreatDoorFw33
open Option renaming bind_some → jd, some → V, none → U
open Nat renaming le_refl → je, le_of_ble_eq_true → jp, mul_le_mul_right → js, lt_of_lt_of_le → jw, succ_mul → jO, zero_add → jW, le_trans → Jb, add_zero → Jh
open Bool renaming and_eq_true → jf, eq_iff_iff → jk, true_and → jx, not_eq_true' → jF, not_true → jV, false_or → Jj
open Go.Result renaming andThen_ok → jg
open List renaming length_append → jh, getElem?_eq_getElem → ji, mem_cons_of_mem → jo, getElem_mem → jq, append_assoc → jr, length_singleton → jt, mem_cons_self → ju, getElem?_append_left → jv, length_map → jy, getElem?_take → jz, take_succ_eq_append_getElem → jB, getElem?_append_right → jC, getD_eq_getElem?_getD → jD, take_length → jG, getElem?_toArray → jH, all_eq_true → jI, size_toArray → jJ, length_replicate → jK, eq_nil_of_length_eq_zero → jL, drop_eq_getElem_cons → jM, map_append → jN, length_take → jP, not_mem_nil → jQ, getElem_of_mem → jR, mem_append_left → jS, append_nil → jU, mem_of_getElem? → jX, mem_cons → Ja, range_succ → Jd, length_cons → Je, ext_getElem → Jf, map_cons → Jg
open Go.Sem renaming run_bind → jj, run_pure → jm
open Int renaming toNat_natCast → jn, tdiv_eq_ediv_of_nonneg → jE, mul_nonneg → jT, le_refl → jY, mul_assoc → jZ, mul_le_mul → Jc, add_zero → Ji
open Array renaming getElem?_append_left → jA

namespace Go.Fw
open Go Go.Proofs Go.Proofs.Tryz
open Go.RowKit (Below)
set_option maxRecDepth 100000
set_option maxHeartbeats 1600000
variable {n:Nat}{w:World}{cs1 cs2 cs3 cs4 cs5 cs6 cs7 cs8 cs9:List Value}
def qe3 (a:qg)(c:qm):Nat→Int→Option (Flow Bool Int)
 | 0,_=>U
 | n+1,b=>
  bif decide (b<(c.Ai.length:Int)) then
   (idx c.Ai b).bind fun f=>
   (qaB n f 0 (W64 ((a.Ai.length:Int)-1))).bind fun d=>
   bif (!d) then V (.ret false) else
   qe3 a c n (W64 (b+1))
  else
   V (.nxt b)
def qeV (a:qg):Nat→Int→Option (Flow Bool Int)
 | 0,_=>U
 | n+1,b=>
  bif decide (b<(a.Ah.length:Int)) then
   (idx a.Ah b).bind fun f=>
   (qaB n f.Bs 1 2).bind fun c=>
   bif (!c) then V (.ret false) else
   (idx a.Ah b).bind fun g=>
   (qaB n g.Bu 0 (W64 ((a.Ai.length:Int)-1))).bind fun d=>
   bif (!d) then V (.ret false) else
   qeV a n (W64 (b+1))
  else
   V (.nxt b)
def qeZ (b:qt)(a:qg):Nat→Int→Option (Flow Bool Int)
 | 0,_=>U
 | n+1,c=>
  bif decide (c<(a.Ab.length:Int)) then
   (idx a.Ab c).bind fun d=>
   (
    (qaB n d.Bo 0 (W64 ((b.Ap.length:Int)-1))).bind fun f=>
    bif (!f) then V true else
    (idx b.Ap d.Bo).bind fun g=>
    V ((d.Ai.length:Int) != (g.Av.length:Int))).bind fun b2=>
   bif b2 then V (.ret false) else
   (qe3 a d n 0).bind fun o=>match o with
   | .ret r=>V (.ret r)
   | .nxt _=>
    qeZ b a n (W64 (c+1))
  else
   V (.nxt c)
def qkp (n:Nat)(b:qt)(a:qg):Option Bool:=
 (qeZ b a n 0).bind fun o=>match o with
 | .ret r=>V r
 | .nxt _=>
  (qeV a n 0).bind fun o=>match o with
  | .ret r=>V r
  | .nxt _=>
   V true
theorem qqI {c:qt}{a:qg}(C:Ro w c cs1)(D:Ro w a cs2){r:Bool}(F:qkp n c a=V r):RetV prog 189 [GoT.v qt cs1,GoT.v qg cs2] w r:=by
 obtain⟨p1,k1,rfl,s1⟩:=qbN C;obtain⟨y,u,z,v,A,x,rfl,s2,_,s4⟩:=qaI D;refine zV 90 func189 Z fun h=>zSR (qw h Z Z fun _ d h=>qw h Z Z fun _ b h=>X1 14 0 h Z ?_);obtain⟨o1,F,g⟩:=qd F;refine qn (rL (fun m e w'=>∃(s:Int),qeZ c a m s=V o1∧e=[(2,.pointer (V ⟨d,0,U⟩)),(3,.pointer (V ⟨b,0,U⟩)),(5,.int .i64 (a.Ai.length:Int)),(6,.int .i64 s)]∧SH w w' [Ch.box b (qaV a y z A u v x) 54,Ch.box d [.slice p1 c.Ap.length k1] 50]) n ⟨_,F,rfl,h⟩ Z ?_);rintro m1 _ _ ⟨s,F,rfl,h⟩;rcases m1 with _|m1
 ·cases F
 refine X1 9 0 h Z (qi Z F ?_ ?_)<;>intro F
 ·refine X1 8 0 h Z ?_;obtain⟨y1,_,F,L,_,_,_,_,Q,X,a6,H⟩:=s2.ix F;obtain⟨p5,k5,rfl,s5⟩:=qW a6;refine zxe Q X L Z (zc 0 (H.below h.below) Z (qp qa h Z Z Z fun _ f h=>zs 0 h Z fun _ h=>zNSS ?_));obtain⟨B,o,_,F,l⟩:=bindE F;refine qaT (fun e w'=>∃(b2:Bool),B b2=V o1∧e=[(2,.pointer (V ⟨d,0,U⟩)),(3,.pointer (V ⟨b,0,U⟩)),(5,.int .i64 (a.Ai.length:Int)),(6,.int .i64 s),(7,.pointer (V ⟨f,0,U⟩)),(46,.bool b2)]∧SH w w' [Ch.box f (qkN y1 p5 k5) 217,Ch.box b (qaV a y z A u v x) 54,Ch.box d [.slice p1 c.Ap.length k1] 50]) ?_ ?_
  ·refine rD (Y1 2 0 h Z ?_);refine Y1 2 2 h Z ?_;refine zd2 Z ?_;obtain⟨r2,a7,F⟩:=qd F;refine qbn r2 (vsB _) (cB 130 Z) (fun _ hb=>qah  a7) Z Z Z Z (zd2 Z (qaY (t:=33) F Z ?_ ?_))<;>intro F
   ·refine Y0 13 Z (dN h fun _ h=>?_);obtain rfl:=qb F;exact rG ⟨_,l,rfl,h⟩ Z
   refine Y1 4 0 h Z ?_;refine Y1 6 2 h Z ?_;refine Y1 4 0 h Z ?_;refine Y0 1 Z ?_;obtain⟨_,_,F,N,_,_,_,_,S,a3,a8,J⟩:=s1.ix F;obtain⟨_,_,_,_,_,_,rfl,_,_,_⟩:=qal a8;refine zdxe S a3 N Z (Y0 3 Z (zdc 2 (J.below h.below) Z (Y0 5 Z (dN h fun _ h=>?_))));obtain rfl:=qb F;exact rG ⟨_,l,rfl,h⟩ Z
  rintro _ _ ⟨b2,F,rfl,h⟩;subst o;refine qi Z F ?_ ?_<;>intro F
  ·refine X0 4 Z ?_;obtain rfl:=qb F;replace F:=g;exact rb h F Z
  refine X0 5 Z ?_;obtain⟨o2,F,k⟩:=qd F;refine qn (rL (fun m e w'=>∃(i2:Int),qe3 a y1 m i2=V o2∧e=[(2,.pointer (V ⟨d,0,U⟩)),(3,.pointer (V ⟨b,0,U⟩)),(5,.int .i64 (a.Ai.length:Int)),(6,.int .i64 s),(7,.pointer (V ⟨f,0,U⟩)),(8,.int .i64 i2)]∧SH w w' [Ch.box f (qkN y1 p5 k5) 217,Ch.box b (qaV a y z A u v x) 54,Ch.box d [.slice p1 c.Ap.length k1] 50]) m1 ⟨_,F,rfl,h⟩ Z ?_);rintro m2 _ _ ⟨i2,F,rfl,h⟩;rcases m2 with _|m2
  ·cases F
  refine X1 9 0 h Z (qi Z F ?_ ?_)<;>intro F
  ·refine X1 8 0 h Z ?_;obtain⟨_,_,F,M,_,_,_,_,R,Y,rfl,I⟩:=s5.ix F;refine zxe R Y M Z (zc 0 (I.below h.below) Z (zp2 Z (zcB h F qah Z fun _ _ h F=>X0 2 Z (qi Z F ?_ ?_))))<;>intro F
   ·refine X0 4 Z ?_;obtain rfl:=qb F;replace F:=k;obtain rfl:=qb F;replace F:=g;exact rb h F Z
   exact X0 7 Z (rK ⟨_,F,rfl,h⟩ Z)
  refine qr Z ?_;obtain rfl:=qb F;replace F:=k;refine X0 6 Z ?_;replace h:=h.pick [1,2] Z;exact rK ⟨_,F,rfl,h⟩ Z
 refine qr Z ?_;obtain rfl:=qb F;replace F:=g;refine X0 5 Z ?_;obtain⟨o4,F,i⟩:=qd F;refine qn ?_;replace h:=h.pick [0] Z;refine rL (fun m e w'=>∃(i3:Int),qeV a m i3=V o4∧e=[(3,.pointer (V ⟨b,0,U⟩)),(5,.int .i64 (a.Ai.length:Int)),(9,.int .i64 i3)]∧SH w w' [Ch.box b (qaV a y z A u v x) 54]) n ⟨_,F,rfl,h⟩ Z ?_;rintro m3 _ _ ⟨i3,F,rfl,h⟩;rcases m3 with _|m3
 ·cases F
 refine X1 9 0 h Z (qi Z F ?_ ?_)<;>intro F
 ·refine X1 8 0 h Z ?_;obtain⟨_,_,F,O,_,_,_,_,T,a4,a9,K⟩:=s4.ix F;obtain rfl:=qa0 a9;refine zxe T a4 O Z (zp1 Z (zc 1 (K.below h.below) Z (zcB h F qah Z fun _ _ h F=>zp2 Z (qj (t:=78) F Z ?_ ?_))))<;>intro F
  ·refine X0 12 Z (qb9 Z Z (X0 4 Z ?_));obtain rfl:=qb F;replace F:=i;exact rb h F Z
  refine X1 7 0 h Z ?_;obtain⟨_,_,F,P,_,_,_,_,W,a5,b3,p⟩:=s4.ix F;obtain rfl:=qa0 b3;refine zxe W a5 P Z (X0 3 Z (zc 2 (p.below h.below) Z (X0 5 Z (zcB h F qah Z fun _ _ h F=>X0 4 Z (qi Z F ?_ ?_)))))<;>intro F
  ·refine X0 4 Z ?_;obtain rfl:=qb F;replace F:=i;exact rb h F Z
  exact X0 7 Z (rK ⟨_,F,rfl,h⟩ Z)
 refine qr Z ?_;obtain rfl:=qb F;replace F:=i;exact X0 4 Z (rb h F Z)
def qe0 (list:(List ByteArray))(b:Int):Nat→Int→Option (Flow Bool Int)
 | 0,_=>U
 | n+1,a=>
  bif decide (a<b) then
   (idx list a).bind fun c=>
   (idx list b).bind fun d=>
   bif (c.toList==d.toList) then V (.ret false) else
   qe0 list b n (W64 (a+1))
  else
   V (.nxt a)
def qe1 (list:(List ByteArray)):Nat→Int→Option (Flow Bool Int)
 | 0,_=>U
 | n+1,a=>
  bif decide (a<(list.length:Int)) then
   (idx list a).bind fun c=>
   (qgD n c).bind fun b=>
   bif (!b) then V (.ret false) else
   (qe0 list a n 0).bind fun o=>match o with
   | .ret r=>V (.ret r)
   | .nxt _=>
    qe1 list n (W64 (a+1))
  else
   V (.nxt a)
def qhd (n:Nat)(list:(List ByteArray)):Option Bool:=
 (qe1 list n 0).bind fun o=>match o with
 | .ret r=>V r
 | .nxt _=>
  V true
theorem qj3 {list:(List ByteArray)}(d:Ro w list cs1){r:Bool}(F:qhd n list=V r):RetV prog 190 [GoT.v (List ByteArray) cs1] w r:=by
 obtain⟨D,B,rfl,A⟩:=d;refine zV 31 func190 Z fun h=>X0 9 Z ?_;obtain⟨H,F,a⟩:=qd F;refine qn (rL (fun m e w'=>∃(c:Int),qe1 list m c=V H∧e=[(0,.slice D list.length B),(3,.int .i64 c)]∧SH w w' []) n ⟨_,F,rfl,h⟩ Z ?_);rintro z _ _ ⟨c,F,rfl,h⟩;rcases z with _|z
 ·cases F
 refine X0 8 Z (qi Z F ?_ ?_)<;>intro F
 ·refine X0 8 Z ?_;obtain⟨_,_,F,k,_,_,_,_,p,u,rfl,f⟩:=A.ix F;refine zxe p u k Z (zc 0 (f.below h.below) Z (zcB h F qiP Z fun _ _ h F=>X0 2 Z (qi Z F ?_ ?_)))<;>intro F
  ·refine X0 4 Z ?_;obtain rfl:=qb F;replace F:=a;exact rb h F Z
  refine X0 5 Z ?_;obtain⟨I,F,b⟩:=qd F;refine qn (rL (fun m e w'=>∃(y:Int),qe0 list c m y=V I∧e=[(0,.slice D list.length B),(3,.int .i64 c),(4,.int .i64 y)]∧SH w w' []) z ⟨_,F,rfl,h⟩ Z ?_);rintro C _ _ ⟨y,F,rfl,h⟩;rcases C with _|C
  ·cases F
  refine X0 7 Z (qi Z F ?_ ?_)<;>intro F
  ·refine X0 4 Z (rD (zd2 Z ?_));obtain⟨_,_,F,l,_,_,_,_,s,v,rfl,g⟩:=A.ix F;refine zdxe s v l Z (zdc 0 (g.below h.below) Z (zd2 Z ?_));obtain⟨_,_,F,o,_,_,_,_,t,x,rfl,i⟩:=A.ix F;refine zdxe t x o Z (zdc 0 (i.below h.below) Z (zd1 Z (dN h fun _ h=>qi Z F ?_ ?_)))<;>intro F
   ·refine X0 4 Z ?_;obtain rfl:=qb F;replace F:=b;obtain rfl:=qb F;replace F:=a;exact rb h F Z
   exact X0 7 Z (rK ⟨_,F,rfl,h⟩ Z)
  refine qr Z ?_;obtain rfl:=qb F;replace F:=b;exact X0 6 Z (rK ⟨_,F,rfl,h⟩ Z)
 refine qr Z ?_;obtain rfl:=qb F;replace F:=a;exact X0 4 Z (rb h F Z)
def qeY (c:(List Int))(d:(List Int)):Nat→Int→Option (Flow Bool Int)
 | 0,_=>U
 | n+1,a=>
  bif decide (a<(c.length:Int)) then
   (idx d a).bind fun b=>
   bif (b != 1) then V (.ret false) else
   qeY c d n (W64 (a+1))
  else
   V (.nxt a)
def qcG (a:qg):Nat→(List Int)→Int→Option ((List Int)×Int)
 | 0,_,_=>U
 | n+1,c,b=>
  bif decide (b<(a.Ah.length:Int)) then
   (idx a.Ah b).bind fun f=>
   bif (f.Bs==1) then
    (idx a.Ah b).bind fun d=>
    (idx c d.Bu).bind fun g=>
    (idx c d.Bu).bind fun _=>
    qcG a n (setS c d.Bu (W64 (g+1))) (W64 (b+1))
   else
    qcG a n c (W64 (b+1))
  else
   V (c,b)
def qdG (a:qg):Nat→(List Int)→Int→Option ((List Int)×Int)
 | 0,_,_=>U
 | n+1,c,b=>
  bif decide (b<(a.Ab.length:Int)) then
   (idx a.Ab b).bind fun f=>
   (idx f.Ai (W64 ((f.Ai.length:Int)-1))).bind fun d=>
   (idx c d).bind fun g=>
   (idx c d).bind fun _=>
   qdG a n (setS c d (W64 (g+1))) (W64 (b+1))
  else
   V (c,b)
def qdu (a:qg):Nat→(List ByteArray)→Int→Option ((List ByteArray)×Int)
 | 0,_,_=>U
 | n+1,c,b=>
  bif decide (b<(a.Ah.length:Int)) then
   (idx a.Ah b).bind fun f=>
   (appS c ([f.Az]:List ByteArray)).bind fun d=>
   qdu a n d (W64 (b+1))
  else
   V (c,b)
def qdz (a:qg):Nat→(List ByteArray)→Int→Option ((List ByteArray)×Int)
 | 0,_,_=>U
 | n+1,c,b=>
  bif decide (b<(a.Ab.length:Int)) then
   (idx a.Ab b).bind fun f=>
   (appS c ([f.Az]:List ByteArray)).bind fun d=>
   qdz a n d (W64 (b+1))
  else
   V (c,b)
def qkn (n:Nat)(b:qt)(a:qg):Option Bool:=
 (
  (qjl n b).bind fun i=>
  bif (!i) then V true else
  bif decide ((a.Ab.length:Int) > 14) then V true else
  bif decide ((a.Ai.length:Int) > 30) then V true else
  bif decide ((a.Ah.length:Int) > 8) then V true else
  (qkp n b a).bind fun k=>
  V (!k)).bind fun b1=>
 bif b1 then V false else
 (qdz a n ([]:List ByteArray) 0).bind fun o=>match o with
 | (l,_)=>
  (qdu a n ([]:List ByteArray) 0).bind fun o=>match o with
  | (m,_)=>
   (
    (qhd n l).bind fun f=>
    bif (!f) then V true else
    (qhd n m).bind fun g=>
    bif (!g) then V true else
    (qhd n a.Ai).bind fun h=>
    V (!h)).bind fun d=>
   bif d then V false else
   (mkS (a.Ai.length:Int) (0:Int)).bind fun c=>
   (qdG a n c 0).bind fun o=>match o with
   | (p,_)=>
    (qcG a n p 0).bind fun o=>match o with
    | (s,_)=>
     (qeY c s n 0).bind fun o=>match o with
     | .ret r=>V r
     | .nxt _=>
      V true
theorem qqO {K:qt}{a:qg}(p:Ro w K cs1)(O:Ro w a cs2){r:Bool}(F:qkn n K a=V r):RetV prog 116 [GoT.v qt cs1,GoT.v qg cs2] w r:=by
 obtain⟨_,_,rfl,_⟩:=qbN p;obtain⟨D,A,H,B,I,C,rfl,s2,s3,s4⟩:=qaI O;refine zV 153 func116 Z fun h=>zSR (qw h Z Z fun _ _ h=>qw h Z Z fun _ b h=>X0 4 Z ?_);obtain⟨KF2,N,_,F,f⟩:=bindE F;refine qaT (fun e w'=>∃(b1:Bool),KF2 b1=V r∧e=[(3,.pointer (V ⟨b,0,U⟩)),(40,.bool b1)]∧SH w w' [Ch.box b (qaV a D H I A B C) 54]) ?_ ?_
 ·refine X1 2 1 h Z (zcB h F (qqj (h.old p)) Z fun _ _ h F=>zp2 Z (qj (t:=17) F Z ?_ ?_))<;>intro F
  ·refine X0 24 Z ?_;replace h:=h.pick [0] Z;obtain rfl:=qb F;exact rG ⟨_,f,rfl,h⟩ Z
  refine X1 10 0 h Z (qj (t:=23) F Z ?_ ?_)<;>intro F
  ·refine X0 18 Z ?_;replace h:=h.pick [0] Z;obtain rfl:=qb F;exact rG ⟨_,f,rfl,h⟩ Z
  refine X1 10 0 h Z (qj (t:=29) F Z ?_ ?_)<;>intro F
  ·refine X0 12 Z ?_;replace h:=h.pick [0] Z;obtain rfl:=qb F;exact rG ⟨_,f,rfl,h⟩ Z
  refine X1 10 0 h Z (qj (t:=35) F Z ?_ ?_)<;>intro F
  ·refine X0 6 Z ?_;replace h:=h.pick [0] Z;obtain rfl:=qb F;exact rG ⟨_,f,rfl,h⟩ Z
  refine X2 5 1 0 h Z (zcB h F (qqI (h.old p) (h.old O)) Z fun _ _ h F=>X0 4 Z ?_);replace h:=h.pick [0] Z;obtain rfl:=qb F;exact rG ⟨_,f,rfl,h⟩ Z
 rintro _ _ ⟨b1,F,rfl,h⟩;subst N;refine qi Z F ?_ ?_<;>intro F
 ·exact X0 4 Z (rb h F Z)
 refine zKSR (qG qa [] _ ([]:List ByteArray) h Z Z Z Z Z Z Z Z Z trivial Z fun _ _ _ h=>X0 7 Z ?_);obtain⟨o1,F,hK1⟩:=qd F;refine qn (rL (fun m e w'=>∃(S2:Nat→Prop) (p6:Option Addr) (x:Nat) (k5:Nat) (J:(List ByteArray)) (i1:Int),qdz a m J i1=V o1∧e=[(3,.pointer (V ⟨b,0,U⟩)),(5,.slice p6 x k5),(6,.int .i64 i1)]∧SH w w' [Ch.own S2 (J:List ByteArray) [.slice p6 x k5],Ch.box b (qaV a D H I A B C) 54]) n ⟨_,_,_,_,_,_,F,rfl,h⟩ Z ?_);rintro m1 _ _ ⟨S2,p6,x,k5,J,i1,F,rfl,h⟩;obtain rfl:=(h.sl 0 Z).2;rcases m1 with _|m1
 ·cases F
 refine X1 9 1 h Z (qi Z F ?_ ?_)<;>intro F
 ·refine X1 8 1 h Z ?_;obtain⟨y1,_,F,he1,_,_,_,_,hp1,hq1,hr1,hc3⟩:=s2.ix F;obtain⟨_,_,rfl,_⟩:=qW hr1;refine zxe hp1 hq1 he1 Z (zp1 Z (zc 0 (hc3.below h.below) Z (qG qa [.tmp 55] _ ([y1.Az]:List ByteArray) h Z Z Z Z Z Z Z Z Z ⟨rfl,trivial⟩ Z fun _ _ _ h=>?_)));obtain⟨_,s,F⟩:=qd F;obtain⟨g1,s⟩:=qaD s;refine qcs qa 1 h Z (h.sl 0 Z).1 (h.sl 0 Z).2 Z Z Z Z Z Z Z Z Z g1 s Z fun _ _ _ _ h=>X0 8 Z ?_;replace h:=h.pick [1,2] Z;exact rK ⟨_,_,_,_,_,_,F,rfl,h⟩ Z
 refine qr Z ?_;obtain rfl:=qb F;replace F:=hK1;refine zSR (qG qa [] _ ([]:List ByteArray) h Z Z Z Z Z Z Z Z Z trivial Z fun _ _ _ h=>X0 7 Z ?_);obtain⟨o2,F,hK2⟩:=qd F;refine qn (rL (fun m e w'=>∃(S6:Nat→Prop) (z:Option Addr) (y:Nat) (k8:Nat) (x3:(List ByteArray)) (i2:Int),qdu a m x3 i2=V o2∧e=[(3,.pointer (V ⟨b,0,U⟩)),(5,.slice p6 J.length k5),(7,.slice z y k8),(8,.int .i64 i2)]∧SH w w' [Ch.own S6 (x3:List ByteArray) [.slice z y k8],Ch.own S2 (J:List ByteArray) [.slice p6 J.length k5],Ch.box b (qaV a D H I A B C) 54]) n ⟨_,_,_,_,_,_,F,rfl,h⟩ Z ?_);rintro m2 _ _ ⟨S6,z,y,k8,x3,i2,F,rfl,h⟩;obtain rfl:=(h.sl 0 Z).2;rcases m2 with _|m2
 ·cases F
 refine X1 9 2 h Z (qi Z F ?_ ?_)<;>intro F
 ·refine X1 8 2 h Z ?_;obtain⟨y2,_,F,he2,_,_,_,_,hp2,hq2,hr2,hc5⟩:=s4.ix F;obtain rfl:=qa0 hr2;refine zxe hp2 hq2 he2 Z (zp1 Z (zc 0 (hc5.below h.below) Z (qG qa [.tmp 72] _ ([y2.Az]:List ByteArray) h Z Z Z Z Z Z Z Z Z ⟨rfl,trivial⟩ Z fun _ _ _ h=>?_)));obtain⟨_,u,F⟩:=qd F;obtain⟨g2,u⟩:=qaD u;refine qcs qa 1 h Z (h.sl 0 Z).1 (h.sl 0 Z).2 Z Z Z Z Z Z Z Z Z g2 u Z fun _ _ _ _ h=>X0 8 Z ?_;replace h:=h.pick [1,2,3] Z;exact rK ⟨_,_,_,_,_,_,F,rfl,h⟩ Z
 refine qr Z ?_;obtain rfl:=qb F;replace F:=hK2;refine zSS ?_;obtain⟨KF1,M,_,F,o⟩:=bindE F;refine qaT (fun e w'=>∃(b4:Bool),KF1 b4=V r∧e=[(3,.pointer (V ⟨b,0,U⟩)),(88,.bool b4)]∧SH w w' [Ch.box b (qaV a D H I A B C) 54]) ?_ ?_
 ·refine X0 2 Z (zcB h F (qj3 (h.own 1 Z)) Z fun _ _ h F=>zp2 Z (qj (t:=78) F Z ?_ ?_))<;>intro F
  ·refine X0 11 Z ?_;replace h:=h.pick [2] Z;obtain rfl:=qb F;exact rG ⟨_,o,rfl,h⟩ Z
  refine X0 3 Z (zcB h F (qj3 (h.own 0 Z)) Z fun _ _ h F=>X0 4 Z (qj (t:=83) F Z ?_ ?_))<;>intro F
  ·refine X0 6 Z ?_;replace h:=h.pick [2] Z;obtain rfl:=qb F;exact rG ⟨_,o,rfl,h⟩ Z
  refine X1 5 2 h Z (zcB h F (qj3 ⟨_,_,rfl,(h.oldS s3)⟩) Z fun _ _ h F=>X0 4 Z ?_);replace h:=h.pick [2] Z;obtain rfl:=qb F;exact rG ⟨_,o,rfl,h⟩ Z
 rintro _ _ ⟨b4,F,rfl,h⟩;subst M;refine qi Z F ?_ ?_<;>intro F
 ·exact X0 4 Z (rb h F Z)
 refine X1 6 0 h Z ?_;obtain⟨d,v,F⟩:=qd F;obtain⟨g3,g4,v⟩:=qR v;refine qas qa Int h Z Z Z Z Z Z Z Z Z g3 g4 v Z fun _ S9 c h=>X0 7 Z ?_;obtain⟨o3,F,hK3⟩:=qd F;refine qn (rL (fun m e w'=>∃(x6:(List Int)) (i3:Int),qdG a m x6 i3=V o3∧e=[(3,.pointer (V ⟨b,0,U⟩)),(9,.slice c d.length d.length),(10,.int .i64 i3)]∧SH w w' [Ch.own S9 (x6:List Int) [.slice c d.length d.length],Ch.box b (qaV a D H I A B C) 54]) n ⟨_,_,F,rfl,h⟩ Z ?_);rintro m3 _ _ ⟨x6,i3,F,rfl,h⟩;rcases m3 with _|m3
 ·cases F
 refine X1 9 1 h Z (qi Z F ?_ ?_)<;>intro F
 ·refine X1 8 1 h Z ?_;obtain⟨_,_,F,he3,_,_,_,_,hp3,hq3,hr3,hc8⟩:=s2.ix F;obtain⟨_,_,rfl,s6⟩:=qW hr3;refine zxe hp3 hq3 he3 Z (zp1 Z (zc 2 (hc8.below h.below) Z (X0 8 Z ?_)));obtain⟨_,_,F,he4,_,_,_,_,hp4,hq4,rfl,hc9⟩:=s6.ix F;refine zxe hp4 hq4 he4 Z (zc 0 (hc9.below h.below) Z ?_);obtain⟨y5,_,F,Y,_,_,_,_,hp5,hq5,rfl,P⟩:=(h.sl 0 Z).1.ix F;refine zx hp5 hq5 ⟨Y.1,qD Y.2.1 (h.sl 0 Z).2⟩ Z (zc 0 P Z (zp1 Z ?_));obtain⟨_,hy6,F,a3,_,_,_,_,a6,a8,rfl,Q⟩:=(h.sl 0 Z).1.ix F;exact zx a6 a8 ⟨a3.1,qD a3.2.1 (h.sl 0 Z).2⟩ Z (qao qa 0 0 (W64 (y5+1)) h Z hy6 a6 a8 Z Q Z Z Z Z Z Z Z fun _ h=>X0 7 Z (rK ⟨_,_,F,rfl,h⟩ Z))
 refine qr Z ?_;obtain rfl:=qb F;replace F:=hK3;refine X0 5 Z ?_;obtain⟨o4,F,hK4⟩:=qd F;refine qn (rL (fun m e w'=>∃(x7:(List Int)) (i4:Int),qcG a m x7 i4=V o4∧e=[(3,.pointer (V ⟨b,0,U⟩)),(9,.slice c d.length d.length),(12,.int .i64 i4)]∧SH w w' [Ch.own S9 (x7:List Int) [.slice c d.length d.length],Ch.box b (qaV a D H I A B C) 54]) n ⟨_,_,F,rfl,h⟩ Z ?_);rintro m4 _ _ ⟨x7,i4,F,rfl,h⟩;rcases m4 with _|m4
 ·cases F
 refine X1 9 1 h Z (qi Z F ?_ ?_)<;>intro F
 ·refine X1 8 1 h Z ?_;obtain⟨_,_,F,he7,_,_,_,_,hp7,hq7,hr7,R⟩:=s4.ix F;obtain rfl:=qa0 hr7;refine zxe hp7 hq7 he7 Z (zp1 Z (zc 1 (R.below h.below) Z (X0 2 Z (qi Z F ?_ ?_))))<;>intro F
  ·refine X1 5 1 h Z ?_;obtain⟨_,_,F,he8,_,_,_,_,hp8,hq8,hr8,S⟩:=s4.ix F;obtain rfl:=qa0 hr8;refine zxe hp8 hq8 he8 Z (zp1 Z (zc 2 (S.below h.below) Z ?_));obtain⟨y9,_,F,a4,_,_,_,_,hp9,hq9,rfl,T⟩:=(h.sl 0 Z).1.ix F;refine zx hp9 hq9 ⟨a4.1,qD a4.2.1 (h.sl 0 Z).2⟩ Z (zc 0 T Z (zp1 Z ?_));obtain⟨_,a9,F,g,_,_,_,_,k,l,rfl,W⟩:=(h.sl 0 Z).1.ix F;exact zx k l ⟨g.1,qD g.2.1 (h.sl 0 Z).2⟩ Z (qao qa 0 0 (W64 (y9+1)) h Z a9 k l Z W Z Z Z Z Z Z Z fun _ h=>X0 7 Z (rK ⟨_,_,F,rfl,h⟩ Z))
  exact X0 7 Z (rK ⟨_,_,F,rfl,h⟩ Z)
 refine qr Z ?_;obtain rfl:=qb F;replace F:=hK4;refine X0 5 Z ?_;obtain⟨o5,F,L⟩:=qd F;refine qn ?_;replace h:=h.pick [0] Z;refine rL (fun m e w'=>∃(i5:Int),qeY d x7 m i5=V o5∧e=[(9,.slice c d.length d.length),(13,.int .i64 i5)]∧SH w w' [Ch.own S9 (x7:List Int) [.slice c d.length d.length]]) n ⟨_,F,rfl,h⟩ Z ?_;rintro m5 _ _ ⟨i5,F,rfl,h⟩;rcases m5 with _|m5
 ·cases F
 refine X0 8 Z (qi Z F ?_ ?_)<;>intro F
 ·refine X0 7 Z ?_;obtain⟨_,_,F,i,_,_,_,_,a5,a7,rfl,X⟩:=(h.sl 0 Z).1.ix F;refine zx a5 a7 ⟨i.1,qD i.2.1 (h.sl 0 Z).2⟩ Z (zc 0 X Z (X0 2 Z (qi Z F ?_ ?_)))<;>intro F
  ·refine X0 4 Z ?_;obtain rfl:=qb F;replace F:=L;exact rb h F Z
  exact X0 7 Z (rK ⟨_,F,rfl,h⟩ Z)
 refine qr Z ?_;obtain rfl:=qb F;replace F:=L;exact X0 4 Z (rb h F Z)
def qgu (a:qH):Nat→Int→Option (Flow Bool Int)
 | 0,_=>U
 | n+1,b=>
  bif decide (b<(a.Bg.length:Int)) then
   (idx a.Bg b).bind fun d=>
   (qaB n d 0 (W64 ((a.Ak.length:Int)-1))).bind fun c=>
   bif (!c) then V (.ret false) else
   qgu a n (W64 (b+1))
  else
   V (.nxt b)
def qcX (a:qH):Nat→Int→Option (Flow Bool Int)
 | 0,_=>U
 | n+1,b=>
  bif decide (b<(a.Ak.length:Int)) then
   (
    (idx a.Bq b).bind fun m=>
    (qaB n m 0 500).bind fun f=>
    bif (!f) then V true else
    (idx a.Bt b).bind fun o=>
    (qaB n o 0 1000).bind fun g=>
    V (!g)).bind fun b2=>
   bif b2 then V (.ret false) else
   bif (b==0) then
    (idx a.Ak b).bind fun h=>
    bif (h != (-1)) then V (.ret false) else
    (idx a.Bt b).bind fun i=>
    bif (i != 0) then V (.ret false) else
    bif decide (b > 0) then
     (idx a.Ak b).bind fun k=>
     (qaB n k 0 (W64 (b-1))).bind fun c=>
     bif (!c) then V (.ret false) else
     qcX a n (W64 (b+1))
    else
     qcX a n (W64 (b+1))
   else
    bif decide (b > 0) then
     (idx a.Ak b).bind fun l=>
     (qaB n l 0 (W64 (b-1))).bind fun d=>
     bif (!d) then V (.ret false) else
     qcX a n (W64 (b+1))
    else
     qcX a n (W64 (b+1))
  else
   V (.nxt b)
def qmA (n:Nat)(a:qH)(b:Int):Option Bool:=
 (
  bif decide ((a.Ak.length:Int)<1) then V true else
  bif decide ((a.Ak.length:Int) > 8) then V true else
  bif ((a.Bt.length:Int) != (a.Ak.length:Int)) then V true else
  bif ((a.Bq.length:Int) != (a.Ak.length:Int)) then V true else
  V ((a.Bg.length:Int) != b)).bind fun b1=>
 bif b1 then V false else
 (qcX a n 0).bind fun o=>match o with
 | .ret r=>V r
 | .nxt _=>
  (qgu a n 0).bind fun o=>match o with
  | .ret r=>V r
  | .nxt _=>
   V true
theorem qsG {a:qH}{f:Int}(J:Ro w a cs1){r:Bool}(F:qmA n a f=V r):RetV prog 117 [GoT.v qH cs1,.int .i64 f] w r:=by
 obtain⟨A,v,B,x,C,y,D,z,rfl,s1,s2,s3,s4⟩:=qaS J;refine zV 108 func117 Z fun h=>zSR (qw h Z Z fun _ b h=>X1 11 0 h Z ?_);obtain⟨I,l,_,F,d⟩:=bindE F;refine qaT (fun e w'=>∃(b1:Bool),I b1=V r∧e=[(2,.pointer (V ⟨b,0,U⟩)),(5,.int .i64 (a.Ak.length:Int)),(37,.bool b1)]∧SH w w' [Ch.box b (qhs a A B C D v x y z) 170]) ?_ ?_
 ·refine X0 4 Z (qj (t:=13) F Z ?_ ?_)<;>intro F
  ·refine X0 25 Z ?_;obtain rfl:=qb F;exact rG ⟨_,d,rfl,h⟩ Z
  refine X0 6 Z (qj (t:=17) F Z ?_ ?_)<;>intro F
  ·refine X0 21 Z ?_;obtain rfl:=qb F;exact rG ⟨_,d,rfl,h⟩ Z
  refine X1 12 0 h Z (qj (t:=24) F Z ?_ ?_)<;>intro F
  ·refine X0 14 Z ?_;obtain rfl:=qb F;exact rG ⟨_,d,rfl,h⟩ Z
  refine X1 12 0 h Z (qj (t:=31) F Z ?_ ?_)<;>intro F
  ·refine X0 7 Z ?_;obtain rfl:=qb F;exact rG ⟨_,d,rfl,h⟩ Z
  refine X1 12 0 h Z ?_;obtain rfl:=qb F;exact rG ⟨_,d,rfl,h⟩ Z
 rintro _ _ ⟨b1,F,rfl,h⟩;subst l;refine qi Z F ?_ ?_<;>intro F
 ·exact X0 4 Z (rb h F Z)
 refine X0 6 Z ?_;obtain⟨o1,F,c⟩:=qd F;refine qn (rL (fun m e w'=>∃(u:Int),qcX a m u=V o1∧e=[(2,.pointer (V ⟨b,0,U⟩)),(5,.int .i64 (a.Ak.length:Int)),(6,.int .i64 u)]∧SH w w' [Ch.box b (qhs a A B C D v x y z) 170]) n ⟨_,F,rfl,h⟩ Z ?_);rintro m1 _ _ ⟨u,F,rfl,h⟩;rcases m1 with _|m1
 ·cases F
 refine X0 7 Z (qi Z F ?_ ?_)<;>intro F
 ·refine X0 5 Z ?_;obtain⟨H,k,_,F,g⟩:=bindE F;refine qaT (fun e w'=>∃(b2:Bool),H b2=V o1∧e=[(2,.pointer (V ⟨b,0,U⟩)),(5,.int .i64 (a.Ak.length:Int)),(6,.int .i64 u),(58,.bool b2)]∧SH w w' [Ch.box b (qhs a A B C D v x y z) 170]) ?_ ?_
  ·refine X1 4 0 h Z ?_;obtain⟨_,_,F,S,_,_,_,_,a5,b5,rfl,o⟩:=s3.ix F;refine zxe a5 b5 S Z (zc 0 (o.below h.below) Z (zcB h F qah Z fun _ _ h F=>zp2 Z (qj (t:=50) F Z ?_ ?_)))<;>intro F
   ·refine X0 9 Z ?_;obtain rfl:=qb F;exact rG ⟨_,g,rfl,h⟩ Z
   refine X1 7 0 h Z ?_;obtain⟨_,_,F,T,_,_,_,_,a6,b6,rfl,p⟩:=s2.ix F;refine zxe a6 b6 T Z (X0 1 Z (zc 0 (p.below h.below) Z (X0 1 Z (zcB h F qah Z fun _ _ h F=>X0 4 Z ?_))));obtain rfl:=qb F;exact rG ⟨_,g,rfl,h⟩ Z
  rintro _ _ ⟨b2,F,rfl,h⟩;subst k;refine qi Z F ?_ ?_<;>intro F
  ·refine X0 4 Z ?_;obtain rfl:=qb F;replace F:=c;exact rb h F Z
  refine X0 6 Z (qj (t:=61) F Z ?_ ?_)<;>intro F
  ·refine X1 7 0 h Z ?_;obtain⟨_,_,F,O,_,_,_,_,X,a8,rfl,K⟩:=s1.ix F;refine zxe X a8 O Z (X0 1 Z (zc 0 (K.below h.below) Z (X0 4 Z (qj (t:=68) F Z ?_ ?_))))<;>intro F
   ·refine X0 25 Z (qb9 Z Z (X0 4 Z ?_));obtain rfl:=qb F;replace F:=c;exact rb h F Z
   refine X1 7 0 h Z ?_;obtain⟨_,_,F,P,_,_,_,_,Y,a9,rfl,L⟩:=s2.ix F;refine zxe Y a9 P Z (X0 1 Z (zc 0 (L.below h.below) Z (X0 6 Z (qj (t:=77) F Z ?_ ?_))))<;>intro F
   ·refine X0 15 Z (qb9 Z Z (X0 4 Z ?_));obtain rfl:=qb F;replace F:=c;exact rb h F Z
   refine X0 6 Z (qj (t:=80) F Z ?_ ?_)<;>intro F
   ·refine X1 7 0 h Z ?_;obtain⟨_,_,F,Q,_,_,_,_,a3,b3,rfl,M⟩:=s1.ix F;refine zxe a3 b3 Q Z (X0 1 Z (zc 0 (M.below h.below) Z (X0 5 Z (zcB h F qah Z fun _ _ h F=>X0 6 Z (qi Z F ?_ ?_)))))<;>intro F
    ·refine X0 4 Z ?_;obtain rfl:=qb F;replace F:=c;exact rb h F Z
    exact X0 7 Z (rK ⟨_,F,rfl,h⟩ Z)
   exact X0 13 Z (qbL Z Z (X0 7 Z (rK ⟨_,F,rfl,h⟩ Z)))
  refine X0 22 Z (qj (t:=80) F Z ?_ ?_)<;>intro F
  ·refine X1 7 0 h Z ?_;obtain⟨_,_,F,R,_,_,_,_,a4,b4,rfl,N⟩:=s1.ix F;refine zxe a4 b4 R Z (X0 1 Z (zc 0 (N.below h.below) Z (X0 5 Z (zcB h F qah Z fun _ _ h F=>X0 6 Z (qi Z F ?_ ?_)))))<;>intro F
   ·refine X0 4 Z ?_;obtain rfl:=qb F;replace F:=c;exact rb h F Z
   exact X0 7 Z (rK ⟨_,F,rfl,h⟩ Z)
  exact X0 13 Z (qbL Z Z (X0 7 Z (rK ⟨_,F,rfl,h⟩ Z)))
 refine qr Z ?_;obtain rfl:=qb F;replace F:=c;refine X0 5 Z ?_;obtain⟨o3,F,i⟩:=qd F;refine qn (rL (fun m e w'=>∃(i2:Int),qgu a m i2=V o3∧e=[(2,.pointer (V ⟨b,0,U⟩)),(5,.int .i64 (a.Ak.length:Int)),(7,.int .i64 i2)]∧SH w w' [Ch.box b (qhs a A B C D v x y z) 170]) n ⟨_,F,rfl,h⟩ Z ?_);rintro m2 _ _ ⟨i2,F,rfl,h⟩;rcases m2 with _|m2
 ·cases F
 refine X1 9 0 h Z (qi Z F ?_ ?_)<;>intro F
 ·refine X1 8 0 h Z ?_;obtain⟨_,_,F,W,_,_,_,_,a7,b7,rfl,s⟩:=s4.ix F;refine zxe a7 b7 W Z (zc 0 (s.below h.below) Z (zp2 Z (zcB h F qah Z fun _ _ h F=>X0 2 Z (qi Z F ?_ ?_))))<;>intro F
  ·refine X0 4 Z ?_;obtain rfl:=qb F;replace F:=i;exact rb h F Z
  exact X0 7 Z (rK ⟨_,F,rfl,h⟩ Z)
 refine qr Z ?_;obtain rfl:=qb F;replace F:=i;exact X0 4 Z (rb h F Z)
def qc0 (c:Int)(b:qm):Nat→(List Tl05Place)→Int→Option ((List Tl05Place)×Int)
 | 0,_,_=>U
 | n+1,d,a=>
  bif decide (a<(b.Ai.length:Int)) then
   (idx b.Ai a).bind fun g=>
   (appS d ([(⟨c,a,g,(a==(W64 ((b.Ai.length:Int)-1)))⟩:Tl05Place)]:List Tl05Place)).bind fun f=>
   qc0 c b n f (W64 (a+1))
  else
   V (d,a)
def qc7 (a:qg):Nat→(List Tl05Place)→Int→Option ((List Tl05Place)×Int)
 | 0,_,_=>U
 | n+1,c,b=>
  bif decide (b<(a.Ah.length:Int)) then
   (idx a.Ah b).bind fun f=>
   (idx a.Ah b).bind fun g=>
   (appS c ([(⟨(-1),b,f.Bu,(g.Bs==1)⟩:Tl05Place)]:List Tl05Place)).bind fun d=>
   qc7 a n d (W64 (b+1))
  else
   V (c,b)
def qcY (a:qg):Nat→(List Tl05Place)→Int→Option ((List Tl05Place)×Int)
 | 0,_,_=>U
 | n+1,c,b=>
  bif decide (b<(a.Ab.length:Int)) then
   (idx a.Ab b).bind fun f=>
   (qc0 b f n c 0).bind fun o=>match o with
   | (d,_)=>
    qcY a n d (W64 (b+1))
  else
   V (c,b)
def qcr (n:Nat)(a:qg):Option (List Tl05Place):=
 (qcY a n ([]:List Tl05Place) 0).bind fun o=>match o with
 | (b,_)=>
  (qc7 a n b 0).bind fun o=>match o with
  | (c,_)=>
   V c
theorem qch {a:qg}(x:Ro w a cs1){r:(List Tl05Place)}(F:qcr n a=V r):RetV prog 139 [GoT.v qg cs1] w r:=by
 obtain⟨p1,W,p2,X,p3,Y,rfl,s1,_,s3⟩:=qaI x;refine zV 69 func139 Z fun h=>zSR (qw h Z Z fun _ b h=>X0 4 Z (qG qa [] _ ([]:List Tl05Place) h Z Z Z Z Z Z Z Z Z trivial Z fun _ _ _ h=>X0 7 Z ?_));obtain⟨o1,F,t⟩:=qd F;refine qn (rL (fun m e w'=>∃(S2:Nat→Prop) (p5:Option Addr) (i:Nat) (k4:Nat) (x1:(List Tl05Place)) (f:Int),qcY a m x1 f=V o1∧e=[(1,.pointer (V ⟨b,0,U⟩)),(3,.slice p5 i k4),(4,.int .i64 f)]∧SH w w' [Ch.own S2 (x1:List Tl05Place) [.slice p5 i k4],Ch.box b (qaV a p1 p2 p3 W X Y) 54]) n ⟨_,_,_,_,_,_,F,rfl,h⟩ Z ?_);rintro m1 _ _ ⟨S2,p5,i,k4,x1,f,F,rfl,h⟩;obtain rfl:=(h.sl 0 Z).2;rcases m1 with _|m1
 ·cases F
 refine X1 9 1 h Z (qi Z F ?_ ?_)<;>intro F
 ·refine X1 8 1 h Z ?_;obtain⟨s,_,F,C,_,_,_,_,J,N,R,y⟩:=s1.ix F;obtain⟨p6,k5,rfl,s4⟩:=qW R;refine zxe J N C Z (zp1 Z (zc 2 (y.below h.below) Z (X0 6 Z ?_)));obtain⟨o2,F,u⟩:=qd F;refine qn (rL (fun m e w'=>∃(S3:Nat→Prop) (p7:Option Addr) (k:Nat) (k6:Nat) (x2:(List Tl05Place)) (g:Int),qc0 f s m x2 g=V o2∧e=[(1,.pointer (V ⟨b,0,U⟩)),(3,.slice p7 k k6),(4,.int .i64 f),(5,.slice p6 s.Ai.length k5),(6,.int .i64 g)]∧SH w w' [Ch.own S3 (x2:List Tl05Place) [.slice p7 k k6],Ch.box b (qaV a p1 p2 p3 W X Y) 54]) m1 ⟨_,_,_,_,_,_,F,rfl,h⟩ Z ?_);rintro m2 _ _ ⟨S3,p7,k,k6,x2,g,F,rfl,h⟩;obtain rfl:=(h.sl 0 Z).2;rcases m2 with _|m2
  ·cases F
  refine X0 8 Z (qi Z F ?_ ?_)<;>intro F
  ·refine X0 9 Z ?_;obtain⟨y2,_,F,D,_,_,_,_,K,O,rfl,z⟩:=s4.ix F;refine zxe K O D Z (zc 0 (z.below h.below) Z (zp5 Z (r_v (qaf qa [0,1,2,3] [.tmp 29,.tmp 30,.tmp 34,.tmp 39] Z Z Z Z Z Z Z Z) Z (qG qa [.tmp 40] _ ([(⟨f,g,y2,(g==(W64 ((s.Ai.length:Int)-1)))⟩:Tl05Place)]:List Tl05Place) h Z Z Z Z Z Z Z Z Z ⟨(qfU (⟨f,g,y2,(g==(W64 ((s.Ai.length:Int)-1)))⟩:Tl05Place)),trivial⟩ Z fun _ _ _ h=>?_))));obtain⟨_,c,F⟩:=qd F;obtain⟨g1,c⟩:=qaD c;refine qcs qa 1 h Z (h.sl 0 Z).1 (h.sl 0 Z).2 Z Z Z Z Z Z Z Z Z g1 c Z fun _ _ _ _ h=>X0 8 Z ?_;replace h:=h.pick [1,2] Z;exact rK ⟨_,_,_,_,_,_,F,rfl,h⟩ Z
  refine qr Z ?_;obtain rfl:=qb F;replace F:=u;exact X0 6 Z (rK ⟨_,_,_,_,_,_,F,rfl,h⟩ Z)
 refine qr Z ?_;obtain rfl:=qb F;replace F:=t;refine X0 5 Z ?_;obtain⟨o3,F,v⟩:=qd F;refine qn (rL (fun m e w'=>∃(S6:Nat→Prop) (o:Option Addr) (l:Nat) (k8:Nat) (x4:(List Tl05Place)) (p:Int),qc7 a m x4 p=V o3∧e=[(1,.pointer (V ⟨b,0,U⟩)),(3,.slice o l k8),(7,.int .i64 p)]∧SH w w' [Ch.own S6 (x4:List Tl05Place) [.slice o l k8],Ch.box b (qaV a p1 p2 p3 W X Y) 54]) n ⟨_,_,_,_,_,_,F,rfl,h⟩ Z ?_);rintro m3 _ _ ⟨S6,o,l,k8,x4,p,F,rfl,h⟩;obtain rfl:=(h.sl 0 Z).2;rcases m3 with _|m3
 ·cases F
 refine X1 9 1 h Z (qi Z F ?_ ?_)<;>intro F
 ·refine zKSB (rA [] [1] h Z fun _ h=>M1 31 [0,1,2,3,4] 0 (h.pick [1] Z) Z ?_);obtain⟨y3,_,F,H,_,_,_,_,L,P,S,A⟩:=s3.ix F;obtain rfl:=qa0 S;refine Ae 5 63 L P H (h.pick [1] Z) Z (M0 127 [6] (h.pick [1] Z) Z (Al 7 255 2 A (h.pick [1] Z) Z (M1 2047 [8,9,10] 0 (h.pick [1] Z) Z ?_)));obtain⟨y4,_,F,I,_,_,_,_,M,Q,T,B⟩:=s3.ix F;obtain rfl:=qa0 T;refine Ae 11 4095 M Q I (h.pick [1] Z) Z (M0 8191 [12] (h.pick [1] Z) Z (Al 13 16383 1 B (h.pick [1] Z) Z (M0 32767 [14] (h.pick [1] Z) Z (Aw 15 65535 (fun w' hw=>qaf qa [0,1,2,3] [.const (.int .i64 (-1)),.tmp 51,.tmp 57,.tmp 64] Z Z Z Z Z Z Z Z) (h.pick [1] Z) Z ?_))));refine Ao 16 131071 Z (qG qa [.tmp 65] _ ([(⟨(-1),p,y3.Bu,(y4.Bs==1)⟩:Tl05Place)]:List Tl05Place) h Z Z Z Z Z Z Z Z Z ⟨(qfU (⟨(-1),p,y3.Bu,(y4.Bs==1)⟩:Tl05Place)),trivial⟩ Z fun _ _ _ h=>Ag (h.pick [2] Z) (Ao 17 262143 Z ?_));obtain⟨_,d,F⟩:=qd F;obtain⟨g2,d⟩:=qaD d;refine qcs qa 1 h Z (h.sl 0 Z).1 (h.sl 0 Z).2 Z Z Z Z Z Z Z Z Z g2 d Z fun _ _ _ _ h=>G0 524287 [18] (h.pick [2] Z) Z (Ad (X0 6 Z ?_));replace h:=h.pick [1,2] Z;exact rK ⟨_,_,_,_,_,_,F,rfl,h⟩ Z
 refine qr Z ?_;obtain rfl:=qb F;replace F:=v;refine X0 5 Z ?_;obtain rfl:=qb F;exact rO 0 h Z ⟨rfl,trivial⟩
def qcN (net:Int)(b:(List Tl05Place)):Nat→(List Int)→Int→Option ((List Int)×Int)
 | 0,_,_=>U
 | n+1,c,a=>
  bif decide (a<(b.length:Int)) then
   (
    (idx b a).bind fun f=>
    bif (f.net==net) then
     (idx b a).bind fun g=>
     V (!g.drives)
    else
     V false).bind fun b1=>
   bif b1 then
    (appS c ([a]:List Int)).bind fun d=>
    qcN net b n d (W64 (a+1))
   else
    qcN net b n c (W64 (a+1))
  else
   V (c,a)
def qhc (n:Nat)(d:qg)(net:Int):Option (List Int):=
 (qcr n d).bind fun a=>
 (qcN net a n ([]:List Int) 0).bind fun o=>match o with
 | (b,_)=>
  V b
theorem qj5 {d:qg}{net:Int}(k:Ro w d cs1){r:(List Int)}(F:qhc n d net=V r):RetV prog 118 [GoT.v qg cs1,.int .i64 net] w r:=by
 obtain⟨_,_,_,_,_,_,rfl,_,_,_⟩:=qaI k;refine zV 37 func118 Z fun h=>zSR (qw h Z Z fun _ _ h=>X0 4 Z (qG qa [] _ ([]:List Int) h Z Z Z Z Z Z Z Z Z trivial Z fun _ _ _ h=>X1 5 1 h Z (zcL h F (qch (h.old k)) Z fun c _ S2 x v h F=>X0 7 Z ?_)));obtain⟨N,F,A⟩:=qd F;refine qn ?_;replace h:=h.pick [0,1] Z;refine rL (fun m e w'=>∃(z:Nat→Prop) (u:Option Addr) (b:Nat) (s:Nat) (f:(List Int)) (p:Int),qcN net c m f p=V N∧e=[(1,.int .i64 net),(5,.slice u b s),(6,.slice x c.length v),(7,.int .i64 p)]∧SH w w' [Ch.own S2 (c:List Tl05Place) [.slice x c.length v],Ch.own z (f:List Int) [.slice u b s]]) n ⟨_,_,_,_,_,_,F,rfl,h⟩ Z ?_;rintro M _ _ ⟨z,u,b,s,f,p,F,rfl,h⟩;obtain rfl:=(h.sl 1 Z).2;rcases M with _|M
 ·cases F
 refine X0 8 Z (qi Z F ?_ ?_)<;>intro F
 ·refine X0 4 Z ?_;obtain⟨y,i,_,F,g⟩:=bindE F;refine qaT (fun e w'=>∃(b1:Bool),y b1=V N∧e=[(1,.int .i64 net),(5,.slice u f.length s),(6,.slice x c.length v),(7,.int .i64 p),(31,.bool b1)]∧SH w w' [Ch.own S2 (c:List Tl05Place) [.slice x c.length v],Ch.own z (f:List Int) [.slice u f.length s]]) ?_ ?_
  ·refine X0 3 Z ?_;obtain⟨_,_,F,l,_,_,_,_,D,I,K,B⟩:=(h.sl 0 Z).1.ix F;obtain rfl:=qb1 K;refine zx D I ⟨l.1,qD l.2.1 (h.sl 0 Z).2⟩ Z (zp1 Z (zc 2 B Z (zp3 Z (qj (t:=24) F Z ?_ ?_))))<;>intro F
   ·refine X0 5 Z ?_;obtain⟨_,_,F,o,_,_,_,_,H,J,L,C⟩:=(h.sl 0 Z).1.ix F;obtain rfl:=qb1 L;refine zx H J ⟨o.1,qD o.2.1 (h.sl 0 Z).2⟩ Z (X0 3 Z (zc 3 C Z (X0 4 Z ?_)));obtain rfl:=qb F;exact rG ⟨_,g,rfl,h⟩ Z
   refine X0 8 Z ?_;obtain rfl:=qb F;exact rG ⟨_,g,rfl,h⟩ Z
  rintro _ _ ⟨b1,F,rfl,h⟩;subst i;refine qi Z F ?_ ?_<;>intro F
  ·refine X0 3 Z (qG qa [.tmp 33] _ ([p]:List Int) h Z Z Z Z Z Z Z Z Z ⟨rfl,trivial⟩ Z fun _ _ _ h=>?_);obtain⟨_,a,F⟩:=qd F;obtain⟨O,a⟩:=qaD a;refine qcs qa 2 h Z (h.sl 0 Z).1 (h.sl 0 Z).2 Z Z Z Z Z Z Z Z Z O a Z fun _ _ _ _ h=>X0 8 Z ?_;replace h:=h.pick [1,2] Z;exact rK ⟨_,_,_,_,_,_,F,rfl,h⟩ Z
  exact X0 7 Z (rK ⟨_,_,_,_,_,_,F,rfl,h⟩ Z)
 refine qr Z ?_;obtain rfl:=qb F;replace F:=A;refine X0 5 Z ?_;obtain rfl:=qb F;exact rO 1 h Z ⟨rfl,trivial⟩
def qfq (b:qe):Nat→Int→Option (Flow Bool Int)
 | 0,_=>U
 | n+1,a=>
  bif decide (a<(b.Af.length:Int)) then
   (idx b.Af a).bind fun f=>
   (qhc n (⟨b.Aa.Ab,b.Aa.Ai,b.Aa.Ah⟩:qg) a).bind fun c=>
   (qmA n f (c.length:Int)).bind fun d=>
   bif (!d) then V (.ret false) else
   qfq b n (W64 (a+1))
  else
   V (.nxt a)
def qfB (n:Nat)(b:qe):Option Bool:=
 (
  (qkn n (⟨b.Ar.Ap⟩:qt) (⟨b.Aa.Ab,b.Aa.Ai,b.Aa.Ah⟩:qg)).bind fun a=>
  bif (!a) then V true else
  V ((b.Af.length:Int) != (b.Aa.Ai.length:Int))).bind fun b1=>
 bif b1 then V false else
 (qfq b n 0).bind fun o=>match o with
 | .ret r=>V r
 | .nxt _=>
  V true
theorem qk1 {b:qe}(i:Ro w b cs1){r:Bool}(F:qfB n b=V r):RetV prog 64 [GoT.v qe cs1] w r:=by
 obtain⟨C,v,D,x,H,y,I,z,J,A,rfl,N,s2,K,L,O⟩:=qE i;refine zV 39 func64 Z fun h=>zSR (qw h Z Z fun _ a h=>X0 4 Z ?_);obtain⟨g,f,_,F,d⟩:=bindE F;refine qaT (fun e w'=>∃(b1:Bool),g b1=V r∧e=[(1,.pointer (V ⟨a,0,U⟩)),(19,.bool b1)]∧SH w w' [Ch.box a (qJ b C D H I J v x y z A) 57]) ?_ ?_
 ·refine X2 5 0 0 h Z (zcB h F (qqO (qez _ (h.oldS N)) (qav _ (h.oldS s2) (h.oldS K) (h.oldS L))) Z fun _ _ h F=>zp2 Z (qj (t:=10) F Z ?_ ?_))<;>intro F
  ·refine X0 10 Z ?_;obtain rfl:=qb F;exact rG ⟨_,d,rfl,h⟩ Z
  refine X2 18 0 0 h Z ?_;obtain rfl:=qb F;exact rG ⟨_,d,rfl,h⟩ Z
 rintro _ _ ⟨b1,F,rfl,h⟩;subst f;refine qi Z F ?_ ?_<;>intro F
 ·exact X0 4 Z (rb h F Z)
 refine X0 6 Z ?_;obtain⟨M,F,c⟩:=qd F;refine qn (rL (fun m e w'=>∃(u:Int),qfq b m u=V M∧e=[(1,.pointer (V ⟨a,0,U⟩)),(3,.int .i64 u)]∧SH w w' [Ch.box a (qJ b C D H I J v x y z A) 57]) n ⟨_,F,rfl,h⟩ Z ?_);rintro B _ _ ⟨u,F,rfl,h⟩;rcases B with _|B
 ·cases F
 refine X1 9 0 h Z (qi Z F ?_ ?_)<;>intro F
 ·refine X0 4 Z (rA [] [0] h Z fun _ h=>M1 7 [0,1,2] 0 (h.pick [0] Z) Z ?_);obtain⟨T,_,F,l,_,_,_,_,o,p,s,k⟩:=O.ix F;obtain⟨_,_,_,_,_,_,_,_,rfl,P,Q,R,S⟩:=qaS s;refine Ae 3 15 o p l (h.pick [0] Z) Z (Al 4 31 0 k (h.pick [0] Z) Z (M1 255 [5,6,7] 0 (h.pick [0] Z) Z (Ao 8 511 Z (zcL h F (qj5 (qav _ (h.oldS s2) (h.oldS K) (h.oldS L))) Z fun _ _ _ _ _ h F=>G0 1023 [9] (h.pick [1] Z) Z (Ao 10 2047 Z (zcB h F (qsG (qlp T (h.oldS P) (h.oldS Q) (h.oldS R) (h.oldS S))) Z fun _ _ h F=>G0 4095 [11] (h.pick [1] Z) Z (Ad (qi Z F ?_ ?_))))))))<;>intro F
  ·refine X0 4 Z ?_;obtain rfl:=qb F;replace F:=c;exact rb h F Z
  refine X0 7 Z ?_;replace h:=h.pick [1] Z;exact rK ⟨_,F,rfl,h⟩ Z
 refine qr Z ?_;obtain rfl:=qb F;replace F:=c;exact X0 4 Z (rb h F Z)
def qaU (_:Nat)(x:Int)(low:Int)(high:Int):Option Bool:=
 bif decide (x ≥ low) then V (decide (x≤high)) else
 V false
theorem qaJ {x:Int}{low:Int}{high:Int}  {r:Bool}(F:qaU n x low high=V r):RetV prog 149 [.int .i64 x,.int .i64 low,.int .i64 high] w r:=by
 refine zV 15 func149 Z fun h=>X0 10 Z (qj (t:=10) F Z ?_ ?_)<;>intro F
 ·exact X0 9 Z (rb h F Z)
 exact X0 6 Z (rb h F Z)
def qiZ (_:Nat)(list:(List ByteArray)):Option Int:=
 V (list.length:Int)
theorem qn1 {list:(List ByteArray)}(a:Ro w list cs1){r:Int}(F:qiZ n list=V r):RetV prog 211 [GoT.v (List ByteArray) cs1] w r:=by
 obtain⟨_,_,rfl,_⟩:=a;exact zV 5 func211 Z fun h=>X0 10 Z (ri h F Z)
def qcj (n:Nat)(d:qg)(net:Int):Option Bool:=
 (qiZ n d.Ai).bind fun a=>
 (qaU n net 0 (W64 (a-1))).bind fun b=>
 V b
theorem qdV {d:qg}{net:Int}(a:Ro w d cs1){r:Bool}(F:qcj n d net=V r):RetV prog 148 [GoT.v qg cs1,.int .i64 net] w r:=by
 obtain⟨_,_,_,_,_,_,rfl,_,s2,_⟩:=qaI a;exact zV 11 func148 Z fun h=>zSR (qw h Z Z fun _ _ h=>X1 7 0 h Z (zcI h F (qn1 ⟨_,_,rfl,(h.oldS s2)⟩) Z fun _ _ h F=>zp1 Z (zcB h F qaJ Z fun _ _ h F=>X0 2 Z (rb h F Z))))
def qjw (_:Nat)(s cutset:ByteArray):Option ByteArray:=
 if s.size≤9223372036854775807∧cutset.size<4294967281∧cutset.data.toList.all (fun b=>decide (b.toNat<128))=true then V ⟨(Lib.trimS s.data.toList cutset.data.toList).toArray⟩ else U
theorem qrJ {s cutset:ByteArray}{r:ByteArray}(F:qjw n s cutset=V r):RetV prog 209 [.string s,.string cutset] w r:=by
 unfold qjw at F;split at F
 ·rename_i hh
  obtain rfl:=qb F;refine(Tryz.strings_Trim_any s cutset w hh.1 hh.2.1 hh.2.2).mono ?_;rintro e w' ⟨rfl,hB⟩;exact⟨_,rfl,hB,[.string _],rfl,qwP _ _⟩
 cases F
def qhw (_:Nat)(s:ByteArray)(c:(IntK .u8)):Option Int:=
 V (Lib.indexByte s.data.toList c.val.toNat.toUInt8)
theorem qoj {s:ByteArray}{c:(IntK .u8)}{r:Int}(F:qhw n s c=V r):RetV prog 210 [.string s,.int .u8 c.val] w r:=by
 obtain rfl:=qb F;refine(Tryz.strings_IndexByte s c.val w).mono ?_;rintro e w' ⟨rfl,rfl⟩;exact⟨_,rfl,Below.refl _ _,[.int .i64 _],rfl,qym _ _⟩
def qjc (n:Nat)(s:ByteArray):Option Bool:=
 (qaU n (s.size:Int) 1 8).bind fun a=>
 bif a then
  (qjw n s (⟨#[97,98,99,100,101,102,103,104,105,106,107,108,109,110,111,112,113,114,115,116,117,118,119,120,121,122,48,49,50,51,52,53,54,55,56,57]⟩:ByteArray)).bind fun b=>
  bif (b.toList==(⟨#[]⟩:ByteArray).toList) then
   (atS s 0).bind fun d=>
   (qhw n (⟨#[97,98,99,100,101,102,103,104,105,106,107,108,109,110,111,112,113,114,115,116,117,118,119,120,121,122]⟩:ByteArray) (⟨d⟩:IntK .u8)).bind fun c=>
   V (decide (c ≥ 0))
  else
   V false
 else
  V false
theorem qlU {s:ByteArray}  {r:Bool}(F:qjc n s=V r):RetV prog 146 [.string s] w r:=by
 refine zV 17 func146 Z fun h=>X0 8 Z (zcB h F qaJ Z fun _ _ h F=>zp1 Z (qj (t:=6) F Z ?_ ?_))<;>intro F
 ·refine X0 3 Z (zcS h F qrJ Z fun _ _ h F=>X0 4 Z (qj (t:=11) F Z ?_ ?_))<;>intro F
  ·refine X0 3 Z ?_;obtain⟨_,a,F⟩:=qd F;have b:=qou a;exact r_v (qoO qa b Z Z Z Z) Z (X0 1 Z (zcI h F qoj Z fun _ _ h F=>X0 5 Z (rb h F Z)))
  exact X0 7 Z (rb h F Z)
 exact X0 12 Z (rb h F Z)
def qcb (s:(List ByteArray))(v:ByteArray):Nat→Int→Option (Flow Int Int)
 | 0,_=>U
 | n+1,a=>
  bif decide (a<(s.length:Int)) then
   (idx s a).bind fun b=>
   bif (v.toList==b.toList) then V (.ret a) else
   qcb s v n (W64 (a+1))
  else
   V (.nxt a)
def qf2 (n:Nat)(s:(List ByteArray))(v:ByteArray):Option Int:=
 (qcb s v n 0).bind fun o=>match o with
 | .ret r=>V r
 | .nxt _=>
  V (-1)
theorem qnF {s:(List ByteArray)}{v:ByteArray}(b:Ro w s cs1){r:Int}(F:qf2 n s v=V r):RetV prog 313 [GoT.v (List ByteArray) cs1,.string v] w r:=by
 obtain⟨p,l,rfl,t⟩:=b;refine zV 19 func313 Z fun h=>X0 11 Z ?_;obtain⟨o,F,a⟩:=qd F;refine qn (rL (fun m e w'=>∃(i:Int),qcb s v m i=V o∧e=[(0,.slice p s.length l),(1,.string v),(7,.int .i64 (s.length:Int)),(8,.int .i64 i)]∧SH w w' []) n ⟨_,F,rfl,h⟩ Z ?_);rintro k _ _ ⟨i,F,rfl,h⟩;rcases k with _|k
 ·cases F
 refine X0 5 Z (qi Z F ?_ ?_)<;>intro F
 ·refine X0 13 Z ?_;obtain⟨_,_,F,d,_,_,_,_,f,g,rfl,c⟩:=t.ix F;refine zxe f g d Z (zc 0 (c.below h.below) Z (X0 2 Z (qi Z F ?_ ?_)))<;>intro F
  ·refine X0 5 Z ?_;obtain rfl:=qb F;replace F:=a;exact ri h F Z
  exact X0 6 Z (rK ⟨_,F,rfl,h⟩ Z)
 refine qr Z ?_;obtain rfl:=qb F;replace F:=a;exact X0 4 Z (ri h F Z)
def qey (n:Nat)(s:(List ByteArray))(v:ByteArray):Option Bool:=
 (qf2 n s v).bind fun a=>
 V (decide (a ≥ 0))
theorem qmd {s:(List ByteArray)}{v:ByteArray}(a:Ro w s cs1){r:Bool}(F:qey n s v=V r):RetV prog 291 [GoT.v (List ByteArray) cs1,.string v] w r:=by
 obtain⟨_,_,rfl,b⟩:=a;exact zV 9 func291 Z fun h=>X0 8 Z (zcI h F (qnF ⟨_,_,rfl,(h.oldS b)⟩) Z fun _ _ h F=>X0 3 Z (rb h F Z))
def qeM (list:(List ByteArray)):Nat→Int→Option (Flow Bool Int)
 | 0,_=>U
 | n+1,a=>
  bif decide (a<(list.length:Int)) then
   (idx list a).bind fun b=>
   (qjc n b).bind fun c=>
   bif (!c) then V (.ret false) else
   (subS list 0 a).bind fun f=>
   (qey n f b).bind fun d=>
   bif d then V (.ret false) else
   qeM list n (W64 (a+1))
  else
   V (.nxt a)
def qeG (n:Nat)(list:(List ByteArray)):Option Bool:=
 (qeM list n 0).bind fun o=>match o with
 | .ret r=>V r
 | .nxt _=>
  V true
theorem qgl {list:(List ByteArray)}(f:Ro w list cs1){r:Bool}(F:qeG n list=V r):RetV prog 246 [GoT.v (List ByteArray) cs1] w r:=by
 obtain⟨x,u,rfl,s⟩:=f;refine zV 23 func246 Z fun h=>X0 11 Z ?_;obtain⟨z,F,a⟩:=qd F;refine qn (rL (fun m e w'=>∃(p:Int),qeM list m p=V z∧e=[(0,.slice x list.length u),(5,.slice x list.length u),(6,.int .i64 (list.length:Int)),(7,.int .i64 p)]∧SH w w' []) n ⟨_,F,rfl,h⟩ Z ?_);rintro v _ _ ⟨p,F,rfl,h⟩;rcases v with _|v
 ·cases F
 refine X0 5 Z (qi Z F ?_ ?_)<;>intro F
 ·refine X0 6 Z ?_;obtain⟨_,_,F,i,_,_,_,_,l,o,rfl,g⟩:=s.ix F;refine zxe l o i Z (zc 0 (g.below h.below) Z (X0 6 Z (zcB h F qlU Z fun _ _ h F=>zp2 Z (qj (t:=15) F Z ?_ ?_))))<;>intro F
  ·refine X0 7 Z (qb9 Z Z (X0 4 Z ?_));obtain rfl:=qb F;replace F:=a;exact rb h F Z
  refine X0 5 Z ?_;obtain⟨_,d,F⟩:=qd F;obtain⟨_,_,c,b,k,y⟩:=qv9 (h.oldS s) d;refine r_v (qpS qa Z Z Z (qwL y Z) c b k Z Z Z Z) Z ?_;have s2:=qzl s d c b;refine X0 3 Z (zcB h F (qmd ⟨_,_,rfl,(h.oldS s2)⟩) Z fun _ _ h F=>X0 2 Z (qi Z F ?_ ?_))<;>intro F
  ·refine X0 4 Z ?_;obtain rfl:=qb F;replace F:=a;exact rb h F Z
  exact X0 6 Z (rK ⟨_,F,rfl,h⟩ Z)
 refine qr Z ?_;obtain rfl:=qb F;replace F:=a;exact X0 4 Z (rb h F Z)
def qcO (_:Nat)(list:(List qat)):Option Int:=
 V (list.length:Int)
theorem qje {list:(List qat)}(a:Ro w list cs1){r:Int}(F:qcO n list=V r):RetV prog 307 [GoT.v (List qat) cs1] w r:=by
 obtain⟨_,_,rfl,_⟩:=a;exact zV 5 func307 Z fun h=>X0 10 Z (ri h F Z)
def qdo (list:(List qat)):Nat→(List ByteArray)→Int→Option (Flow Bool ((List ByteArray)×Int))
 | 0,_,_=>U
 | n+1,c,a=>
  bif decide (a<(list.length:Int)) then
   (idx list a).bind fun b=>
   (appS c ([b.Az]:List ByteArray)).bind fun d=>
   bif (a==(W64 ((list.length:Int)-1))) then
    bif (b.Bs != 2) then V (.ret false) else
    bif (b.Bq != 0) then V (.ret false) else
    bif b.Bn then V (.ret false) else
    qdo list n d (W64 (a+1))
   else
    bif (b.Bs != 1) then V (.ret false) else
    (qaU n b.Bq 0 500).bind fun f=>
    bif (!f) then V (.ret false) else
    qdo list n d (W64 (a+1))
  else
   V (.nxt (c,a))
def qk4 (n:Nat)(list:(List qat)):Option Bool:=
 (qdo list n ([]:List ByteArray) 0).bind fun o=>match o with
 | .ret r=>V r
 | .nxt (d,_)=>
  (qcO n list).bind fun a=>
  (qaU n a 2 5).bind fun b=>
  bif b then
   (qeG n d).bind fun c=>
   V c
  else
   V false
theorem qrx {list:(List qat)}(d:Ro w list cs1){r:Bool}(F:qk4 n list=V r):RetV prog 288 [GoT.v (List qat) cs1] w r:=by
 obtain⟨y,v,rfl,z⟩:=d;refine zV 52 func288 Z fun h=>X0 15 Z ?_;replace h:=h.nil (α:=ByteArray);obtain⟨B,F,a⟩:=qd F;refine qn (rL (fun m e w'=>∃(S1:Nat→Prop) (s:Option Addr) (c:Nat) (p:Nat) (u:(List ByteArray)) (o:Int),qdo list m u o=V B∧e=[(0,.slice y list.length v),(3,.slice s c p),(6,.slice y list.length v),(7,.int .i64 (list.length:Int)),(8,.int .i64 o)]∧SH w w' [Ch.own S1 (u:List ByteArray) [.slice s c p]]) n ⟨_,_,_,_,_,_,F,rfl,h⟩ Z ?_);rintro x _ _ ⟨S1,s,c,p,u,o,F,rfl,h⟩;obtain rfl:=(h.sl 0 Z).2;rcases x with _|x
 ·cases F
 refine X0 5 Z (qi Z F ?_ ?_)<;>intro F
 ·refine X0 6 Z ?_;obtain⟨C,_,F,g,_,_,_,_,i,k,l,f⟩:=z.ix F;obtain rfl:=qa5 l;refine zxe i k g Z (zc 0 (f.below h.below) Z (qp qa h Z Z Z fun _ _ h=>zp1 Z (zs 0 h Z fun _ h=>X1 6 0 h Z (qG qa [.tmp 15] _ ([C.Az]:List ByteArray) h Z Z Z Z Z Z Z Z Z ⟨rfl,trivial⟩ Z fun _ _ _ h=>?_))));obtain⟨_,b,F⟩:=qd F;obtain⟨A,b⟩:=qaD b;refine qcs qa 2 h Z (h.sl 0 Z).1 (h.sl 0 Z).2 Z Z Z Z Z Z Z Z Z A b Z fun _ _ _ _ h=>X0 10 Z (qi Z F ?_ ?_)<;>intro F
  ·refine X1 6 1 h Z (qj (t:=26) F Z ?_ ?_)<;>intro F
   ·refine X0 9 Z (qb9 Z Z (X0 4 Z ?_));obtain rfl:=qb F;replace F:=a;exact rb h F Z
   refine X1 8 1 h Z (qj (t:=31) F Z ?_ ?_)<;>intro F
   ·refine X0 4 Z (qb9 Z Z (X0 4 Z ?_));obtain rfl:=qb F;replace F:=a;exact rb h F Z
   refine X1 6 1 h Z (qi Z F ?_ ?_)<;>intro F
   ·refine X0 4 Z ?_;obtain rfl:=qb F;replace F:=a;exact rb h F Z
   refine X0 6 Z ?_;replace h:=h.pick [2] Z;exact rK ⟨_,_,_,_,_,_,F,rfl,h⟩ Z
  refine X1 6 1 h Z (qj (t:=38) F Z ?_ ?_)<;>intro F
  ·refine X0 6 Z (qb9 Z Z (X0 4 Z ?_));obtain rfl:=qb F;replace F:=a;exact rb h F Z
  refine X1 5 1 h Z (zcB h F qaJ Z fun _ _ h F=>X0 4 Z (qi Z F ?_ ?_))<;>intro F
  ·refine X0 4 Z ?_;obtain rfl:=qb F;replace F:=a;exact rb h F Z
  refine X0 6 Z ?_;replace h:=h.pick [2] Z;exact rK ⟨_,_,_,_,_,_,F,rfl,h⟩ Z
 refine qr Z ?_;obtain rfl:=qb F;replace F:=a;refine X0 3 Z (zcI h F (qje ⟨_,_,rfl,(h.oldS z)⟩) Z fun _ _ h F=>zcB h F qaJ Z fun _ _ h F=>zp1 Z (qj (t:=48) F Z ?_ ?_))<;>intro F
 ·exact X0 3 Z (zcB h F (qgl (h.own 0 Z)) Z fun _ _ h F=>X0 3 Z (rb h F Z))
 exact X0 5 Z (rb h F Z)
def qlg (_:Nat)(kind:Int):Option Bool:=
 bif (kind==4) then V true else
 V (kind==5)
theorem qrs {kind:Int}  {r:Bool}(F:qlg n kind=V r):RetV prog 68 [.int .i64 kind] w r:=by
 refine zV 9 func68 Z fun h=>X0 9 Z (qj (t:=5) F Z ?_ ?_)<;>intro F
 ·exact X0 5 Z (rb h F Z)
 exact X0 7 Z (rb h F Z)
def qeT (n:Nat)(c:qA):Option Int:=
 (qcO n c.Av).bind fun a=>
 V (W64 (a-1))
theorem qiv {c:qA}(a:Ro w c cs1){r:Int}(F:qeT n c=V r):RetV prog 311 [GoT.v qA cs1] w r:=by
 obtain⟨_,_,_,_,_,_,rfl,b,_,_⟩:=qal a;exact zV 7 func311 Z fun h=>zSR (qw h Z Z fun _ _ h=>X1 6 0 h Z (zcI h F (qje ⟨_,_,rfl,(h.oldS b)⟩) Z fun _ _ h F=>X0 3 Z (ri h F Z)))
def qii (n:Nat)(a_n:Int)(b:Int)(c:Int):Option Bool:=
 (qaU n a_n b c).bind fun a=>
 V (!a)
theorem qpb {a_n:Int}{l:Int}{m:Int}{i:Option Addr}(a:Ro w (V l) [.pointer i]){k:Option Addr}(b:Ro w (V m) [.pointer k]){r:Bool}(F:qii n a_n l m=V r):RetV prog 214 [.int .i64 a_n,.pointer i,.pointer k] w r:=by
 obtain⟨_,o,_,rfl,-,f,c⟩:=PtR.get a Z;obtain rfl:=f;obtain⟨_,p,_,rfl,-,g,d⟩:=PtR.get b Z;obtain rfl:=g;exact zV 10 func214 Z fun h=>X0 7 Z (zc 0 (c.below h.below) Z (zc 0 (d.below h.below) Z (zcB h F qaJ Z fun _ _ h F=>X0 3 Z (rb h F Z))))
def qap (s:(List Int))(a:Int)(b:Int):Nat→Int→Option (Flow Int Int)
 | 0,_=>U
 | n+1,c=>
  bif decide (c<(s.length:Int)) then
   (idx s c).bind fun f=>
   (qii n f a b).bind fun d=>
   bif d then V (.ret c) else
   qap s a b n (W64 (c+1))
  else
   V (.nxt c)
def qbb (n:Nat)(s:(List Int))(a:Int)(b:Int):Option Int:=
 (qap s a b n 0).bind fun o=>match o with
 | .ret r=>V r
 | .nxt _=>
  V (-1)
theorem qgN {s:(List Int)}{a:Int}{b:Int}(g:Ro w s cs1){z:Option Addr}(d:Ro w (V a) [.pointer z]){A:Option Addr}(f:Ro w (V b) [.pointer A]){r:Int}(F:qbb n s a b=V r):RetV prog 268 [GoT.v (List Int) cs1,.func (.func 214) #[] #[.pointer z,.pointer A]] w r:=by
 obtain⟨D,B,rfl,H⟩:=g;obtain⟨b1,v,_,rfl,-,p,_⟩:=PtR.get d Z;obtain rfl:=p;obtain⟨b2,x,_,rfl,-,t,_⟩:=PtR.get f Z;obtain rfl:=t;refine zV 19 func268 Z fun h=>X0 11 Z ?_;obtain⟨C,F,c⟩:=qd F;refine qn (rL (fun m e w'=>∃(u:Int),qap s a b m u=V C∧e=[(0,.slice D s.length B),(1,.func (.func 214) #[] #[.pointer (V ⟨b1,v,U⟩),.pointer (V ⟨b2,x,U⟩)]),(7,.int .i64 (s.length:Int)),(8,.int .i64 u)]∧SH w w' []) n ⟨_,F,rfl,h⟩ Z ?_);rintro y _ _ ⟨u,F,rfl,h⟩;rcases y with _|y
 ·cases F
 refine X0 5 Z (qi Z F ?_ ?_)<;>intro F
 ·refine X0 13 Z ?_;obtain⟨_,_,F,k,_,_,_,_,l,o,rfl,i⟩:=H.ix F;refine zxe l o k Z (zc 0 (i.below h.below) Z (zcB h F (qpb (h.old d) (h.old f)) Z fun _ _ h F=>qcU (qi Z F ?_ ?_)))<;>intro F
  ·refine X0 5 Z ?_;obtain rfl:=qb F;replace F:=c;exact ri h F Z
  exact X0 6 Z (rK ⟨_,F,rfl,h⟩ Z)
 refine qr Z ?_;obtain rfl:=qb F;replace F:=c;exact X0 4 Z (ri h F Z)
def qbJ (n:Nat)(s:(List Int))(a:Int)(b:Int):Option Bool:=
 (qbb n s a b).bind fun c=>
 V (decide (c ≥ 0))
theorem qf1 {s:(List Int)}{a:Int}{b:Int}(f:Ro w s cs1){k:Option Addr}(c:Ro w (V a) [.pointer k]){l:Option Addr}(d:Ro w (V b) [.pointer l]){r:Bool}(F:qbJ n s a b=V r):RetV prog 213 [GoT.v (List Int) cs1,.func (.func 214) #[] #[.pointer k,.pointer l]] w r:=by
 obtain⟨_,_,rfl,p⟩:=f;obtain⟨_,m,_,rfl,-,g,_⟩:=PtR.get c Z;obtain rfl:=g;obtain⟨_,o,_,rfl,-,i,_⟩:=PtR.get d Z;obtain rfl:=i;exact zV 9 func213 Z fun h=>X0 8 Z (zcI h F (qgN ⟨_,_,rfl,(h.oldS p)⟩ (h.old c) (h.old d)) Z fun _ _ h F=>X0 3 Z (rb h F Z))
def qbY (n:Nat)(list:(List Int))(low:Int)(high:Int):Option Bool:=
 (qbJ n list low high).bind fun a=>
 V (!a)
theorem qcl {list:(List Int)}{low:Int}{high:Int}(a:Ro w list cs1){r:Bool}(F:qbY n list low high=V r):RetV prog 152 [GoT.v (List Int) cs1,.int .i64 low,.int .i64 high] w r:=by
 obtain⟨_,_,rfl,b⟩:=a;exact zV 11 func152 Z fun h=>zSR (qw h Z Z fun _ _ h=>qw h Z Z fun _ _ h=>X0 6 Z (zcB h F (qf1 ⟨_,_,rfl,(h.oldS b)⟩ (qcW (x:=low) 1 h Z Z) (qcW (x:=high) 0 h Z Z)) Z fun _ _ h F=>X0 3 Z (rb h F Z)))
def qbE (list:(List Int)):Nat→Int→Option (Flow Bool Int)
 | 0,_=>U
 | n+1,a=>
  bif decide (a<(list.length:Int)) then
   (idx list (W64 (a-1))).bind fun b=>
   (idx list a).bind fun c=>
   bif decide (b ≥ c) then V (.ret false) else
   qbE list n (W64 (a+1))
  else
   V (.nxt a)
def qd1 (n:Nat)(list:(List Int)):Option Bool:=
 (qbE list n 1).bind fun o=>match o with
 | .ret r=>V r
 | .nxt _=>
  V true
theorem qhP {list:(List Int)}(b:Ro w list cs1){r:Bool}(F:qd1 n list=V r):RetV prog 154 [GoT.v (List Int) cs1] w r:=by
 obtain⟨x,u,rfl,t⟩:=b;refine zV 20 func154 Z fun h=>X0 9 Z ?_;obtain⟨v,F,a⟩:=qd F;refine qn (rL (fun m e w'=>∃(p:Int),qbE list m p=V v∧e=[(0,.slice x list.length u),(3,.int .i64 p)]∧SH w w' []) n ⟨_,F,rfl,h⟩ Z ?_);rintro s _ _ ⟨p,F,rfl,h⟩;rcases s with _|s
 ·cases F
 refine X0 8 Z (qi Z F ?_ ?_)<;>intro F
 ·refine X0 4 Z (rD (zd3 Z ?_));obtain⟨_,_,F,f,_,_,_,_,i,l,rfl,c⟩:=t.ix F;refine zdxe i l f Z (zdc 0 (c.below h.below) Z (zd2 Z ?_));obtain⟨_,_,F,g,_,_,_,_,k,o,rfl,d⟩:=t.ix F;refine zdxe k o g Z (zdc 0 (d.below h.below) Z (zd1 Z (dN h fun _ h=>qi Z F ?_ ?_)))<;>intro F
  ·refine X0 4 Z ?_;obtain rfl:=qb F;replace F:=a;exact rb h F Z
  exact X0 7 Z (rK ⟨_,F,rfl,h⟩ Z)
 refine qr Z ?_;obtain rfl:=qb F;replace F:=a;exact X0 4 Z (rb h F Z)
def qbB (_:Nat)(list:(List Int)):Option Int:=
 V (list.length:Int)
theorem qcM {list:(List Int)}(a:Ro w list cs1){r:Int}(F:qbB n list=V r):RetV prog 197 [GoT.v (List Int) cs1] w r:=by
 obtain⟨_,_,rfl,_⟩:=a;exact zV 5 func197 Z fun h=>X0 10 Z (ri h F Z)
def qkL (n:Nat)(list:(List Int)):Option Bool:=
 (qbB n list).bind fun a=>
 (qaU n a 1 4).bind fun b=>
 bif b then
  (qbY n list 0 100000).bind fun c=>
  bif c then
   (qd1 n list).bind fun d=>
   V d
  else
   V false
 else
  V false
theorem qoh {list:(List Int)}(a:Ro w list cs1){r:Bool}(F:qkL n list=V r):RetV prog 199 [GoT.v (List Int) cs1] w r:=by
 obtain⟨_,_,rfl,b⟩:=a;refine zV 14 func199 Z fun h=>X0 7 Z (zcI h F (qcM ⟨_,_,rfl,(h.oldS b)⟩) Z fun _ _ h F=>zcB h F qaJ Z fun _ _ h F=>zp1 Z (qj (t:=6) F Z ?_ ?_))<;>intro F
 ·refine X0 3 Z (zcB h F (qcl ⟨_,_,rfl,(h.oldS b)⟩) Z fun _ _ h F=>zp2 Z (qj (t:=10) F Z ?_ ?_))<;>intro F
  ·exact X0 3 Z (zcB h F (qhP ⟨_,_,rfl,(h.oldS b)⟩) Z fun _ _ h F=>X0 3 Z (rb h F Z))
  exact X0 5 Z (rb h F Z)
 exact X0 9 Z (rb h F Z)
def qlh (n:Nat)(t:qx):Option Bool:=
 (qkL n t.Bi).bind fun a=>
 bif a then
  (qkL n t.Bb).bind fun b=>
  bif b then
   bif ((t.Ba.length:Int)==(W64 ((t.Bi.length:Int)*(t.Bb.length:Int)))) then
    (qbY n t.Ba (-1000000) 1000000).bind fun c=>
    V c
   else
    V false
  else
   V false
 else
  V false
theorem qrH {t:qx}(a:Ro w t cs1){r:Bool}(F:qlh n t=V r):RetV prog 125 [GoT.v qx cs1] w r:=by
 obtain⟨_,_,_,_,_,_,rfl,b,s2,c⟩:=qaK a;refine zV 29 func125 Z fun h=>zSR (qw h Z Z fun _ _ h=>X1 6 0 h Z (zcB h F (qoh ⟨_,_,rfl,(h.oldS b)⟩) Z fun _ _ h F=>zp1 Z (qj (t:=6) F Z ?_ ?_)))<;>intro F
 ·refine X1 5 0 h Z (zcB h F (qoh ⟨_,_,rfl,(h.oldS s2)⟩) Z fun _ _ h F=>zp2 Z (qj (t:=11) F Z ?_ ?_))<;>intro F
  ·refine X3 24 0 0 0 h Z (qj (t:=24) F Z ?_ ?_)<;>intro F
   ·exact X1 5 0 h Z (zcB h F (qcl ⟨_,_,rfl,(h.oldS c)⟩) Z fun _ _ h F=>X0 3 Z (rb h F Z))
   exact X0 6 Z (rb h F Z)
  exact X0 19 Z (rb h F Z)
 exact X0 24 Z (rb h F Z)
def qdf (x:(List Int)):Nat→Int→Int→Option (Int×Int)
 | 0,_,_=>U
 | n+1,b,a=>
  bif decide (a<(x.length:Int)) then
   (idx x a).bind fun c=>
   qdf x n (if c<b then c else b) (W64 (a+1))
  else
   V (b,a)
def qil (n:Nat)(x:(List Int)):Option Int:=
 (
  bif decide ((x.length:Int)<1) then U else
  V ()).bind fun _=>
 (idx x 0).bind fun b=>
 (qdf x n b 1).bind fun o=>match o with
 | (a,_)=>
  V a
theorem qpe {x:(List Int)}(f:Ro w x cs1){r:Int}(F:qil n x=V r):RetV prog 334 [GoT.v (List Int) cs1] w r:=by
 obtain⟨A,y,rfl,B⟩:=f;refine zV 25 func334 Z fun h=>X0 11 Z ?_;obtain⟨b,a,_,F,d⟩:=bindE F;refine qaT (fun e w'=>b ()=V r∧e=[(0,.slice A x.length y)]∧SH w w' []) ?_ ?_
 ·refine qi Z F ?_ ?_<;>intro F
  ·refine qkH ?_;cases F
  refine qhD ?_;obtain rfl:=qb F;exact rG ⟨d,rfl,h⟩ Z
 rintro _ _ ⟨F,rfl,h⟩;subst a;refine X0 3 Z ?_;obtain⟨_,_,F,k,_,_,_,_,o,s,rfl,g⟩:=B.ix F;refine zxe o s k Z (zc 0 (g.below h.below) Z (X0 7 Z ?_));obtain⟨C,F,c⟩:=qd F;refine qn (rL (fun m e w'=>∃(u:Int) (v:Int),qdf x m u v=V C∧e=[(0,.slice A x.length y),(3,.int .i64 u),(4,.int .i64 v)]∧SH w w' []) n ⟨_,_,F,rfl,h⟩ Z ?_);rintro z _ _ ⟨u,v,F,rfl,h⟩;rcases z with _|z
 ·cases F
 refine X0 8 Z (qi Z F ?_ ?_)<;>intro F
 ·refine X0 7 Z ?_;obtain⟨_,_,F,l,_,_,_,_,p,t,rfl,i⟩:=B.ix F;exact zxe p t l Z (zc 0 (i.below h.below) Z (X0 9 Z (rK ⟨_,_,F,rfl,h⟩ Z)))
 refine qr Z ?_;obtain rfl:=qb F;replace F:=c;exact X0 5 Z (ri h F Z)
def qik (n:Nat)(t:qx)(c:Bool):Option Bool:=
 (qlh n t).bind fun a=>
 bif (!a) then V true else
 bif c then
  (qil n t.Ba).bind fun b=>
  V (decide (b<0))
 else
  V false
theorem qo6 {t:qx}{g:Bool}(a:Ro w t cs1){f:Option Addr}(b:Ro w (V g) [.pointer f]){r:Bool}(F:qik n t g=V r):RetV prog 333 [GoT.v qx cs1,.pointer f] w r:=by
 obtain⟨_,_,_,_,_,_,rfl,_,_,k⟩:=qaK a;obtain⟨_,i,_,rfl,-,d,c⟩:=PtR.get b Z;obtain rfl:=d;refine zV 16 func333 Z fun h=>zSR (qw h Z Z fun _ _ h=>X1 5 0 h Z (zcB h F (qrH (h.old a)) Z fun _ _ h F=>zp2 Z (qj (t:=7) F Z ?_ ?_)))<;>intro F
 ·exact X0 10 Z (rb h F Z)
 refine X0 1 Z (zc 0 (c.below h.below) Z (X0 2 Z (qj (t:=9) F Z ?_ ?_)))<;>intro F
 ·exact X1 5 0 h Z (zcI h F (qpe ⟨_,_,rfl,(h.oldS k)⟩) Z fun _ _ h F=>X0 7 Z (rb h F Z))
 exact X0 9 Z (rb h F Z)
def qaa (s:(List qx))(a:Bool):Nat→Int→Option (Flow Int Int)
 | 0,_=>U
 | n+1,b=>
  bif decide (b<(s.length:Int)) then
   (idx s b).bind fun d=>
   (qik n d a).bind fun c=>
   bif c then V (.ret b) else
   qaa s a n (W64 (b+1))
  else
   V (.nxt b)
def qaL (n:Nat)(s:(List qx))(a:Bool):Option Int:=
 (qaa s a n 0).bind fun o=>match o with
 | .ret r=>V r
 | .nxt _=>
  V (-1)
theorem qfA {s:(List qx)}{a:Bool}(d:Ro w s cs1){v:Option Addr}(c:Ro w (V a) [.pointer v]){r:Int}(F:qaL n s a=V r):RetV prog 124 [GoT.v (List qx) cs1,.func (.func 333) #[] #[.pointer v]] w r:=by
 obtain⟨z,x,rfl,A⟩:=d;obtain⟨b1,t,_,rfl,-,l,_⟩:=PtR.get c Z;obtain rfl:=l;refine zV 19 func124 Z fun h=>X0 11 Z ?_;obtain⟨y,F,b⟩:=qd F;refine qn (rL (fun m e w'=>∃(p:Int),qaa s a m p=V y∧e=[(0,.slice z s.length x),(1,.func (.func 333) #[] #[.pointer (V ⟨b1,t,U⟩)]),(7,.int .i64 (s.length:Int)),(8,.int .i64 p)]∧SH w w' []) n ⟨_,F,rfl,h⟩ Z ?_);rintro u _ _ ⟨p,F,rfl,h⟩;rcases u with _|u
 ·cases F
 refine X0 5 Z (qi Z F ?_ ?_)<;>intro F
 ·refine X0 13 Z ?_;obtain⟨D,_,F,g,_,_,_,_,i,k,o,f⟩:=A.ix F;obtain⟨_,_,_,_,_,_,rfl,s2,B,C⟩:=qaK o;refine zxe i k g Z (zc 0 (f.below h.below) Z (zcB h F (qo6 (qf0 D (h.oldS s2) (h.oldS B) (h.oldS C)) (h.old c)) Z fun _ _ h F=>qcU (qi Z F ?_ ?_)))<;>intro F
  ·refine X0 5 Z ?_;obtain rfl:=qb F;replace F:=b;exact ri h F Z
  exact X0 6 Z (rK ⟨_,F,rfl,h⟩ Z)
 refine qr Z ?_;obtain rfl:=qb F;replace F:=b;exact X0 4 Z (ri h F Z)
def qbh (n:Nat)(s:(List qx))(a:Bool):Option Bool:=
 (qaL n s a).bind fun b=>
 V (decide (b ≥ 0))
theorem qe6 {s:(List qx)}{a:Bool}(c:Ro w s cs1){f:Option Addr}(b:Ro w (V a) [.pointer f]){r:Bool}(F:qbh n s a=V r):RetV prog 69 [GoT.v (List qx) cs1,.func (.func 333) #[] #[.pointer f]] w r:=by
 obtain⟨_,_,rfl,i⟩:=c;obtain⟨_,g,_,rfl,-,d,_⟩:=PtR.get b Z;obtain rfl:=d;exact zV 9 func69 Z fun h=>X0 8 Z (zcI h F (qfA ⟨_,_,rfl,(h.oldS i)⟩ (h.old b)) Z fun _ _ h F=>X0 3 Z (rb h F Z))
def qge (n:Nat)(list:(List qx))(positive:Bool):Option Bool:=
 bif ((list.length:Int)==2) then
  (qbh n list positive).bind fun a=>
  V (!a)
 else
  V false
theorem qjC {list:(List qx)}{positive:Bool}(a:Ro w list cs1){r:Bool}(F:qge n list positive=V r):RetV prog 324 [GoT.v (List qx) cs1,.bool positive] w r:=by
 obtain⟨_,_,rfl,b⟩:=a;refine zV 14 func324 Z fun h=>zSR (qw h Z Z fun _ _ h=>X0 8 Z (qj (t:=8) F Z ?_ ?_))<;>intro F
 ·exact X0 5 Z (zcB h F (qe6 ⟨_,_,rfl,(h.oldS b)⟩ (qcW (x:=positive) 0 h Z Z)) Z fun _ _ h F=>X0 5 Z (rb h F Z))
 exact X0 7 Z (rb h F Z)
def qju (_:Nat)(p:qat):Option Bool:=
 V p.Bn
theorem qoM {p:qat}(a:Ro w p cs1){r:Bool}(F:qju n p=V r):RetV prog 336 [GoT.v qat cs1] w r:=by
 obtain rfl:=qa5 a;exact zV 5 func336 Z fun h=>zSR (qw h Z Z fun _ _ h=>X1 8 0 h Z (rb h F Z))
def qae (s:(List qat)):Nat→Int→Option (Flow Int Int)
 | 0,_=>U
 | n+1,a=>
  bif decide (a<(s.length:Int)) then
   (idx s a).bind fun c=>
   (qju n c).bind fun b=>
   bif b then V (.ret a) else
   qae s n (W64 (a+1))
  else
   V (.nxt a)
def qbC (n:Nat)(s:(List qat)):Option Int:=
 (qae s n 0).bind fun o=>match o with
 | .ret r=>V r
 | .nxt _=>
  V (-1)
theorem qfS {s:(List qat)}(b:Ro w s cs1){r:Int}(F:qbC n s=V r):RetV prog 335 [GoT.v (List qat) cs1,.func (.func 336) #[] #[]] w r:=by
 obtain⟨t,o,rfl,u⟩:=b;refine zV 19 func335 Z fun h=>X0 11 Z ?_;obtain⟨p,F,a⟩:=qd F;refine qn (rL (fun m e w'=>∃(k:Int),qae s m k=V p∧e=[(0,.slice t s.length o),(1,.func (.func 336) #[] #[]),(7,.int .i64 (s.length:Int)),(8,.int .i64 k)]∧SH w w' []) n ⟨_,F,rfl,h⟩ Z ?_);rintro l _ _ ⟨k,F,rfl,h⟩;rcases l with _|l
 ·cases F
 refine X0 5 Z (qi Z F ?_ ?_)<;>intro F
 ·refine X0 13 Z ?_;obtain⟨v,_,F,d,_,_,_,_,f,g,i,c⟩:=u.ix F;obtain rfl:=qa5 i;refine zxe f g d Z (zc 0 (c.below h.below) Z (zcB h F (qoM (qev v)) Z fun _ _ h F=>qcU (qi Z F ?_ ?_)))<;>intro F
  ·refine X0 5 Z ?_;obtain rfl:=qb F;replace F:=a;exact ri h F Z
  exact X0 6 Z (rK ⟨_,F,rfl,h⟩ Z)
 refine qr Z ?_;obtain rfl:=qb F;replace F:=a;exact X0 4 Z (ri h F Z)
def qiQ (n:Nat)(c:qA):Option Int:=
 (qbC n c.Av).bind fun a=>
 V a
theorem qpq {c:qA}(a:Ro w c cs1){r:Int}(F:qiQ n c=V r):RetV prog 325 [GoT.v qA cs1] w r:=by
 obtain⟨_,_,_,_,_,_,rfl,b,_,_⟩:=qal a;exact zV 6 func325 Z fun h=>zSR (qw h Z Z fun _ _ h=>X1 6 0 h Z (zcI h F (qfS ⟨_,_,rfl,(h.oldS b)⟩) Z fun _ _ h F=>X0 2 Z (ri h F Z)))
def qhv (n:Nat)(c:qA)(pin:Int):Option Bool:=
 (qeT n c).bind fun a=>
 (qaU n pin 0 (W64 (a-1))).bind fun b=>
 V b
theorem qku {c:qA}{pin:Int}(a:Ro w c cs1){r:Bool}(F:qhv n c pin=V r):RetV prog 326 [GoT.v qA cs1,.int .i64 pin] w r:=by
 obtain⟨_,_,_,_,_,_,rfl,_,_,_⟩:=qal a;exact zV 10 func326 Z fun h=>zSR (qw h Z Z fun _ _ h=>X1 6 0 h Z (zcI h F (qiv (h.old a)) Z fun _ _ h F=>zp1 Z (zcB h F qaJ Z fun _ _ h F=>X0 2 Z (rb h F Z))))
def qiR (n:Nat)(b:qA)(a:qL):Option Bool:=
 (qlg n a.Ay).bind fun d=>
 bif d then
  (
   bif (a.Bl==0) then
    bif ((a.Aq.length:Int)==0) then
     (qge n a.Bj false).bind fun f=>
     bif f then
      (qiQ n b).bind fun g=>
      bif (a.Bf==g) then
       bif decide (a.Bf ≥ 0) then
        (qhv n b a.To).bind fun h=>
        bif h then V (a.To != a.Bf) else
        V false
       else
        V false
      else
       V false
     else
      V false
    else
     V false
   else
    V false).bind fun b1=>
  V b1
 else
  (
   (qge n a.Bj true).bind fun k=>
   bif (!k) then V true else
   (qge n a.Aq true).bind fun l=>
   bif (!l) then V true else
   (qeT n b).bind fun m=>
   bif (a.To != m) then V true else
   (qhv n b a.Bf).bind fun o=>
   V (!o)).bind fun b2=>
  bif b2 then V false else
  bif (a.Ay==1) then
   (idx b.Av a.Bf).bind fun p=>
   bif (!p.Bn) then
    (qaU n a.Bl 1 3).bind fun i=>
    V i
   else
    V false
  else
   (
    bif (a.Ay==2) then V (a.Ay==2) else
    V (a.Ay==3)).bind fun c=>
   bif c then
    (idx b.Av a.Bf).bind fun r=>
    bif r.Bn then V (a.Bl==0) else
    V false
   else
    V false
theorem qpr {c:qA}{d:qL}(b:Ro w c cs1)(z:Ro w d cs2){r:Bool}(F:qiR n c d=V r):RetV prog 308 [GoT.v qA cs1,GoT.v qL cs2] w r:=by
 obtain⟨p1,S,p2,T,p3,W,rfl,s1,_,_⟩:=qal b;obtain⟨p4,X,p5,Y,rfl,s4,s5⟩:=qaq z;refine zV 103 func308 Z fun h=>zSR (qw h Z Z fun _ f h=>qw h Z Z fun _ g h=>X1 7 0 h Z (zcB h F qrs Z fun _ _ h F=>qcU (qi Z F ?_ ?_)))<;>intro F
 ·refine qcx ?_;obtain⟨u,l,_,F,a⟩:=bindE F;refine qaT (fun e w'=>∃(b1:Bool),u b1=V r∧e=[(4,.bool b1)]∧SH w w' []) ?_ ?_
  ·refine rD (Y1 2 0 h Z ?_);refine zd2 Z (qaY (t:=11) F Z ?_ ?_)<;>intro F
   ·refine Y1 4 0 h Z ?_;refine Y0 6 Z (qaY (t:=17) F Z ?_ ?_)<;>intro F
    ·refine Y1 4 0 h Z ?_;refine Y0 1 Z ?_;obtain⟨r2,L,F⟩:=qd F;refine qbn r2 (vsB _) (cB 324 Z) (fun _ hb=>qjC ⟨_,_,rfl,((h.ext hb).oldS s4)⟩ L) Z Z Z Z (zd2 Z (qaY (t:=22) F Z ?_ ?_))<;>intro F
     ·refine Y1 4 0 h Z ?_;refine Y1 2 1 h Z ?_;refine Y0 1 Z ?_;obtain⟨r3,M,F⟩:=qd F;refine qbn r3 (vsI _) (cB 325 Z) (fun _ hb=>qpq ((h.ext hb).old b) M) Z Z Z Z (Y0 4 Z (qaY (t:=29) F Z ?_ ?_))<;>intro F
      ·refine Y1 4 0 h Z ?_;refine Y0 4 Z (qaY (t:=34) F Z ?_ ?_)<;>intro F
       ·refine Y1 2 1 h Z ?_;refine Y1 4 0 h Z ?_;refine Y0 1 Z ?_;obtain⟨r4,N,F⟩:=qd F;refine qbn r4 (vsB _) (cB 326 Z) (fun _ hb=>qku ((h.ext hb).old b) N) Z Z Z Z (zd2 Z (qaY (t:=40) F Z ?_ ?_))<;>intro F
        ·refine Y1 4 0 h Z ?_;refine Y1 4 0 h Z ?_;refine Y0 4 Z (dN h fun _ h=>?_);replace h:=h.pick [] Z;obtain rfl:=qb F;exact rG ⟨_,a,rfl,h⟩ Z
        refine Y0 7 Z (dN h fun _ h=>?_);replace h:=h.pick [] Z;obtain rfl:=qb F;exact rG ⟨_,a,rfl,h⟩ Z
       refine Y0 13 Z (dN h fun _ h=>?_);replace h:=h.pick [] Z;obtain rfl:=qb F;exact rG ⟨_,a,rfl,h⟩ Z
      refine Y0 18 Z (dN h fun _ h=>?_);replace h:=h.pick [] Z;obtain rfl:=qb F;exact rG ⟨_,a,rfl,h⟩ Z
     refine Y0 25 Z (dN h fun _ h=>?_);replace h:=h.pick [] Z;obtain rfl:=qb F;exact rG ⟨_,a,rfl,h⟩ Z
    refine Y0 30 Z (dN h fun _ h=>?_);replace h:=h.pick [] Z;obtain rfl:=qb F;exact rG ⟨_,a,rfl,h⟩ Z
   refine Y0 36 Z (dN h fun _ h=>?_);replace h:=h.pick [] Z;obtain rfl:=qb F;exact rG ⟨_,a,rfl,h⟩ Z
  rintro _ _ ⟨b1,F,rfl,h⟩;subst l;exact rb h F Z
 refine zKSS ?_;obtain⟨x,o,_,F,i⟩:=bindE F;refine qaT (fun e w'=>∃(b2:Bool),x b2=V r∧e=[(2,.pointer (V ⟨f,0,U⟩)),(3,.pointer (V ⟨g,0,U⟩)),(70,.bool b2)]∧SH w w' [Ch.box g (qh3 d p4 p5 X Y) 138,Ch.box f (qeB c p1 p2 p3 S T W) 135]) ?_ ?_
 ·refine rD (Y1 2 0 h Z ?_);obtain⟨r6,Q,F⟩:=qd F;refine qbn r6 (vsB _) (cB 324 Z) (fun _ hb=>qjC ⟨_,_,rfl,((h.ext hb).oldS s4)⟩ Q) Z Z Z Z (zd2 Z (qaY (t:=51) F Z ?_ ?_))<;>intro F
  ·refine Y0 19 Z (dN h fun _ h=>?_);obtain rfl:=qb F;exact rG ⟨_,i,rfl,h⟩ Z
  refine Y1 4 0 h Z ?_;refine Y0 1 Z ?_;obtain⟨r7,R,F⟩:=qd F;refine qbn r7 (vsB _) (cB 324 Z) (fun _ hb=>qjC ⟨_,_,rfl,((h.ext hb).oldS s5)⟩ R) Z Z Z Z (Y0 4 Z (qaY (t:=57) F Z ?_ ?_))<;>intro F
  ·refine Y0 13 Z (dN h fun _ h=>?_);obtain rfl:=qb F;exact rG ⟨_,i,rfl,h⟩ Z
  refine Y1 4 0 h Z ?_;refine Y1 2 1 h Z ?_;refine Y0 1 Z ?_;obtain⟨r8,p,F⟩:=qd F;refine qbn r8 (vsI _) (cB 311 Z) (fun _ hb=>qiv ((h.ext hb).old b) p) Z Z Z Z (Y0 4 Z (qaY (t:=64) F Z ?_ ?_))<;>intro F
  ·refine Y0 6 Z (dN h fun _ h=>?_);obtain rfl:=qb F;exact rG ⟨_,i,rfl,h⟩ Z
  refine Y1 2 1 h Z ?_;refine Y1 4 0 h Z ?_;refine Y0 1 Z ?_;obtain⟨r9,s,F⟩:=qd F;refine qbn r9 (vsB _) (cB 326 Z) (fun _ hb=>qku ((h.ext hb).old b) s) Z Z Z Z (Y0 3 Z (dN h fun _ h=>?_));obtain rfl:=qb F;exact rG ⟨_,i,rfl,h⟩ Z
 rintro _ _ ⟨b2,F,rfl,h⟩;subst o;refine qi Z F ?_ ?_<;>intro F
 ·exact X0 4 Z (rb h F Z)
 refine X1 13 0 h Z (qi Z F ?_ ?_)<;>intro F
 ·refine X2 6 1 0 h Z ?_;obtain⟨_,_,F,C,_,_,_,_,H,J,O,A⟩:=s1.ix F;obtain rfl:=qa5 O;refine zxe H J C Z (zp1 Z (zc 3 (A.below h.below) Z (zp2 Z (qj (t:=83) F Z ?_ ?_))))<;>intro F
  ·exact X1 5 0 h Z (zcB h F qaJ Z fun _ _ h F=>X0 3 Z (rb h F Z))
  exact X0 6 Z (rb h F Z)
 refine X0 6 Z ?_;obtain⟨v,m,_,F,k⟩:=bindE F;refine qaT (fun e w'=>∃(y:Bool),v y=V r∧e=[(2,.pointer (V ⟨f,0,U⟩)),(3,.pointer (V ⟨g,0,U⟩)),(88,.bool y)]∧SH w w' [Ch.box g (qh3 d p4 p5 X Y) 138,Ch.box f (qeB c p1 p2 p3 S T W) 135]) ?_ ?_
 ·refine qi Z F ?_ ?_<;>intro F
  ·refine qhD ?_;obtain rfl:=qb F;exact rG ⟨_,k,rfl,h⟩ Z
  refine X0 4 Z ?_;obtain rfl:=qb F;exact rG ⟨_,k,rfl,h⟩ Z
 rintro _ _ ⟨y,F,rfl,h⟩;subst m;refine qi Z F ?_ ?_<;>intro F
 ·refine X2 6 1 0 h Z ?_;obtain⟨_,_,F,D,_,_,_,_,I,K,P,B⟩:=s1.ix F;obtain rfl:=qa5 P;refine zxe I K D Z (zp1 Z (zc 3 (B.below h.below) Z (zp1 Z (qj (t:=98) F Z ?_ ?_))))<;>intro F
  ·exact X1 9 0 h Z (rb h F Z)
  exact X0 6 Z (rb h F Z)
 exact X0 6 Z (rb h F Z)
def qf4 (_:Nat)(a_o:qL)(a:qL):Option Bool:=
 bif (a_o.Ay==a.Ay) then
  bif (a_o.Bf==a.Bf) then V (a_o.To==a.To) else
  V false
 else
  V false
theorem qnk {a_o:qL}{g:qL}(b:Ro w a_o cs1){f:Option Addr}(c:Ro w (V g) [.pointer f]){r:Bool}(F:qf4 n a_o g=V r):RetV prog 310 [GoT.v qL cs1,.pointer f] w r:=by
 obtain⟨_,_,_,_,rfl,_,_⟩:=qaq b;obtain⟨_,i,_,rfl,-,d,a⟩:=PtR.get c Z;obtain⟨_,_,_,_,rfl,_,_⟩:=qaq d;refine zV 23 func310 Z fun h=>zSR (qw h Z Z fun _ _ h=>X1 7 0 h Z (zc 0 (a.below h.below) Z (zp2 Z (qj (t:=9) F Z ?_ ?_))))<;>intro F
 ·refine X1 7 0 h Z (zc 1 (a.below h.below) Z (X0 4 Z (qj (t:=16) F Z ?_ ?_)))<;>intro F
  ·exact X1 7 0 h Z (zc 2 (a.below h.below) Z (X0 5 Z (rb h F Z)))
  exact X0 8 Z (rb h F Z)
 exact X0 15 Z (rb h F Z)
def qZ (s:(List qL))(a:qL):Nat→Int→Option (Flow Int Int)
 | 0,_=>U
 | n+1,b=>
  bif decide (b<(s.length:Int)) then
   (idx s b).bind fun d=>
   (qf4 n d a).bind fun c=>
   bif c then V (.ret b) else
   qZ s a n (W64 (b+1))
  else
   V (.nxt b)
def qbm (n:Nat)(s:(List qL))(a:qL):Option Int:=
 (qZ s a n 0).bind fun o=>match o with
 | .ret r=>V r
 | .nxt _=>
  V (-1)
theorem qfm {s:(List qL)}{a:qL}(d:Ro w s cs1){v:Option Addr}(c:Ro w (V a) [.pointer v]){r:Int}(F:qbm n s a=V r):RetV prog 327 [GoT.v (List qL) cs1,.func (.func 310) #[] #[.pointer v]] w r:=by
 obtain⟨z,x,rfl,A⟩:=d;obtain⟨b1,t,_,rfl,-,l,_⟩:=PtR.get c Z;obtain⟨_,_,_,_,rfl,_,_⟩:=qaq l;refine zV 19 func327 Z fun h=>X0 11 Z ?_;obtain⟨y,F,b⟩:=qd F;refine qn (rL (fun m e w'=>∃(p:Int),qZ s a m p=V y∧e=[(0,.slice z s.length x),(1,.func (.func 310) #[] #[.pointer (V ⟨b1,t,U⟩)]),(7,.int .i64 (s.length:Int)),(8,.int .i64 p)]∧SH w w' []) n ⟨_,F,rfl,h⟩ Z ?_);rintro u _ _ ⟨p,F,rfl,h⟩;rcases u with _|u
 ·cases F
 refine X0 5 Z (qi Z F ?_ ?_)<;>intro F
 ·refine X0 13 Z ?_;obtain⟨D,_,F,g,_,_,_,_,i,k,o,f⟩:=A.ix F;obtain⟨_,_,_,_,rfl,B,C⟩:=qaq o;refine zxe i k g Z (zc 0 (f.below h.below) Z (zcB h F (qnk (qgo D (h.oldS B) (h.oldS C)) (h.old c)) Z fun _ _ h F=>qcU (qi Z F ?_ ?_)))<;>intro F
  ·refine X0 5 Z ?_;obtain rfl:=qb F;replace F:=b;exact ri h F Z
  exact X0 6 Z (rK ⟨_,F,rfl,h⟩ Z)
 refine qr Z ?_;obtain rfl:=qb F;replace F:=b;exact X0 4 Z (ri h F Z)
end Go.Fw


namespace Go.Fw
open Go Go.Proofs Go.Proofs.Tryz
open Go.RowKit (Below)
set_option maxRecDepth 100000
set_option maxHeartbeats 1600000
variable {n:Nat}{w:World}{cs1 cs2 cs3 cs4 cs5 cs6 cs7 cs8 cs9:List Value}
def qaH (n:Nat)(s:(List qL))(a:qL):Option Bool:=
 (qbm n s a).bind fun b=>
 V (decide (b ≥ 0))
theorem qeQ {s:(List qL)}{a:qL}(c:Ro w s cs1){f:Option Addr}(b:Ro w (V a) [.pointer f]){r:Bool}(F:qaH n s a=V r):RetV prog 309 [GoT.v (List qL) cs1,.func (.func 310) #[] #[.pointer f]] w r:=by
 obtain⟨_,_,rfl,i⟩:=c;obtain⟨_,g,_,rfl,-,d,_⟩:=PtR.get b Z;obtain⟨_,_,_,_,rfl,_,_⟩:=qaq d;exact zV 9 func309 Z fun h=>X0 8 Z (zcI h F (qfm ⟨_,_,rfl,(h.oldS i)⟩ (h.old b)) Z fun _ _ h F=>X0 3 Z (rb h F Z))
def qcJ (c:qA):Nat→Int→Option (Flow Bool Int)
 | 0,_=>U
 | n+1,a=>
  bif decide (a<(c.As.length:Int)) then
   (idx c.As a).bind fun b=>
   (qiR n c b).bind fun d=>
   bif (!d) then V (.ret false) else
   (subS c.As 0 a).bind fun g=>
   (qaH n g b).bind fun f=>
   bif f then V (.ret false) else
   qcJ c n (W64 (a+1))
  else
   V (.nxt a)
def qhu (n:Nat)(c:qA):Option Bool:=
 (qcJ c n 0).bind fun o=>match o with
 | .ret r=>V r
 | .nxt _=>
  V (decide ((c.As.length:Int)≤8))
theorem qod {c:qA}(d:Ro w c cs1){r:Bool}(F:qhu n c=V r):RetV prog 289 [GoT.v qA cs1] w r:=by
 obtain⟨L,I,B,z,M,J,rfl,_,s2,_⟩:=qal d;refine zV 30 func289 Z fun h=>zSR (qw h Z Z fun _ b h=>X1 10 0 h Z ?_);obtain⟨K,F,a⟩:=qd F;refine qn (rL (fun m e w'=>∃(v:Int),qcJ c m v=V K∧e=[(1,.pointer (V ⟨b,0,U⟩)),(6,.slice B c.As.length z),(7,.int .i64 (c.As.length:Int)),(8,.int .i64 v)]∧SH w w' [Ch.box b (qeB c L B M I z J) 135]) n ⟨_,F,rfl,h⟩ Z ?_);rintro A _ _ ⟨v,F,rfl,h⟩;rcases A with _|A
 ·cases F
 refine X0 5 Z (qi Z F ?_ ?_)<;>intro F
 ·refine X0 6 Z ?_;obtain⟨y,_,F,l,_,_,_,_,p,s,u,k⟩:=s2.ix F;obtain⟨_,_,_,_,rfl,C,D⟩:=qaq u;refine zxe p s l Z (zc 0 (k.below h.below) Z (qp qa h Z Z Z fun _ _ h=>zp1 Z (zs 0 h Z fun _ h=>X2 5 1 0 h Z (zcB h F (qpr (h.old d) (qgo y (h.oldS C) (h.oldS D))) Z fun _ _ h F=>zp2 Z (qj (t:=17) F Z ?_ ?_)))))<;>intro F
  ·refine X0 8 Z (qb9 Z Z (X0 4 Z ?_));obtain rfl:=qb F;replace F:=a;exact rb h F Z
  refine X1 7 1 h Z ?_;obtain⟨_,i,F⟩:=qd F;obtain⟨_,_,g,f,o,H⟩:=qv9 (h.oldS s2) i;refine r_v (qpS qa Z Z Z (qwL H Z) g f o Z Z Z Z) Z ?_;have N:=qzl s2 i g f;refine X0 3 Z (zcB h F (qeQ ⟨_,_,rfl,(h.oldS N)⟩ (qcW (x:=y) 0 h Z (qgo y (h.oldS C) (h.oldS D)))) Z fun _ _ h F=>X0 2 Z (qi Z F ?_ ?_))<;>intro F
  ·refine X0 4 Z ?_;obtain rfl:=qb F;replace F:=a;exact rb h F Z
  refine X0 6 Z ?_;replace h:=h.pick [1] Z;exact rK ⟨_,F,rfl,h⟩ Z
 refine qr Z ?_;obtain rfl:=qb F;replace F:=a;exact X1 8 0 h Z (rb h F Z)
def qkU (_:Nat)(a:qL)(b:Int):Option Bool:=
 V (a.Ay==b)
theorem qpt {a:qL}{i:Int}(b:Ro w a cs1){g:Option Addr}(c:Ro w (V i) [.pointer g]){r:Bool}(F:qkU n a i=V r):RetV prog 328 [GoT.v qL cs1,.pointer g] w r:=by
 obtain⟨_,_,_,_,rfl,_,_⟩:=qaq b;obtain⟨_,k,_,rfl,-,f,d⟩:=PtR.get c Z;obtain rfl:=f;exact zV 8 func328 Z fun h=>zSR (qw h Z Z fun _ _ h=>X1 6 0 h Z (zc 0 (d.below h.below) Z (X0 3 Z (rb h F Z))))
def qaj (s:(List qL))(a:Int):Nat→Int→Option (Flow Int Int)
 | 0,_=>U
 | n+1,b=>
  bif decide (b<(s.length:Int)) then
   (idx s b).bind fun d=>
   (qkU n d a).bind fun c=>
   bif c then V (.ret b) else
   qaj s a n (W64 (b+1))
  else
   V (.nxt b)
def qbK (n:Nat)(s:(List qL))(a:Int):Option Int:=
 (qaj s a n 0).bind fun o=>match o with
 | .ret r=>V r
 | .nxt _=>
  V (-1)
theorem qgs {s:(List qL)}{a:Int}(d:Ro w s cs1){v:Option Addr}(c:Ro w (V a) [.pointer v]){r:Int}(F:qbK n s a=V r):RetV prog 327 [GoT.v (List qL) cs1,.func (.func 328) #[] #[.pointer v]] w r:=by
 obtain⟨z,x,rfl,A⟩:=d;obtain⟨b1,t,_,rfl,-,l,_⟩:=PtR.get c Z;obtain rfl:=l;refine zV 19 func327 Z fun h=>X0 11 Z ?_;obtain⟨y,F,b⟩:=qd F;refine qn (rL (fun m e w'=>∃(p:Int),qaj s a m p=V y∧e=[(0,.slice z s.length x),(1,.func (.func 328) #[] #[.pointer (V ⟨b1,t,U⟩)]),(7,.int .i64 (s.length:Int)),(8,.int .i64 p)]∧SH w w' []) n ⟨_,F,rfl,h⟩ Z ?_);rintro u _ _ ⟨p,F,rfl,h⟩;rcases u with _|u
 ·cases F
 refine X0 5 Z (qi Z F ?_ ?_)<;>intro F
 ·refine X0 13 Z ?_;obtain⟨C,_,F,g,_,_,_,_,i,k,o,f⟩:=A.ix F;obtain⟨_,_,_,_,rfl,s2,B⟩:=qaq o;refine zxe i k g Z (zc 0 (f.below h.below) Z (zcB h F (qpt (qgo C (h.oldS s2) (h.oldS B)) (h.old c)) Z fun _ _ h F=>qcU (qi Z F ?_ ?_)))<;>intro F
  ·refine X0 5 Z ?_;obtain rfl:=qb F;replace F:=b;exact ri h F Z
  exact X0 6 Z (rK ⟨_,F,rfl,h⟩ Z)
 refine qr Z ?_;obtain rfl:=qb F;replace F:=b;exact X0 4 Z (ri h F Z)
def qbA (n:Nat)(s:(List qL))(a:Int):Option Bool:=
 (qbK n s a).bind fun b=>
 V (decide (b ≥ 0))
theorem qfP {s:(List qL)}{a:Int}(c:Ro w s cs1){f:Option Addr}(b:Ro w (V a) [.pointer f]){r:Bool}(F:qbA n s a=V r):RetV prog 309 [GoT.v (List qL) cs1,.func (.func 328) #[] #[.pointer f]] w r:=by
 obtain⟨_,_,rfl,i⟩:=c;obtain⟨_,g,_,rfl,-,d,_⟩:=PtR.get b Z;obtain rfl:=d;exact zV 9 func309 Z fun h=>X0 8 Z (zcI h F (qgs ⟨_,_,rfl,(h.oldS i)⟩ (h.old b)) Z fun _ _ h F=>X0 3 Z (rb h F Z))
def qdJ (n:Nat)(c:qA)(kind:Int):Option Bool:=
 (qbA n c.As kind).bind fun a=>
 V a
theorem qeS {c:qA}{kind:Int}(a:Ro w c cs1){r:Bool}(F:qdJ n c kind=V r):RetV prog 312 [GoT.v qA cs1,.int .i64 kind] w r:=by
 obtain⟨_,_,_,_,_,_,rfl,_,s2,_⟩:=qal a;exact zV 9 func312 Z fun h=>zSR (qw h Z Z fun _ _ h=>qw h Z Z fun _ _ h=>X1 7 1 h Z (zcB h F (qfP ⟨_,_,rfl,(h.oldS s2)⟩ (qcW (x:=kind) 0 h Z Z)) Z fun _ _ h F=>X0 2 Z (rb h F Z)))
def qbo (a:qA):Nat→Int→Int→Option (Int×Int)
 | 0,_,_=>U
 | n+1,c,b=>
  bif decide (b<(a.Av.length:Int)) then
   (idx a.Av b).bind fun d=>
   bif d.Bn then qbo a n (W64 (c+1)) (W64 (b+1)) else
   qbo a n c (W64 (b+1))
  else
   V (c,b)
def qgR (n:Nat)(a:qA):Option Bool:=
 (qbo a n 0 0).bind fun o=>match o with
 | (b,_)=>
  bif (a.Ay==1) then
   bif (b==0) then
    (qeT n a).bind fun c=>
    (shlS 1 c).bind fun m=>
    bif ((a.Bk.length:Int)==m) then
     (qbY n a.Bk 0 1).bind fun d=>
     V d
    else
     V false
   else
    V false
  else
   bif (a.Ay==2) then
    bif (b==1) then
     bif ((a.Bk.length:Int)==0) then
      (qdJ n a 1).bind fun f=>
      bif (!f) then
       (qdJ n a 2).bind fun g=>
       (qdJ n a 3).bind fun h=>
       V (!(g==h))
      else
       V false
     else
      V false
    else
     V false
   else
    bif (a.Ay==3) then
     bif (b==1) then
      bif ((a.Bk.length:Int)==0) then
       (qdJ n a 1).bind fun i=>
       bif i then
        (qdJ n a 2).bind fun k=>
        bif k then
         (qdJ n a 3).bind fun l=>
         V (!l)
        else
         V false
       else
        V false
      else
       V false
     else
      V false
    else
     V false
theorem qn3 {b:qA}(a:Ro w b cs1){r:Bool}(F:qgR n b=V r):RetV prog 290 [GoT.v qA cs1] w r:=by
 obtain⟨C,A,K,H,L,I,rfl,R,_,S⟩:=qal a;refine zV 83 func290 Z fun h=>zSR (qw h Z Z fun _ d h=>X1 14 0 h Z ?_);obtain⟨J,F,f⟩:=qd F;refine qn (rL (fun m e w'=>∃(y:Int) (z:Int),qbo b m y z=V J∧e=[(1,.pointer (V ⟨d,0,U⟩)),(3,.int .i64 y),(7,.slice C b.Av.length A),(8,.int .i64 (b.Av.length:Int)),(9,.int .i64 z)]∧SH w w' [Ch.box d (qeB b C K L A H I) 135]) n ⟨_,_,F,rfl,h⟩ Z ?_);rintro B _ _ ⟨y,z,F,rfl,h⟩;rcases B with _|B
 ·cases F
 refine X0 5 Z (qi Z F ?_ ?_)<;>intro F
 ·refine zKSBSR ?_;obtain⟨_,_,F,i,_,_,_,_,k,l,o,g⟩:=R.ix F;obtain rfl:=qa5 o;refine zxe k l i Z (zc 0 (g.below h.below) Z (qp qa h Z Z Z fun _ _ h=>zs 0 h Z fun _ h=>X1 6 0 h Z (qi Z F ?_ ?_)))<;>intro F
  ·refine X0 10 Z ?_;replace h:=h.pick [1] Z;exact rK ⟨_,_,F,rfl,h⟩ Z
  refine X0 6 Z ?_;replace h:=h.pick [1] Z;exact rK ⟨_,_,F,rfl,h⟩ Z
 refine qr Z ?_;obtain rfl:=qb F;replace F:=f;refine X1 12 0 h Z (qi Z F ?_ ?_)<;>intro F
 ·refine qcx (rD (zd3 Z (qaY (t:=24) F Z ?_ ?_)))<;>intro F
  ·refine Y1 4 0 h Z ?_;refine Y1 4 0 h Z ?_;refine Y0 1 Z ?_;obtain⟨M,p,F⟩:=qd F;refine qbn M (vsI _) (cB 311 Z) (fun _ hb=>qiv ((h.ext hb).old a) p) Z Z Z Z (Y0 1 Z ?_);obtain⟨_,c,F⟩:=qd F;obtain⟨D,c⟩:=qtz c;refine d_v (fun _ hb=>qAH D Z Z) Z ?_;rw[c];refine Y0 4 Z (qaY (t:=33) F Z ?_ ?_)<;>intro F
   ·refine Y1 4 0 h Z ?_;refine Y0 1 Z ?_;obtain⟨N,s,F⟩:=qd F;exact qbn N (vsB _) (cB 152 Z) (fun _ hb=>qcl ⟨_,_,rfl,((h.ext hb).oldS S)⟩ s) Z Z Z Z (zd2 Z (dN h fun _ h=>rb h F Z))
   exact Y0 5 Z (dN h fun _ h=>rb h F Z)
  exact Y0 14 Z (dN h fun _ h=>rb h F Z)
 refine X0 5 Z (qi Z F ?_ ?_)<;>intro F
 ·refine qcx (rD (zd3 Z (qaY (t:=42) F Z ?_ ?_)))<;>intro F
  ·refine Y1 4 0 h Z ?_;refine Y0 6 Z (qaY (t:=48) F Z ?_ ?_)<;>intro F
   ·refine Y1 2 0 h Z ?_;refine Y0 1 Z ?_;obtain⟨O,u,F⟩:=qd F;refine qbn O (vsB _) (cB 312 Z) (fun _ hb=>qeS ((h.ext hb).old a) u) Z Z Z Z (Y0 4 Z (qaY (t:=53) F Z ?_ ?_))<;>intro F
    ·refine Y1 2 0 h Z ?_;refine Y0 1 Z ?_;obtain⟨P,v,F⟩:=qd F;refine qbn P (vsB _) (cB 312 Z) (fun _ hb=>qeS ((h.ext hb).old a) v) Z Z Z Z (Y1 2 0 h Z ?_);refine Y0 1 Z ?_;obtain⟨Q,x,F⟩:=qd F;exact qbn Q (vsB _) (cB 312 Z) (fun _ hb=>qeS ((h.ext hb).old a) x) Z Z Z Z (Y0 4 Z (dN h fun _ h=>rb h F Z))
    exact Y0 7 Z (dN h fun _ h=>rb h F Z)
   exact Y0 12 Z (dN h fun _ h=>rb h F Z)
  exact Y0 18 Z (dN h fun _ h=>rb h F Z)
 refine X0 5 Z (qi Z F ?_ ?_)<;>intro F
 ·refine X0 5 Z (qj (t:=64) F Z ?_ ?_)<;>intro F
  ·refine X1 10 0 h Z (qj (t:=70) F Z ?_ ?_)<;>intro F
   ·refine X1 3 0 h Z (zcB h F (qeS (h.old a)) Z fun _ _ h F=>zp2 Z (qj (t:=74) F Z ?_ ?_))<;>intro F
    ·refine X1 3 0 h Z (zcB h F (qeS (h.old a)) Z fun _ _ h F=>zp2 Z (qj (t:=78) F Z ?_ ?_))<;>intro F
     ·exact X1 3 0 h Z (zcB h F (qeS (h.old a)) Z fun _ _ h F=>X0 5 Z (rb h F Z))
     exact X0 6 Z (rb h F Z)
    exact X0 10 Z (rb h F Z)
   exact X0 14 Z (rb h F Z)
  exact X0 20 Z (rb h F Z)
 exact X0 6 Z (rb h F Z)
def qmB (n:Nat)(c:qA):Option Bool:=
 (qjc n c.Az).bind fun a=>
 bif a then
  (qk4 n c.Av).bind fun b=>
  bif b then
   (qhu n c).bind fun d=>
   bif d then
    (qaU n c.Bx 0 100000).bind fun f=>
    bif f then
     (qaU n c.Br 0 100000).bind fun g=>
     bif g then
      (qgR n c).bind fun h=>
      V h
     else
      V false
    else
     V false
   else
    V false
  else
   V false
 else
  V false
theorem qsz {c:qA}(a:Ro w c cs1){r:Bool}(F:qmB n c=V r):RetV prog 245 [GoT.v qA cs1] w r:=by
 obtain⟨_,_,_,_,_,_,rfl,b,_,_⟩:=qal a;refine zV 29 func245 Z fun h=>zSR (qw h Z Z fun _ _ h=>X1 6 0 h Z (zcB h F qlU Z fun _ _ h F=>zp1 Z (qj (t:=6) F Z ?_ ?_)))<;>intro F
 ·refine X1 5 0 h Z (zcB h F (qrx ⟨_,_,rfl,(h.oldS b)⟩) Z fun _ _ h F=>zp2 Z (qj (t:=11) F Z ?_ ?_))<;>intro F
  ·refine X1 3 0 h Z (zcB h F (qod (h.old a)) Z fun _ _ h F=>zp2 Z (qj (t:=15) F Z ?_ ?_))<;>intro F
   ·refine X1 5 0 h Z (zcB h F qaJ Z fun _ _ h F=>zp2 Z (qj (t:=20) F Z ?_ ?_))<;>intro F
    ·refine X1 5 0 h Z (zcB h F qaJ Z fun _ _ h F=>zp2 Z (qj (t:=25) F Z ?_ ?_))<;>intro F
     ·exact X1 3 0 h Z (zcB h F (qn3 (h.old a)) Z fun _ _ h F=>X0 3 Z (rb h F Z))
     exact X0 5 Z (rb h F Z)
    exact X0 10 Z (rb h F Z)
   exact X0 15 Z (rb h F Z)
  exact X0 19 Z (rb h F Z)
 exact X0 24 Z (rb h F Z)
def qc2 (l:qt):Nat→(List ByteArray)→Int→Option (Flow Bool ((List ByteArray)×Int))
 | 0,_,_=>U
 | n+1,b,a=>
  bif decide (a<(l.Ap.length:Int)) then
   (idx l.Ap a).bind fun c=>
   (qmB n c).bind fun d=>
   bif (!d) then V (.ret false) else
   (appS b ([c.Az]:List ByteArray)).bind fun f=>
   qc2 l n f (W64 (a+1))
  else
   V (.nxt (b,a))
def qjj (n:Nat)(l:qt):Option Bool:=
 (qc2 l n ([]:List ByteArray) 0).bind fun o=>match o with
 | .ret r=>V r
 | .nxt (b,_)=>
  bif decide ((l.Ap.length:Int)≤8) then
   (qeG n b).bind fun a=>
   V a
  else
   V false
theorem qqd {l:qt}(f:Ro w l cs1){r:Bool}(F:qjj n l=V r):RetV prog 192 [GoT.v qt cs1] w r:=by
 obtain⟨A,y,rfl,H⟩:=qbN f;refine zV 30 func192 Z fun h=>zSR (qw h Z Z fun _ c h=>X1 14 0 h Z ?_);replace h:=h.nil (α:=ByteArray);obtain⟨D,F,d⟩:=qd F;refine qn (rL (fun m e w'=>∃(S1:Nat→Prop) (v:Option Addr) (b:Nat) (u:Nat) (x:(List ByteArray)) (s:Int),qc2 l m x s=V D∧e=[(1,.pointer (V ⟨c,0,U⟩)),(3,.slice v b u),(7,.slice A l.Ap.length y),(8,.int .i64 (l.Ap.length:Int)),(9,.int .i64 s)]∧SH w w' [Ch.own S1 (x:List ByteArray) [.slice v b u],Ch.box c [.slice A l.Ap.length y] 50]) n ⟨_,_,_,_,_,_,F,rfl,h⟩ Z ?_);rintro z _ _ ⟨S1,v,b,u,x,s,F,rfl,h⟩;obtain rfl:=(h.sl 0 Z).2;rcases z with _|z
 ·cases F
 refine X0 5 Z (qi Z F ?_ ?_)<;>intro F
 ·refine zKSBSR ?_;obtain⟨B,_,F,i,_,_,_,_,k,o,p,g⟩:=H.ix F;obtain⟨_,_,_,_,_,_,rfl,s2,I,J⟩:=qal p;refine zxe k o i Z (zc 0 (g.below h.below) Z (qp qa h Z Z Z fun _ _ h=>zs 0 h Z fun _ h=>X1 5 0 h Z (zcB h F (qsz (qlq B (h.oldS s2) (h.oldS I) (h.oldS J))) Z fun _ _ h F=>X0 2 Z (qi Z F ?_ ?_))))<;>intro F
  ·refine X0 4 Z ?_;obtain rfl:=qb F;replace F:=d;exact rb h F Z
  refine X1 5 0 h Z (qG qa [.tmp 18] _ ([B.Az]:List ByteArray) h Z Z Z Z Z Z Z Z Z ⟨rfl,trivial⟩ Z fun _ _ _ h=>?_);obtain⟨_,a,F⟩:=qd F;obtain⟨C,a⟩:=qaD a;refine qcs qa 2 h Z (h.sl 0 Z).1 (h.sl 0 Z).2 Z Z Z Z Z Z Z Z Z C a Z fun _ _ _ _ h=>X0 7 Z ?_;replace h:=h.pick [2,3] Z;exact rK ⟨_,_,_,_,_,_,F,rfl,h⟩ Z
 refine qr Z ?_;obtain rfl:=qb F;replace F:=d;refine X1 7 1 h Z (qj (t:=26) F Z ?_ ?_)<;>intro F
 ·exact X0 3 Z (zcB h F (qgl (h.own 0 Z)) Z fun _ _ h F=>X0 3 Z (rb h F Z))
 exact X0 5 Z (rb h F Z)
def qbx (d:qg):Nat→(List ByteArray)→Int→Option ((List ByteArray)×Int)
 | 0,_,_=>U
 | n+1,b,a=>
  bif decide (a<(d.Ah.length:Int)) then
   (idx d.Ah a).bind fun f=>
   (appS b ([f.Az]:List ByteArray)).bind fun c=>
   qbx d n c (W64 (a+1))
  else
   V (b,a)
def qby (d:qg):Nat→(List ByteArray)→Int→Option ((List ByteArray)×Int)
 | 0,_,_=>U
 | n+1,b,a=>
  bif decide (a<(d.Ab.length:Int)) then
   (idx d.Ab a).bind fun f=>
   (appS b ([f.Az]:List ByteArray)).bind fun c=>
   qby d n c (W64 (a+1))
  else
   V (b,a)
def qfQ (n:Nat)(d:qg):Option Bool:=
 (qby d n ([]:List ByteArray) 0).bind fun o=>match o with
 | (a,_)=>
  (qbx d n ([]:List ByteArray) 0).bind fun o=>match o with
  | (b,_)=>
   bif decide ((a.length:Int)≤14) then
    bif decide ((d.Ai.length:Int)≤30) then
     bif decide ((b.length:Int)≤8) then
      (qeG n a).bind fun c=>
      bif c then
       (qeG n d.Ai).bind fun f=>
       bif f then
        (qeG n b).bind fun g=>
        V g
       else
        V false
      else
       V false
     else
      V false
    else
     V false
   else
    V false
theorem qmZ {d:qg}(s:Ro w d cs1){r:Bool}(F:qfQ n d=V r):RetV prog 193 [GoT.v qg cs1] w r:=by
 obtain⟨N,K,X,S,O,L,rfl,s1,s2,s3⟩:=qaI s;refine zV 62 func193 Z fun h=>zSR (qw h Z Z fun _ a h=>X1 15 0 h Z ?_);replace h:=h.nil (α:=ByteArray);obtain⟨o1,F,o⟩:=qd F;refine qn (rL (fun m e w'=>∃(S1:Nat→Prop) (l:Option Addr) (f:Nat) (k:Nat) (i:(List ByteArray)) (I:Int),qby d m i I=V o1∧e=[(1,.pointer (V ⟨a,0,U⟩)),(3,.slice l f k),(4,.slice U 0 0),(10,.slice N d.Ab.length K),(11,.int .i64 (d.Ab.length:Int)),(12,.int .i64 I)]∧SH w w' [Ch.own S1 (i:List ByteArray) [.slice l f k],Ch.box a (qaV d N X O K S L) 54]) n ⟨_,_,_,_,_,_,F,rfl,h⟩ Z ?_);rintro T _ _ ⟨S1,l,f,k,i,I,F,rfl,h⟩;obtain rfl:=(h.sl 0 Z).2;rcases T with _|T
 ·cases F
 refine X0 5 Z (qi Z F ?_ ?_)<;>intro F
 ·refine zKSBSR ?_;obtain⟨y1,_,F,x,_,_,_,_,z,B,D,u⟩:=s1.ix F;obtain⟨_,_,rfl,_⟩:=qW D;refine zxe z B x Z (zc 0 (u.below h.below) Z (qp qa h Z Z Z fun _ _ h=>zs 0 h Z fun _ h=>X1 5 0 h Z (qG qa [.tmp 18] _ ([y1.Az]:List ByteArray) h Z Z Z Z Z Z Z Z Z ⟨rfl,trivial⟩ Z fun _ _ _ h=>?_)));obtain⟨_,b,F⟩:=qd F;obtain⟨Y,b⟩:=qaD b;refine qcs qa 2 h Z (h.sl 0 Z).1 (h.sl 0 Z).2 Z Z Z Z Z Z Z Z Z Y b Z fun _ _ _ _ h=>X0 7 Z ?_;replace h:=h.pick [2,3] Z;exact rK ⟨_,_,_,_,_,_,F,rfl,h⟩ Z
 refine qr Z ?_;obtain rfl:=qb F;replace F:=o;refine X1 8 1 h Z ?_;replace h:=h.nil (α:=ByteArray);obtain⟨o2,F,p⟩:=qd F;refine qn (rL (fun m e w'=>∃(R:Nat→Prop) (P:Option Addr) (g:Nat) (M:Nat) (Q:(List ByteArray)) (J:Int),qbx d m Q J=V o2∧e=[(1,.pointer (V ⟨a,0,U⟩)),(3,.slice l i.length k),(4,.slice P g M),(23,.slice O d.Ah.length L),(24,.int .i64 (d.Ah.length:Int)),(25,.int .i64 J)]∧SH w w' [Ch.own R (Q:List ByteArray) [.slice P g M],Ch.own S1 (i:List ByteArray) [.slice l i.length k],Ch.box a (qaV d N X O K S L) 54]) n ⟨_,_,_,_,_,_,F,rfl,h⟩ Z ?_);rintro W _ _ ⟨R,P,g,M,Q,J,F,rfl,h⟩;obtain rfl:=(h.sl 0 Z).2;rcases W with _|W
 ·cases F
 refine X0 5 Z (qi Z F ?_ ?_)<;>intro F
 ·refine zKSBSR ?_;obtain⟨y2,_,F,y,_,_,_,_,A,C,H,v⟩:=s3.ix F;obtain rfl:=qa0 H;refine zxe A C y Z (zc 0 (v.below h.below) Z (qp qa h Z Z Z fun _ _ h=>zs 0 h Z fun _ h=>X1 5 0 h Z (qG qa [.tmp 31] _ ([y2.Az]:List ByteArray) h Z Z Z Z Z Z Z Z Z ⟨rfl,trivial⟩ Z fun _ _ _ h=>?_)));obtain⟨_,c,F⟩:=qd F;obtain⟨g2,c⟩:=qaD c;refine qcs qa 2 h Z (h.sl 0 Z).1 (h.sl 0 Z).2 Z Z Z Z Z Z Z Z Z g2 c Z fun _ _ _ _ h=>X0 7 Z ?_;replace h:=h.pick [2,3,4] Z;exact rK ⟨_,_,_,_,_,_,F,rfl,h⟩ Z
 refine qr Z ?_;obtain rfl:=qb F;replace F:=p;refine X0 6 Z (qj (t:=38) F Z ?_ ?_)<;>intro F
 ·refine X1 10 2 h Z (qj (t:=44) F Z ?_ ?_)<;>intro F
  ·refine X0 8 Z (qj (t:=49) F Z ?_ ?_)<;>intro F
   ·refine X0 3 Z (zcB h F (qgl (h.own 1 Z)) Z fun _ _ h F=>zp2 Z (qj (t:=53) F Z ?_ ?_))<;>intro F
    ·refine X1 5 2 h Z (zcB h F (qgl ⟨_,_,rfl,(h.oldS s2)⟩) Z fun _ _ h F=>zp2 Z (qj (t:=58) F Z ?_ ?_))<;>intro F
     ·exact X0 3 Z (zcB h F (qgl (h.own 0 Z)) Z fun _ _ h F=>X0 3 Z (rb h F Z))
     exact X0 5 Z (rb h F Z)
    exact X0 10 Z (rb h F Z)
   exact X0 14 Z (rb h F Z)
  exact X0 19 Z (rb h F Z)
 exact X0 25 Z (rb h F Z)
def qho (_:Nat)(list:(List qA)):Option Int:=
 V (list.length:Int)
theorem qmP {list:(List qA)}(a:Ro w list cs1){r:Int}(F:qho n list=V r):RetV prog 247 [GoT.v (List qA) cs1] w r:=by
 obtain⟨_,_,rfl,_⟩:=a;exact zV 5 func247 Z fun h=>X0 10 Z (ri h F Z)
def qdN (n:Nat)(net:Int)(b:qg):Option Bool:=
 (qcj n b net).bind fun a=>
 V (!a)
theorem qlk {net:Int}{d:qg}{f:Option Addr}(a:Ro w (V d) [.pointer f]){r:Bool}(F:qdN n net d=V r):RetV prog 248 [.int .i64 net,.pointer f] w r:=by
 obtain⟨_,g,_,rfl,-,c,b⟩:=PtR.get a Z;obtain⟨_,_,_,_,_,_,rfl,i,s2,k⟩:=qaI c;exact zV 8 func248 Z fun h=>X0 6 Z (zc 0 (b.below h.below) Z (zp1 Z (zcB h F (qdV (qav d (h.oldS i) (h.oldS s2) (h.oldS k))) Z fun _ _ h F=>X0 3 Z (rb h F Z))))
def qQ (s:(List Int))(a:qg):Nat→Int→Option (Flow Int Int)
 | 0,_=>U
 | n+1,b=>
  bif decide (b<(s.length:Int)) then
   (idx s b).bind fun d=>
   (qdN n d a).bind fun c=>
   bif c then V (.ret b) else
   qQ s a n (W64 (b+1))
  else
   V (.nxt b)
def qbk (n:Nat)(s:(List Int))(a:qg):Option Int:=
 (qQ s a n 0).bind fun o=>match o with
 | .ret r=>V r
 | .nxt _=>
  V (-1)
theorem qe8 {s:(List Int)}{a:qg}(d:Ro w s cs1){u:Option Addr}(c:Ro w (V a) [.pointer u]){r:Int}(F:qbk n s a=V r):RetV prog 268 [GoT.v (List Int) cs1,.func (.func 248) #[] #[.pointer u]] w r:=by
 obtain⟨y,v,rfl,z⟩:=d;obtain⟨b1,p,_,rfl,-,l,_⟩:=PtR.get c Z;obtain⟨_,_,_,_,_,_,rfl,_,_,_⟩:=qaI l;refine zV 19 func268 Z fun h=>X0 11 Z ?_;obtain⟨x,F,b⟩:=qd F;refine qn (rL (fun m e w'=>∃(o:Int),qQ s a m o=V x∧e=[(0,.slice y s.length v),(1,.func (.func 248) #[] #[.pointer (V ⟨b1,p,U⟩)]),(7,.int .i64 (s.length:Int)),(8,.int .i64 o)]∧SH w w' []) n ⟨_,F,rfl,h⟩ Z ?_);rintro t _ _ ⟨o,F,rfl,h⟩;rcases t with _|t
 ·cases F
 refine X0 5 Z (qi Z F ?_ ?_)<;>intro F
 ·refine X0 13 Z ?_;obtain⟨_,_,F,g,_,_,_,_,i,k,rfl,f⟩:=z.ix F;refine zxe i k g Z (zc 0 (f.below h.below) Z (zcB h F (qlk (h.old c)) Z fun _ _ h F=>qcU (qi Z F ?_ ?_)))<;>intro F
  ·refine X0 5 Z ?_;obtain rfl:=qb F;replace F:=b;exact ri h F Z
  exact X0 6 Z (rK ⟨_,F,rfl,h⟩ Z)
 refine qr Z ?_;obtain rfl:=qb F;replace F:=b;exact X0 4 Z (ri h F Z)
def qa1 (n:Nat)(s:(List Int))(a:qg):Option Bool:=
 (qbk n s a).bind fun b=>
 V (decide (b ≥ 0))
theorem qet {s:(List Int)}{a:qg}(c:Ro w s cs1){f:Option Addr}(b:Ro w (V a) [.pointer f]){r:Bool}(F:qa1 n s a=V r):RetV prog 213 [GoT.v (List Int) cs1,.func (.func 248) #[] #[.pointer f]] w r:=by
 obtain⟨_,_,rfl,i⟩:=c;obtain⟨_,g,_,rfl,-,d,_⟩:=PtR.get b Z;obtain⟨_,_,_,_,_,_,rfl,_,_,_⟩:=qaI d;exact zV 9 func213 Z fun h=>X0 8 Z (zcI h F (qe8 ⟨_,_,rfl,(h.oldS i)⟩ (h.old b)) Z fun _ _ h F=>X0 3 Z (rb h F Z))
def qeE (n:Nat)(d:qg)(l:qt)(x:qm):Option Bool:=
 (qho n l.Ap).bind fun a=>
 (qaU n x.Bo 0 (W64 (a-1))).bind fun b=>
 bif b then
  (idx l.Ap x.Bo).bind fun f=>
  bif ((x.Ai.length:Int)==(f.Av.length:Int)) then
   (qa1 n x.Ai d).bind fun c=>
   V (!c)
  else
   V false
 else
  V false
theorem qme {d:qg}{l:qt}{x:qm}(a:Ro w d cs1)(b:Ro w l cs2)(c:Ro w x cs3){r:Bool}(F:qeE n d l x=V r):RetV prog 194 [GoT.v qg cs1,GoT.v qt cs2,GoT.v qm cs3] w r:=by
 obtain⟨_,_,_,_,_,_,rfl,_,_,_⟩:=qaI a;obtain⟨_,_,rfl,u⟩:=qbN b;obtain⟨_,_,rfl,A⟩:=qW c;refine zV 35 func194 Z fun h=>zSR (qw h Z Z fun _ _ h=>qw h Z Z fun _ _ h=>qw h Z Z fun _ _ h=>X0 3 Z (rD (Y1 2 0 h Z ?_)));refine Y1 2 1 h Z ?_;obtain⟨v,m,F⟩:=qd F;refine qbn v (vsI _) (cB 247 Z) (fun _ hb=>qmP ⟨_,_,rfl,((h.ext hb).oldS u)⟩ m) Z Z Z Z (zd1 Z ?_);obtain⟨y,o,F⟩:=qd F;refine qbn y (vsB _) (cB 149 Z) (fun _ hb=>qaJ  o) Z Z Z Z (zd1 Z (qaY (t:=14) F Z ?_ ?_))<;>intro F
 ·refine Y1 4 0 h Z ?_;refine Y1 6 1 h Z ?_;refine Y1 4 0 h Z ?_;refine Y0 1 Z ?_;obtain⟨_,_,F,g,_,_,_,_,i,k,p,f⟩:=u.ix F;obtain⟨_,_,_,_,_,_,rfl,_,_,_⟩:=qal p;refine zdxe i k g Z (Y0 3 Z (zdc 2 (f.below h.below) Z (Y0 6 Z (qaY (t:=28) F Z ?_ ?_))))<;>intro F
  ·refine Y1 4 0 h Z ?_;refine Y0 3 Z ?_;obtain⟨z,s,F⟩:=qd F;exact qbn z (vsB _) (cB 213 Z) (fun _ hb=>qet ⟨_,_,rfl,((h.ext hb).oldS A)⟩ (qcW (x:=d) 2 (h.ext hb) Z ((h.ext hb).old a)) s) Z Z Z Z (Y0 4 Z (dN h fun _ h=>rb h F Z))
  exact Y0 7 Z (dN h fun _ h=>rb h F Z)
 exact Y0 21 Z (dN h fun _ h=>rb h F Z)
def qk0 (_:Nat)(a_n:Int):Option Bool:=
 V (a_n != 1)
theorem qpx {a_n:Int}  {r:Bool}(F:qk0 n a_n=V r):RetV prog 196 [.int .i64 a_n] w r:=by
 exact zV 5 func196 Z fun h=>X0 10 Z (rb h F Z)
def qaw (s:(List Int)):Nat→Int→Option (Flow Int Int)
 | 0,_=>U
 | n+1,a=>
  bif decide (a<(s.length:Int)) then
   (idx s a).bind fun c=>
   (qk0 n c).bind fun b=>
   bif b then V (.ret a) else
   qaw s n (W64 (a+1))
  else
   V (.nxt a)
def qcf (n:Nat)(s:(List Int)):Option Int:=
 (qaw s n 0).bind fun o=>match o with
 | .ret r=>V r
 | .nxt _=>
  V (-1)
theorem qhz {s:(List Int)}(b:Ro w s cs1){r:Int}(F:qcf n s=V r):RetV prog 249 [GoT.v (List Int) cs1,.func (.func 196) #[] #[]] w r:=by
 obtain⟨p,l,rfl,t⟩:=b;refine zV 19 func249 Z fun h=>X0 11 Z ?_;obtain⟨o,F,a⟩:=qd F;refine qn (rL (fun m e w'=>∃(i:Int),qaw s m i=V o∧e=[(0,.slice p s.length l),(1,.func (.func 196) #[] #[]),(7,.int .i64 (s.length:Int)),(8,.int .i64 i)]∧SH w w' []) n ⟨_,F,rfl,h⟩ Z ?_);rintro k _ _ ⟨i,F,rfl,h⟩;rcases k with _|k
 ·cases F
 refine X0 5 Z (qi Z F ?_ ?_)<;>intro F
 ·refine X0 13 Z ?_;obtain⟨_,_,F,d,_,_,_,_,f,g,rfl,c⟩:=t.ix F;refine zxe f g d Z (zc 0 (c.below h.below) Z (zcB h F qpx Z fun _ _ h F=>qcU (qi Z F ?_ ?_)))<;>intro F
  ·refine X0 5 Z ?_;obtain rfl:=qb F;replace F:=a;exact ri h F Z
  exact X0 6 Z (rK ⟨_,F,rfl,h⟩ Z)
 refine qr Z ?_;obtain rfl:=qb F;replace F:=a;exact X0 4 Z (ri h F Z)
def qbX (n:Nat)(s:(List Int)):Option Bool:=
 (qcf n s).bind fun a=>
 V (decide (a ≥ 0))
theorem qgP {s:(List Int)}(a:Ro w s cs1){r:Bool}(F:qbX n s=V r):RetV prog 195 [GoT.v (List Int) cs1,.func (.func 196) #[] #[]] w r:=by
 obtain⟨_,_,rfl,b⟩:=a;exact zV 9 func195 Z fun h=>X0 8 Z (zcI h F (qhz ⟨_,_,rfl,(h.oldS b)⟩) Z fun _ _ h F=>X0 3 Z (rb h F Z))
def qcQ (a:qg):Nat→(List Int)→Int→Option (Flow Bool ((List Int)×Int))
 | 0,_,_=>U
 | n+1,d,c=>
  bif decide (c<(a.Ah.length:Int)) then
   (idx a.Ah c).bind fun b=>
   (
    bif (b.Bs != 1) then
     bif (b.Bs != 2) then V true else
     (qcj n a b.Bu).bind fun g=>
     V (!g)
    else
     (qcj n a b.Bu).bind fun h=>
     V (!h)).bind fun f=>
   bif f then V (.ret false) else
   bif (b.Bs==1) then
    (idx d b.Bu).bind fun i=>
    (idx d b.Bu).bind fun _=>
    qcQ a n (setS d b.Bu (W64 (i+1))) (W64 (c+1))
   else
    qcQ a n d (W64 (c+1))
  else
   V (.nxt (d,c))
def qdA (b:qt)(a:qg):Nat→(List Int)→Int→Option (Flow Bool ((List Int)×Int))
 | 0,_,_=>U
 | n+1,d,c=>
  bif decide (c<(a.Ab.length:Int)) then
   (idx a.Ab c).bind fun f=>
   (qeE n a b f).bind fun h=>
   bif (!h) then V (.ret false) else
   (idx f.Ai (W64 ((f.Ai.length:Int)-1))).bind fun g=>
   (idx d g).bind fun i=>
   (idx d g).bind fun _=>
   qdA b a n (setS d g (W64 (i+1))) (W64 (c+1))
  else
   V (.nxt (d,c))
def qkj (n:Nat)(b:qt)(a:qg):Option Bool:=
 (
  (qjj n b).bind fun d=>
  bif (!d) then V true else
  (qfQ n a).bind fun f=>
  V (!f)).bind fun b1=>
 bif b1 then V false else
 (mkS (a.Ai.length:Int) (0:Int)).bind fun g=>
 (qdA b a n g 0).bind fun o=>match o with
 | .ret r=>V r
 | .nxt (h,_)=>
  (qcQ a n h 0).bind fun o=>match o with
  | .ret r=>V r
  | .nxt (i,_)=>
   (qbX n i).bind fun c=>
   V (!c)
theorem qqY {d:qt}{a:qg}(k:Ro w d cs1)(f:Ro w a cs2){r:Bool}(F:qkj n d a=V r):RetV prog 120 [GoT.v qt cs1,GoT.v qg cs2] w r:=by
 obtain⟨p1,k1,rfl,_⟩:=qbN k;obtain⟨P,O,S,R,p,o,rfl,s2,_,s4⟩:=qaI f;refine zV 84 func120 Z fun h=>zSR (qw h Z Z fun _ g h=>qw h Z Z fun _ b h=>X0 4 Z ?_);obtain⟨X,A,_,F,y⟩:=bindE F;refine qaT (fun e w'=>∃(b1:Bool),X b1=V r∧e=[(2,.pointer (V ⟨g,0,U⟩)),(3,.pointer (V ⟨b,0,U⟩)),(17,.bool b1)]∧SH w w' [Ch.box b (qaV a P S p O R o) 54,Ch.box g [.slice p1 d.Ap.length k1] 50]) ?_ ?_
 ·refine X1 2 1 h Z (zcB h F (qqd (h.old k)) Z fun _ _ h F=>zp2 Z (qj (t:=13) F Z ?_ ?_))<;>intro F
  ·refine X0 5 Z ?_;obtain rfl:=qb F;exact rG ⟨_,y,rfl,h⟩ Z
  refine X1 3 0 h Z (zcB h F (qmZ (h.old f)) Z fun _ _ h F=>X0 4 Z ?_);obtain rfl:=qb F;exact rG ⟨_,y,rfl,h⟩ Z
 rintro _ _ ⟨b1,F,rfl,h⟩;subst A;refine qi Z F ?_ ?_<;>intro F
 ·exact X0 4 Z (rb h F Z)
 refine X1 6 0 h Z ?_;obtain⟨c,l,F⟩:=qd F;obtain⟨g1,g2,l⟩:=qR l;refine qas qa Int h Z Z Z Z Z Z Z Z Z g1 g2 l Z fun _ S1 s h=>X1 10 1 h Z ?_;obtain⟨o1,F,v⟩:=qd F;refine qn (rL (fun m e w'=>∃(x2:(List Int)) (i1:Int),qdA d a m x2 i1=V o1∧e=[(2,.pointer (V ⟨g,0,U⟩)),(3,.pointer (V ⟨b,0,U⟩)),(5,.slice s c.length c.length),(23,.slice P a.Ab.length O),(24,.int .i64 (a.Ab.length:Int)),(25,.int .i64 i1)]∧SH w w' [Ch.own S1 (x2:List Int) [.slice s c.length c.length],Ch.box b (qaV a P S p O R o) 54,Ch.box g [.slice p1 d.Ap.length k1] 50]) n ⟨_,_,F,rfl,h⟩ Z ?_);rintro m1 _ _ ⟨x2,i1,F,rfl,h⟩;rcases m1 with _|m1
 ·cases F
 refine X0 5 Z (qi Z F ?_ ?_)<;>intro F
 ·refine zKSBSR ?_;obtain⟨y1,_,F,a8,_,_,_,_,b4,c0,c5,a3⟩:=s2.ix F;obtain⟨_,_,rfl,s5⟩:=qW c5;refine zxe b4 c0 a8 Z (zc 0 (a3.below h.below) Z (qp qa h Z Z Z fun _ _ h=>zs 0 h Z fun _ h=>X3 7 2 3 0 h Z (zcB h F (qme (h.old f) (h.old k) (qhl y1 (h.oldS s5))) Z fun _ _ h F=>X0 2 Z (qi Z F ?_ ?_))))<;>intro F
  ·refine X0 4 Z ?_;obtain rfl:=qb F;replace F:=v;exact rb h F Z
  refine X2 9 0 0 h Z ?_;obtain⟨_,_,F,a9,_,_,_,_,b5,c1,rfl,a4⟩:=s5.ix F;refine zxe b5 c1 a9 Z (zc 0 (a4.below h.below) Z ?_);obtain⟨y3,_,F,D,_,_,_,_,b6,c2,rfl,a5⟩:=(h.sl 1 Z).1.ix F;refine zx b6 c2 ⟨D.1,qD D.2.1 (h.sl 1 Z).2⟩ Z (zc 0 a5 Z (zp1 Z ?_));obtain⟨_,c7,F,H,_,_,_,_,K,M,rfl,a6⟩:=(h.sl 1 Z).1.ix F;refine zx K M ⟨H.1,qD H.2.1 (h.sl 1 Z).2⟩ Z (qao qa 1 0 (W64 (y3+1)) h Z c7 K M Z a6 Z Z Z Z Z Z Z fun _ h=>X0 6 Z ?_);replace h:=h.pick [1,2,3] Z;exact rK ⟨_,_,F,rfl,h⟩ Z
 refine qr Z ?_;obtain rfl:=qb F;replace F:=v;refine X1 8 1 h Z ?_;obtain⟨o2,F,x⟩:=qd F;refine qn ?_;replace h:=h.pick [0,1] Z;refine rL (fun m e w'=>∃(T:(List Int)) (Q:Int),qcQ a m T Q=V o2∧e=[(3,.pointer (V ⟨b,0,U⟩)),(5,.slice s c.length c.length),(49,.slice p a.Ah.length o),(50,.int .i64 (a.Ah.length:Int)),(51,.int .i64 Q)]∧SH w w' [Ch.own S1 (T:List Int) [.slice s c.length c.length],Ch.box b (qaV a P S p O R o) 54]) n ⟨_,_,F,rfl,h⟩ Z ?_;rintro m2 _ _ ⟨T,Q,F,rfl,h⟩;rcases m2 with _|m2
 ·cases F
 refine X0 5 Z (qi Z F ?_ ?_)<;>intro F
 ·refine zKSBSR ?_;obtain⟨y5,_,F,b3,_,_,_,_,b8,c3,c6,a7⟩:=s4.ix F;obtain rfl:=qa0 c6;refine zxe b8 c3 b3 Z (zc 0 (a7.below h.below) Z (qp qa h Z Z Z fun _ u h=>zs 0 h Z fun _ h=>zNSS ?_));obtain⟨W,z,_,F,i⟩:=bindE F;refine qaT (fun e w'=>∃(Y:Bool),W Y=V o2∧e=[(3,.pointer (V ⟨b,0,U⟩)),(5,.slice s c.length c.length),(9,.pointer (V ⟨u,0,U⟩)),(49,.slice p a.Ah.length o),(50,.int .i64 (a.Ah.length:Int)),(51,.int .i64 Q),(69,.bool Y)]∧SH w w' [Ch.box u (qr4 y5) 232,Ch.own S1 (T:List Int) [.slice s c.length c.length],Ch.box b (qaV a P S p O R o) 54]) ?_ ?_
  ·refine X1 5 0 h Z (qj (t:=58) F Z ?_ ?_)<;>intro F
   ·refine X1 8 0 h Z (qj (t:=63) F Z ?_ ?_)<;>intro F
    ·refine X0 7 Z ?_;obtain rfl:=qb F;exact rG ⟨_,i,rfl,h⟩ Z
    refine X2 7 2 0 h Z (zcB h F (qdV (h.old f)) Z fun _ _ h F=>X0 4 Z ?_);obtain rfl:=qb F;exact rG ⟨_,i,rfl,h⟩ Z
   refine X2 12 2 0 h Z (zcB h F (qdV (h.old f)) Z fun _ _ h F=>X0 4 Z ?_);obtain rfl:=qb F;exact rG ⟨_,i,rfl,h⟩ Z
  rintro _ _ ⟨Y,F,rfl,h⟩;subst z;refine qi Z F ?_ ?_<;>intro F
  ·refine X0 4 Z ?_;obtain rfl:=qb F;replace F:=x;exact rb h F Z
  refine X1 7 0 h Z (qi Z F ?_ ?_)<;>intro F
  ·refine X1 4 0 h Z ?_;obtain⟨y6,_,F,I,_,_,_,_,b9,c4,rfl,B⟩:=(h.sl 1 Z).1.ix F;refine zx b9 c4 ⟨I.1,qD I.2.1 (h.sl 1 Z).2⟩ Z (zc 0 B Z (zp1 Z ?_));obtain⟨_,c8,F,J,_,_,_,_,L,N,rfl,C⟩:=(h.sl 1 Z).1.ix F;refine zx L N ⟨J.1,qD J.2.1 (h.sl 1 Z).2⟩ Z (qao qa 1 0 (W64 (y6+1)) h Z c8 L N Z C Z Z Z Z Z Z Z fun _ h=>X0 6 Z ?_);replace h:=h.pick [1,2] Z;exact rK ⟨_,_,F,rfl,h⟩ Z
  refine X0 6 Z ?_;replace h:=h.pick [1,2] Z;exact rK ⟨_,_,F,rfl,h⟩ Z
 refine qr Z ?_;obtain rfl:=qb F;replace F:=x;exact X0 3 Z (zcB h F (qgP (h.own 0 Z)) Z fun _ _ h F=>X0 3 Z (rb h F Z))
def qbR (c:Int)(b:qm):Nat→(List Tplace)→Int→Option ((List Tplace)×Int)
 | 0,_,_=>U
 | n+1,d,a=>
  bif decide (a<(b.Ai.length:Int)) then
   (idx b.Ai a).bind fun g=>
   (appS d ([(⟨c,a,g,(a==(W64 ((b.Ai.length:Int)-1)))⟩:Tplace)]:List Tplace)).bind fun f=>
   qbR c b n f (W64 (a+1))
  else
   V (d,a)
def qbO (d:qg):Nat→(List Tplace)→Int→Option ((List Tplace)×Int)
 | 0,_,_=>U
 | n+1,b,a=>
  bif decide (a<(d.Ah.length:Int)) then
   (idx d.Ah a).bind fun c=>
   (appS b ([(⟨(-1),a,c.Bu,(c.Bs==1)⟩:Tplace)]:List Tplace)).bind fun f=>
   qbO d n f (W64 (a+1))
  else
   V (b,a)
def qbT (d:qg):Nat→(List Tplace)→Int→Option ((List Tplace)×Int)
 | 0,_,_=>U
 | n+1,b,a=>
  bif decide (a<(d.Ab.length:Int)) then
   (idx d.Ab a).bind fun f=>
   (qbR a f n b 0).bind fun o=>match o with
   | (c,_)=>
    qbT d n c (W64 (a+1))
  else
   V (b,a)
def qcy (n:Nat)(d:qg):Option (List Tplace):=
 (qbT d n ([]:List Tplace) 0).bind fun o=>match o with
 | (a,_)=>
  (qbO d n a 0).bind fun o=>match o with
  | (b,_)=>
   V b
theorem qff {d:qg}(A:Ro w d cs1){r:(List Tplace)}(F:qcy n d=V r):RetV prog 121 [GoT.v qg cs1] w r:=by
 obtain⟨u,t,p2,k2,p3,S,rfl,s1,_,s3⟩:=qaI A;refine zV 61 func121 Z fun h=>zSR (qw h Z Z fun _ a h=>X1 14 0 h Z ?_);replace h:=h.nil (α:=Tplace);obtain⟨o1,F,x⟩:=qd F;refine qn (rL (fun m e w'=>∃(S1:Nat→Prop) (p4:Option Addr) (i:Nat) (T:Nat) (x1:(List Tplace)) (b:Int),qbT d m x1 b=V o1∧e=[(1,.pointer (V ⟨a,0,U⟩)),(3,.slice p4 i T),(11,.slice u d.Ab.length t),(12,.int .i64 (d.Ab.length:Int)),(13,.int .i64 b)]∧SH w w' [Ch.own S1 (x1:List Tplace) [.slice p4 i T],Ch.box a (qaV d u p2 p3 t k2 S) 54]) n ⟨_,_,_,_,_,_,F,rfl,h⟩ Z ?_);rintro Y _ _ ⟨S1,p4,i,T,x1,b,F,rfl,h⟩;obtain rfl:=(h.sl 0 Z).2;rcases Y with _|Y
 ·cases F
 refine X0 5 Z (qi Z F ?_ ?_)<;>intro F
 ·refine X0 6 Z ?_;obtain⟨o,_,F,H,_,_,_,_,K,N,Q,B⟩:=s1.ix F;obtain⟨p5,k5,rfl,s4⟩:=qW Q;refine zxe K N H Z (zc 0 (B.below h.below) Z (qp qa h Z Z Z fun _ p h=>zp1 Z (zs 0 h Z fun _ h=>X1 8 0 h Z ?_)));obtain⟨o2,F,y⟩:=qd F;refine qn (rL (fun m e w'=>∃(S2:Nat→Prop) (p6:Option Addr) (k:Nat) (W:Nat) (x2:(List Tplace)) (g:Int),qbR b o m x2 g=V o2∧e=[(1,.pointer (V ⟨a,0,U⟩)),(3,.slice p6 k W),(4,.int .i64 b),(5,.pointer (V ⟨p,0,U⟩)),(11,.slice u d.Ab.length t),(12,.int .i64 (d.Ab.length:Int)),(13,.int .i64 b),(19,.slice p5 o.Ai.length k5),(20,.int .i64 (o.Ai.length:Int)),(21,.int .i64 g)]∧SH w w' [Ch.box p (qkN o p5 k5) 217,Ch.own S2 (x2:List Tplace) [.slice p6 k W],Ch.box a (qaV d u p2 p3 t k2 S) 54]) Y ⟨_,_,_,_,_,_,F,rfl,h⟩ Z ?_);rintro m2 _ _ ⟨S2,p6,k,W,x2,g,F,rfl,h⟩;obtain rfl:=(h.sl 1 Z).2;rcases m2 with _|m2
  ·cases F
  refine X0 5 Z (qi Z F ?_ ?_)<;>intro F
  ·refine X0 6 Z ?_;obtain⟨y2,_,F,I,_,_,_,_,L,O,rfl,C⟩:=s4.ix F;refine zxe L O I Z (zc 0 (C.below h.below) Z (X1 14 0 h Z (r_v (qaf qa [0,1,2,3] [.tmp 27,.tmp 28,.tmp 29,.tmp 35] Z Z Z Z Z Z Z Z) Z (qG qa [.tmp 36] _ ([(⟨b,g,y2,(g==(W64 ((o.Ai.length:Int)-1)))⟩:Tplace)]:List Tplace) h Z Z Z Z Z Z Z Z Z ⟨(qlC (⟨b,g,y2,(g==(W64 ((o.Ai.length:Int)-1)))⟩:Tplace)),trivial⟩ Z fun _ _ _ h=>?_))));obtain⟨_,c,F⟩:=qd F;obtain⟨g1,c⟩:=qaD c;refine qcs qa 2 h Z (h.sl 0 Z).1 (h.sl 0 Z).2 Z Z Z Z Z Z Z Z Z g1 c Z fun _ _ _ _ h=>X0 7 Z ?_;replace h:=h.pick [1,2,3] Z;exact rK ⟨_,_,_,_,_,_,F,rfl,h⟩ Z
  refine qr Z ?_;obtain rfl:=qb F;replace F:=y;refine X0 5 Z ?_;replace h:=h.pick [1,2] Z;exact rK ⟨_,_,_,_,_,_,F,rfl,h⟩ Z
 refine qr Z ?_;obtain rfl:=qb F;replace F:=x;refine X1 8 1 h Z ?_;obtain⟨o3,F,z⟩:=qd F;refine qn ?_;replace h:=h.pick [0] Z;refine rL (fun m e w'=>∃(S5:Nat→Prop) (p9:Option Addr) (l:Nat) (X:Nat) (x4:(List Tplace)) (s:Int),qbO d m x4 s=V o3∧e=[(3,.slice p9 l X),(42,.slice p3 d.Ah.length S),(43,.int .i64 (d.Ah.length:Int)),(44,.int .i64 s)]∧SH w w' [Ch.own S5 (x4:List Tplace) [.slice p9 l X]]) n ⟨_,_,_,_,_,_,F,rfl,h⟩ Z ?_;rintro m3 _ _ ⟨S5,p9,l,X,x4,s,F,rfl,h⟩;obtain rfl:=(h.sl 0 Z).2;rcases m3 with _|m3
 ·cases F
 refine X0 5 Z (qi Z F ?_ ?_)<;>intro F
 ·refine X0 6 Z ?_;obtain⟨v,_,F,J,_,_,_,_,M,P,R,D⟩:=s3.ix F;obtain rfl:=qa0 R;refine zxe M P J Z (zc 0 (D.below h.below) Z (qp qa h Z Z Z fun _ _ h=>zp1 Z (zs 0 h Z fun _ h=>X2 9 0 0 h Z (r_v (qaf qa [0,1,2,3] [.const (.int .i64 (-1)),.tmp 50,.tmp 52,.tmp 55] Z Z Z Z Z Z Z Z) Z (qG qa [.tmp 56] _ ([(⟨(-1),s,v.Bu,(v.Bs==1)⟩:Tplace)]:List Tplace) h Z Z Z Z Z Z Z Z Z ⟨(qlC (⟨(-1),s,v.Bu,(v.Bs==1)⟩:Tplace)),trivial⟩ Z fun _ _ _ h=>?_)))));obtain⟨_,f,F⟩:=qd F;obtain⟨g2,f⟩:=qaD f;refine qcs qa 2 h Z (h.sl 0 Z).1 (h.sl 0 Z).2 Z Z Z Z Z Z Z Z Z g2 f Z fun _ _ _ _ h=>X0 7 Z ?_;replace h:=h.pick [2] Z;exact rK ⟨_,_,_,_,_,_,F,rfl,h⟩ Z
 refine qr Z ?_;obtain rfl:=qb F;replace F:=z;refine X0 5 Z ?_;obtain rfl:=qb F;exact rO 0 h Z ⟨rfl,trivial⟩
def qbq (a_w:qH):Nat→Int→Option (Flow Bool Int)
 | 0,_=>U
 | n+1,a=>
  bif decide (a<(a_w.Ak.length:Int)) then
   (idx a_w.Ak a).bind fun b=>
   bif (a==0) then
    bif (b != (-1)) then V (.ret false) else
    (idx a_w.Bt 0).bind fun f=>
    bif (f != 0) then V (.ret false) else
    bif decide (a > 0) then
     (qaU n b 0 (W64 (a-1))).bind fun c=>
     bif (!c) then V (.ret false) else
     qbq a_w n (W64 (a+1))
    else
     qbq a_w n (W64 (a+1))
   else
    bif decide (a > 0) then
     (qaU n b 0 (W64 (a-1))).bind fun d=>
     bif (!d) then V (.ret false) else
     qbq a_w n (W64 (a+1))
    else
     qbq a_w n (W64 (a+1))
  else
   V (.nxt a)
def qic (n:Nat)(a_w:qH):Option Bool:=
 (qbq a_w n 0).bind fun o=>match o with
 | .ret r=>V r
 | .nxt _=>
  V true
theorem qpf {a_w:qH}(c:Ro w a_w cs1){r:Bool}(F:qic n a_w=V r):RetV prog 198 [GoT.v qH cs1] w r:=by
 obtain⟨x,u,C,y,D,z,H,A,rfl,I,s2,_,_⟩:=qaS c;refine zV 38 func198 Z fun h=>zSR (qw h Z Z fun _ b h=>X1 10 0 h Z ?_);obtain⟨B,F,a⟩:=qd F;refine qn (rL (fun m e w'=>∃(s:Int),qbq a_w m s=V B∧e=[(1,.pointer (V ⟨b,0,U⟩)),(6,.slice x a_w.Ak.length u),(7,.int .i64 (a_w.Ak.length:Int)),(8,.int .i64 s)]∧SH w w' [Ch.box b (qhs a_w x C D H u y z A) 170]) n ⟨_,F,rfl,h⟩ Z ?_);rintro v _ _ ⟨s,F,rfl,h⟩;rcases v with _|v
 ·cases F
 refine X0 5 Z (qi Z F ?_ ?_)<;>intro F
 ·refine X0 6 Z ?_;obtain⟨_,_,F,g,_,_,_,_,k,o,rfl,d⟩:=I.ix F;refine zxe k o g Z (zc 0 (d.below h.below) Z (X0 8 Z (qj (t:=15) F Z ?_ ?_)))<;>intro F
  ·refine X0 6 Z (qj (t:=18) F Z ?_ ?_)<;>intro F
   ·refine X0 20 Z (qb9 Z Z (X0 4 Z ?_));obtain rfl:=qb F;replace F:=a;exact rb h F Z
   refine X1 5 0 h Z ?_;obtain⟨_,_,F,i,_,_,_,_,l,p,rfl,f⟩:=s2.ix F;refine zxe l p i Z (X0 1 Z (zc 0 (f.below h.below) Z (X0 6 Z (qj (t:=26) F Z ?_ ?_))))<;>intro F
   ·refine X0 11 Z (qb9 Z Z (X0 4 Z ?_));obtain rfl:=qb F;replace F:=a;exact rb h F Z
   refine X0 6 Z (qj (t:=29) F Z ?_ ?_)<;>intro F
   ·refine X0 7 Z (zcB h F qaJ Z fun _ _ h F=>X0 6 Z (qi Z F ?_ ?_))<;>intro F
    ·refine X0 4 Z ?_;obtain rfl:=qb F;replace F:=a;exact rb h F Z
    exact X0 6 Z (rK ⟨_,F,rfl,h⟩ Z)
   exact X0 9 Z (qbL Z Z (X0 6 Z (rK ⟨_,F,rfl,h⟩ Z)))
  refine X0 17 Z (qj (t:=29) F Z ?_ ?_)<;>intro F
  ·refine X0 7 Z (zcB h F qaJ Z fun _ _ h F=>X0 6 Z (qi Z F ?_ ?_))<;>intro F
   ·refine X0 4 Z ?_;obtain rfl:=qb F;replace F:=a;exact rb h F Z
   exact X0 6 Z (rK ⟨_,F,rfl,h⟩ Z)
  exact X0 9 Z (qbL Z Z (X0 6 Z (rK ⟨_,F,rfl,h⟩ Z)))
 refine qr Z ?_;obtain rfl:=qb F;replace F:=a;exact X0 4 Z (rb h F Z)
def qmt (n:Nat)(a_w:qH)(sinks:Int):Option Bool:=
 (qbB n a_w.Ak).bind fun a=>
 (qaU n a 1 8).bind fun b=>
 bif b then
  (qbB n a_w.Bt).bind fun c=>
  bif (c==a) then
   (qbB n a_w.Bq).bind fun d=>
   bif (d==a) then
    (qic n a_w).bind fun f=>
    bif f then
     (qbY n a_w.Bt 0 1000).bind fun g=>
     bif g then
      (qbY n a_w.Bq 0 500).bind fun h=>
      bif h then
       (qbB n a_w.Bg).bind fun i=>
       bif (i==sinks) then
        (qbY n a_w.Bg 0 (W64 (a-1))).bind fun k=>
        V k
       else
        V false
      else
       V false
     else
      V false
    else
     V false
   else
    V false
  else
   V false
 else
  V false
theorem qsH {a_w:qH}{sinks:Int}(a:Ro w a_w cs1){r:Bool}(F:qmt n a_w sinks=V r):RetV prog 122 [GoT.v qH cs1,.int .i64 sinks] w r:=by
 obtain⟨_,_,_,_,_,_,_,_,rfl,d,s2,b,c⟩:=qaS a;refine zV 53 func122 Z fun h=>zSR (qw h Z Z fun _ _ h=>X1 6 0 h Z (zcI h F (qcM ⟨_,_,rfl,(h.oldS d)⟩) Z fun _ _ h F=>X0 5 Z (zcB h F qaJ Z fun _ _ h F=>zp1 Z (qj (t:=11) F Z ?_ ?_))))<;>intro F
 ·refine X1 5 0 h Z (zcI h F (qcM ⟨_,_,rfl,(h.oldS s2)⟩) Z fun _ _ h F=>X0 6 Z (qj (t:=18) F Z ?_ ?_))<;>intro F
  ·refine X1 5 0 h Z (zcI h F (qcM ⟨_,_,rfl,(h.oldS b)⟩) Z fun _ _ h F=>X0 6 Z (qj (t:=25) F Z ?_ ?_))<;>intro F
   ·refine X1 3 0 h Z (zcB h F (qpf (h.old a)) Z fun _ _ h F=>zp2 Z (qj (t:=29) F Z ?_ ?_))<;>intro F
    ·refine X1 5 0 h Z (zcB h F (qcl ⟨_,_,rfl,(h.oldS s2)⟩) Z fun _ _ h F=>zp2 Z (qj (t:=34) F Z ?_ ?_))<;>intro F
     ·refine X1 5 0 h Z (zcB h F (qcl ⟨_,_,rfl,(h.oldS b)⟩) Z fun _ _ h F=>zp2 Z (qj (t:=39) F Z ?_ ?_))<;>intro F
      ·refine X1 5 0 h Z (zcI h F (qcM ⟨_,_,rfl,(h.oldS c)⟩) Z fun _ _ h F=>X0 6 Z (qj (t:=46) F Z ?_ ?_))<;>intro F
       ·exact X1 9 0 h Z (zcB h F (qcl ⟨_,_,rfl,(h.oldS c)⟩) Z fun _ _ h F=>X0 3 Z (rb h F Z))
       exact X0 8 Z (rb h F Z)
      exact X0 15 Z (rb h F Z)
     exact X0 20 Z (rb h F Z)
    exact X0 25 Z (rb h F Z)
   exact X0 29 Z (rb h F Z)
  exact X0 36 Z (rb h F Z)
 exact X0 43 Z (rb h F Z)
def qfz (b:qe)(c:(List Int)):Nat→Int→Option (Flow Bool Int)
 | 0,_=>U
 | n+1,a=>
  bif decide (a<(b.Af.length:Int)) then
   (idx b.Af a).bind fun f=>
   (idx c a).bind fun g=>
   (qmt n f g).bind fun d=>
   bif (!d) then V (.ret false) else
   qfz b c n (W64 (a+1))
  else
   V (.nxt a)
def qdj (c:(List Tplace)):Nat→(List Int)→Int→Option ((List Int)×Int)
 | 0,_,_=>U
 | n+1,b,a=>
  bif decide (a<(c.length:Int)) then
   (idx c a).bind fun d=>
   bif (!d.drives) then
    (idx b d.net).bind fun f=>
    (idx b d.net).bind fun _=>
    qdj c n (setS b d.net (W64 (f+1))) (W64 (a+1))
   else
    qdj c n b (W64 (a+1))
  else
   V (b,a)
def qgC (n:Nat)(b:qe):Option Bool:=
 (
  (qkj n (⟨b.Ar.Ap⟩:qt) (⟨b.Aa.Ab,b.Aa.Ai,b.Aa.Ah⟩:qg)).bind fun c=>
  bif (!c) then V true else
  V ((b.Af.length:Int) != (b.Aa.Ai.length:Int))).bind fun b1=>
 bif b1 then V false else
 (mkS (b.Af.length:Int) (0:Int)).bind fun d=>
 (qcy n (⟨b.Aa.Ab,b.Aa.Ai,b.Aa.Ah⟩:qg)).bind fun a=>
 (qdj a n d 0).bind fun o=>match o with
 | (f,_)=>
  (qfz b f n 0).bind fun o=>match o with
  | .ret r=>V r
  | .nxt _=>
   V true
theorem qnW {b:qe}(B:Ro w b cs1){r:Bool}(F:qgC n b=V r):RetV prog 66 [GoT.v qe cs1] w r:=by
 obtain⟨p1,k1,p2,k2,p3,k3,p4,k4,p5,k5,rfl,s1,s2,s3,s4,s5⟩:=qE B;refine zV 63 func66 Z fun h=>zSR (qw h Z Z fun _ a h=>X0 4 Z ?_);obtain⟨z,i,_,F,g⟩:=bindE F;refine qaT (fun e w'=>∃(b1:Bool),z b1=V r∧e=[(1,.pointer (V ⟨a,0,U⟩)),(23,.bool b1)]∧SH w w' [Ch.box a (qJ b p1 p2 p3 p4 p5 k1 k2 k3 k4 k5) 57]) ?_ ?_
 ·refine X2 5 0 0 h Z (zcB h F (qqY (qez _ (h.oldS s1)) (qav _ (h.oldS s2) (h.oldS s3) (h.oldS s4))) Z fun _ _ h F=>zp2 Z (qj (t:=14) F Z ?_ ?_))<;>intro F
  ·refine X0 10 Z ?_;obtain rfl:=qb F;exact rG ⟨_,g,rfl,h⟩ Z
  refine X2 18 0 0 h Z ?_;obtain rfl:=qb F;exact rG ⟨_,g,rfl,h⟩ Z
 rintro _ _ ⟨b1,F,rfl,h⟩;subst i;refine qi Z F ?_ ?_<;>intro F
 ·exact X0 4 Z (rb h F Z)
 refine X1 6 0 h Z ?_;obtain⟨c,d,F⟩:=qd F;obtain⟨g1,g2,d⟩:=qR d;refine qas qa Int h Z Z Z Z Z Z Z Z Z g1 g2 d Z fun _ S1 y h=>X1 7 1 h Z (zcL h F (qff (qav _ (h.oldS s2) (h.oldS s3) (h.oldS s4))) Z fun v _ S2 p7 k6 h F=>X0 3 Z ?_);obtain⟨o1,F,A⟩:=qd F;refine qn (rL (fun m e w'=>∃(x:(List Int)) (i1:Int),qdj v m x i1=V o1∧e=[(1,.pointer (V ⟨a,0,U⟩)),(3,.slice y c.length c.length),(30,.slice p7 v.length k6),(31,.int .i64 (v.length:Int)),(32,.int .i64 i1)]∧SH w w' [Ch.own S2 (v:List Tplace) [.slice p7 v.length k6],Ch.own S1 (x:List Int) [.slice y c.length c.length],Ch.box a (qJ b p1 p2 p3 p4 p5 k1 k2 k3 k4 k5) 57]) n ⟨_,_,F,rfl,h⟩ Z ?_);rintro m1 _ _ ⟨x,i1,F,rfl,h⟩;rcases m1 with _|m1
 ·cases F
 refine X0 5 Z (qi Z F ?_ ?_)<;>intro F
 ·refine zKSBSR ?_;obtain⟨_,_,F,k,_,_,_,_,L,P,T,C⟩:=(h.sl 0 Z).1.ix F;obtain rfl:=qfL T;refine zx L P ⟨k.1,qD k.2.1 (h.sl 0 Z).2⟩ Z (zc 0 C Z (qp qa h Z Z Z fun _ _ h=>zs 0 h Z fun _ h=>X1 7 0 h Z (qi Z F ?_ ?_)))<;>intro F
  ·refine X1 4 0 h Z ?_;obtain⟨y2,_,F,l,_,_,_,_,M,Q,rfl,D⟩:=(h.sl 2 Z).1.ix F;refine zx M Q ⟨l.1,qD l.2.1 (h.sl 2 Z).2⟩ Z (zc 0 D Z (zp1 Z ?_));obtain⟨_,Y,F,o,_,_,_,_,s,u,rfl,H⟩:=(h.sl 2 Z).1.ix F;refine zx s u ⟨o.1,qD o.2.1 (h.sl 2 Z).2⟩ Z (qao qa 2 0 (W64 (y2+1)) h Z Y s u Z H Z Z Z Z Z Z Z fun _ h=>X0 6 Z ?_);replace h:=h.pick [1,2,3] Z;exact rK ⟨_,_,F,rfl,h⟩ Z
  refine X0 6 Z ?_;replace h:=h.pick [1,2,3] Z;exact rK ⟨_,_,F,rfl,h⟩ Z
 refine qr Z ?_;obtain rfl:=qb F;replace F:=A;refine X1 8 2 h Z ?_;obtain⟨o2,F,f⟩:=qd F;refine qn ?_;replace h:=h.pick [1] Z;refine rL (fun m e w'=>∃(i2:Int),qfz b x m i2=V o2∧e=[(3,.slice y c.length c.length),(48,.slice p5 b.Af.length k5),(49,.int .i64 (b.Af.length:Int)),(50,.int .i64 i2)]∧SH w w' [Ch.own S1 (x:List Int) [.slice y c.length c.length]]) n ⟨_,F,rfl,h⟩ Z ?_;rintro m2 _ _ ⟨i2,F,rfl,h⟩;rcases m2 with _|m2
 ·cases F
 refine X0 5 Z (qi Z F ?_ ?_)<;>intro F
 ·refine X0 6 Z ?_;obtain⟨y4,_,F,K,_,_,_,_,N,R,W,I⟩:=s5.ix F;obtain⟨_,_,_,_,_,_,_,_,rfl,s6,s7,s8,s9⟩:=qaS W;refine zxe N R K Z (zc 0 (I.below h.below) Z (qp qa h Z Z Z fun _ _ h=>zp1 Z (zs 0 h Z fun _ h=>zNS (rD (Y1 1 0 h Z ?_)))));refine zd2 Z ?_;obtain⟨_,_,F,p,_,_,_,_,O,S,rfl,J⟩:=(h.sl 1 Z).1.ix F;refine zdx O S ⟨p.1,qD p.2.1 (h.sl 1 Z).2⟩ Z (zdc 0 J Z ?_);obtain⟨r2,X,F⟩:=qd F;refine qbn r2 (vsB _) (cB 122 Z) (fun _ hb=>qsH (qlp y4 ((h.ext hb).oldS s6) ((h.ext hb).oldS s7) ((h.ext hb).oldS s8) ((h.ext hb).oldS s9)) X) Z Z Z Z (zd1 Z (dN h fun _ h=>qi Z F ?_ ?_))<;>intro F
  ·refine X0 4 Z ?_;obtain rfl:=qb F;replace F:=f;exact rb h F Z
  refine X0 6 Z ?_;replace h:=h.pick [1] Z;exact rK ⟨_,F,rfl,h⟩ Z
 refine qr Z ?_;obtain rfl:=qb F;replace F:=f;exact X0 4 Z (rb h F Z)
end Go.Fw


namespace Go.Fw
open Go
def qaQ (a:(List Int)):Nat:=a.length
theorem qeI {a:(List Int)}(h:(rngL rngI) a)(w:qaQ a≤1048576):(okL okI) a:=
 ⟨by simp only[qaQ] at w;omega,fun x hx=>h.2 x hx⟩
def qjd (x:qx):Prop:=(rngL rngI) x.Bi∧(rngL rngI) x.Bb∧(rngL rngI) x.Ba
def qex (x:qx):Nat:=qaQ x.Bi+qaQ x.Bb+qaQ x.Ba
structure qjm (x:qx):Prop where
 Bi:(okL okI) x.Bi
 Bb:(okL okI) x.Bb
 Ba:(okL okI) x.Ba
theorem qv6 {x:qx}(h:qjd x)(w:qex x≤1048576):qjm x:=⟨qeI (h.1) (by simp only[qex] at w;omega),qeI (h.2.1) (by simp only[qex] at w;omega),qeI (h.2.2) (by simp only[qex] at w;omega)⟩
def qdr (a:(List qx)):Nat:=a.length+(a.map fun x=>qex x).sum
theorem qrr {a:(List qx)}(h:(rngL qjd) a)(w:qdr a≤1048576):(okL qjm) a:=
 ⟨by simp only[qdr] at w;omega,fun x hx=>qv6 (h.2 x hx) (by have:=qcz (wt:=fun x:qx=>qex x) hx;simp only[qdr] at w;omega)⟩
def qnz (x:qL):Prop:=rngI x.Ay∧rngI x.Bf∧rngI x.To∧rngI x.Bl∧(rngL qjd) x.Bj∧(rngL qjd) x.Aq
def qjV (x:qL):Nat:=qdr x.Bj+qdr x.Aq
structure qpE (x:qL):Prop where
 Ay:okI x.Ay
 Bf:okI x.Bf
 To:okI x.To
 Bl:okI x.Bl
 Bj:(okL qjm) x.Bj
 Aq:(okL qjm) x.Aq
theorem qzx {x:qL}(h:qnz x)(w:qjV x≤1048576):qpE x:=⟨h.1,h.2.1,h.2.2.1,h.2.2.2.1,qrr (h.2.2.2.2.1) (by simp only[qjV] at w;omega),qrr (h.2.2.2.2.2) (by simp only[qjV] at w;omega)⟩
theorem qeK {a:(List Int)}(h:qaQ a≤1048576):Ev (fun n=>qa8 n a a) true:=by
 have hl:a.length≤1048576:=by simp only[qaQ] at h;omega
 unfold qa8;exact Ev.ff (by simp) (Ev.bind (b:=.nxt (a.length:Int)) (qib (eqf:=fun _ x y=>V (!(x != y))) (fun x _=>Ev.now (by simp))
  (fun n=>by simp only[qf8,ql (je _),cond_false])
  (fun n j x hx=>by
   have hj:=(List.getElem?_eq_some_iff.1 hx).1;simp only[qf8,qk hj,cond_true,qan hx,jd,Bool.not_not,wS j])) .done)
theorem qy2 {a:qx}(h:qex a≤1048576):Ev (fun n=>qjq n a a) true:=by
 unfold qjq;simp only[qex] at h;exact Ev.bind (qeK (a:=a.Bi) (by omega)) (Ev.ff Z (Ev.bind (qeK (a:=a.Bb) (by omega)) (Ev.ff Z (Ev.bind (qeK (a:=a.Ba) (by omega)) (Ev.ff Z (.done))))))
theorem qtK {a:(List qx)}(h:qdr a≤1048576):Ev (fun n=>qiM n a a) true:=by
 have hl:a.length≤1048576:=by simp only[qdr] at h;omega
 unfold qiM;exact Ev.ff (by simp) (Ev.bind (b:=.nxt (a.length:Int)) (qib (eqf:=qjq) (fun x hx=>qy2 (by have:=qcz (wt:=fun x:qx=>qex x) hx;simp only[qdr] at h;omega))
  (fun n=>by simp only[qf7,ql (je _),cond_false])
  (fun n j x hx=>by
   have hj:=(List.getElem?_eq_some_iff.1 hx).1;simp only[qf7,qk hj,cond_true,qan hx,jd,wS j])) .done)
theorem qAY {a:qL}(h:qjV a≤1048576):Ev (fun n=>qlN n a a) true:=by
 unfold qlN;simp only[qjV] at h;exact Ev.ff qa7 (Ev.ff qa7 (Ev.ff qa7 (Ev.ff qa7 (Ev.bind (qtK (a:=a.Bj) (by omega)) (Ev.ff Z (Ev.bind (qtK (a:=a.Aq) (by omega)) (Ev.ff Z (.done))))))))
def qit (a:(List qL)):Nat:=a.length+(a.map fun x=>qjV x).sum
theorem qxD {a:(List qL)}(h:(rngL qnz) a)(w:qit a≤1048576):(okL qpE) a:=
 ⟨by simp only[qit] at w;omega,fun x hx=>qzx (h.2 x hx) (by have:=qcz (wt:=fun x:qL=>qjV x) hx;simp only[qit] at w;omega)⟩
theorem qz5 {a:(List qL)}(h:qit a≤1048576):Ev (fun n=>qmk n a a) true:=by
 have hl:a.length≤1048576:=by simp only[qit] at h;omega
 unfold qmk;exact Ev.ff (by simp) (Ev.bind (b:=.nxt (a.length:Int)) (qib (eqf:=qlN) (fun x hx=>qAY (by have:=qcz (wt:=fun x:qL=>qjV x) hx;simp only[qit] at h;omega))
  (fun n=>by simp only[qhR,ql (je _),cond_false])
  (fun n j x hx=>by
   have hj:=(List.getElem?_eq_some_iff.1 hx).1;simp only[qhR,qk hj,cond_true,qan hx,jd,wS j])) .done)
def qnr (x:qat):Prop:=rngS x.Az∧rngI x.Bs∧rngI x.Bq∧rngB x.Bn
def ql3 (x:qat):Nat:=x.Az.size
structure qoc (x:qat):Prop where
 Az:okS x.Az
 Bs:okI x.Bs
 Bq:okI x.Bq
 Bn:okT x.Bn
theorem qyX {x:qat}(h:qnr x)(w:ql3 x≤1048576):qoc x:=⟨(by unfold okS;simp only[ql3] at w;omega),h.2.1,h.2.2.1,trivial⟩
def qiw (a:(List qat)):Nat:=a.length+(a.map fun x=>ql3 x).sum
theorem qya {a:(List qat)}(h:(rngL qnr) a)(w:qiw a≤1048576):(okL qoc) a:=
 ⟨by simp only[qiw] at w;omega,fun x hx=>qyX (h.2 x hx) (by have:=qcz (wt:=fun x:qat=>ql3 x) hx;simp only[qiw] at w;omega)⟩
def ql7 (x:qA):Prop:=rngS x.Az∧rngI x.Ay∧(rngL qnr) x.Av∧(rngL qnz) x.As∧(rngL rngI) x.Bk∧rngI x.Bx∧rngI x.Br
def qgi (x:qA):Nat:=x.Az.size+qiw x.Av+qit x.As+qaQ x.Bk
structure qoZ (x:qA):Prop where
 Az:okS x.Az
 Ay:okI x.Ay
 Av:(okL qoc) x.Av
 As:(okL qpE) x.As
 Bk:(okL okI) x.Bk
 Bx:okI x.Bx
 Br:okI x.Br
theorem qxN {x:qA}(h:ql7 x)(w:qgi x≤1048576):qoZ x:=⟨(by unfold okS;simp only[qgi] at w;omega),h.2.1,qya (h.2.2.1) (by simp only[qgi] at w;omega),qxD (h.2.2.2.1) (by simp only[qgi] at w;omega),qeI (h.2.2.2.2.1) (by simp only[qgi] at w;omega),h.2.2.2.2.2.1,h.2.2.2.2.2.2⟩
def qgF (a:(List qA)):Nat:=a.length+(a.map fun x=>qgi x).sum
theorem qwR {a:(List qA)}(h:(rngL ql7) a)(w:qgF a≤1048576):(okL qoZ) a:=
 ⟨by simp only[qgF] at w;omega,fun x hx=>qxN (h.2 x hx) (by have:=qcz (wt:=fun x:qA=>qgi x) hx;simp only[qgF] at w;omega)⟩
def qmH (x:qt):Prop:=(rngL ql7) x.Ap
def qeX (x:qt):Nat:=qgF x.Ap
structure qi6 (x:qt):Prop where
 Ap:(okL qoZ) x.Ap
theorem quu {x:qt}(h:qmH x)(w:qeX x≤1048576):qi6 x:=⟨qwR (h) (by simp only[qeX] at w;omega)⟩
def qgL (x:qm):Prop:=rngS x.Az∧rngI x.Bo∧(rngL rngI) x.Ai
def qbP (x:qm):Nat:=x.Az.size+qaQ x.Ai
structure qow (x:qm):Prop where
 Az:okS x.Az
 Bo:okI x.Bo
 Ai:(okL okI) x.Ai
theorem qs8 {x:qm}(h:qgL x)(w:qbP x≤1048576):qow x:=⟨(by unfold okS;simp only[qbP] at w;omega),h.2.1,qeI (h.2.2) (by simp only[qbP] at w;omega)⟩
def qb4 (a:(List qm)):Nat:=a.length+(a.map fun x=>qbP x).sum
theorem qsS {a:(List qm)}(h:(rngL qgL) a)(w:qb4 a≤1048576):(okL qow) a:=
 ⟨by simp only[qb4] at w;omega,fun x hx=>qs8 (h.2 x hx) (by have:=qcz (wt:=fun x:qm=>qbP x) hx;simp only[qb4] at w;omega)⟩
def qeL (a:(List ByteArray)):Nat:=a.length+(a.map fun x=>x.size).sum
theorem quk {a:(List ByteArray)}(_:(rngL rngS) a)(w:qeL a≤1048576):(okL okS) a:=
 ⟨by simp only[qeL] at w;omega,fun x hx=>(by unfold okS;have:=qcz (wt:=fun x:ByteArray=>x.size) hx;simp only[qeL] at w;omega)⟩
def qlG (x:qY):Prop:=rngS x.Az∧rngI x.Bs∧rngI x.Bu
def qi0 (x:qY):Nat:=x.Az.size
structure qur (x:qY):Prop where
 Az:okS x.Az
 Bs:okI x.Bs
 Bu:okI x.Bu
theorem qxU {x:qY}(h:qlG x)(w:qi0 x≤1048576):qur x:=⟨(by unfold okS;simp only[qi0] at w;omega),h.2.1,h.2.2⟩
def qgA (a:(List qY)):Nat:=a.length+(a.map fun x=>qi0 x).sum
theorem qvY {a:(List qY)}(h:(rngL qlG) a)(w:qgA a≤1048576):(okL qur) a:=
 ⟨by simp only[qgA] at w;omega,fun x hx=>qxU (h.2 x hx) (by have:=qcz (wt:=fun x:qY=>qi0 x) hx;simp only[qgA] at w;omega)⟩
def qnt (x:qg):Prop:=(rngL qgL) x.Ab∧(rngL rngS) x.Ai∧(rngL qlG) x.Ah
def qfd (x:qg):Nat:=qb4 x.Ab+qeL x.Ai+qgA x.Ah
structure qlr (x:qg):Prop where
 Ab:(okL qow) x.Ab
 Ai:(okL okS) x.Ai
 Ah:(okL qur) x.Ah
theorem qvr {x:qg}(h:qnt x)(w:qfd x≤1048576):qlr x:=⟨qsS (h.1) (by simp only[qfd] at w;omega),quk (h.2.1) (by simp only[qfd] at w;omega),qvY (h.2.2) (by simp only[qfd] at w;omega)⟩
def qlA (x:qH):Prop:=(rngL rngI) x.Ak∧(rngL rngI) x.Bt∧(rngL rngI) x.Bq∧(rngL rngI) x.Bg
def qgr (x:qH):Nat:=qaQ x.Ak+qaQ x.Bt+qaQ x.Bq+qaQ x.Bg
structure qp2 (x:qH):Prop where
 Ak:(okL okI) x.Ak
 Bt:(okL okI) x.Bt
 Bq:(okL okI) x.Bq
 Bg:(okL okI) x.Bg
theorem qx1 {x:qH}(h:qlA x)(w:qgr x≤1048576):qp2 x:=⟨qeI (h.1) (by simp only[qgr] at w;omega),qeI (h.2.1) (by simp only[qgr] at w;omega),qeI (h.2.2.1) (by simp only[qgr] at w;omega),qeI (h.2.2.2) (by simp only[qgr] at w;omega)⟩
def qgJ (a:(List qH)):Nat:=a.length+(a.map fun x=>qgr x).sum
theorem qwD {a:(List qH)}(h:(rngL qlA) a)(w:qgJ a≤1048576):(okL qp2) a:=
 ⟨by simp only[qgJ] at w;omega,fun x hx=>qx1 (h.2 x hx) (by have:=qcz (wt:=fun x:qH=>qgr x) hx;simp only[qgJ] at w;omega)⟩
def qo2 (x:qe):Prop:=qmH x.Ar∧qnt x.Aa∧(rngL qlA) x.Af
def qgE (x:qe):Nat:=qeX x.Ar+qfd x.Aa+qgJ x.Af
structure qkx (x:qe):Prop where
 Ar:qi6 x.Ar
 Aa:qlr x.Aa
 Af:(okL qp2) x.Af
theorem qwf {x:qe}(h:qo2 x)(w:qgE x≤1048576):qkx x:=⟨quu (h.1) (by simp only[qgE] at w;omega),qvr (h.2.1) (by simp only[qgE] at w;omega),qwD (h.2.2) (by simp only[qgE] at w;omega)⟩
theorem qAZ {a:qat}(_:ql3 a≤1048576):Ev (fun n=>qlV n a a) true:=by
 unfold qlV;exact Ev.ff qln (Ev.ff qa7 (Ev.ff qa7 (Ev.ff quh (.done))))
theorem qAx {a:(List qat)}(h:qiw a≤1048576):Ev (fun n=>qmn n a a) true:=by
 have hl:a.length≤1048576:=by simp only[qiw] at h;omega
 unfold qmn;exact Ev.ff (by simp) (Ev.bind (b:=.nxt (a.length:Int)) (qib (eqf:=qlV) (fun x hx=>qAZ (by have:=qcz (wt:=fun x:qat=>ql3 x) hx;simp only[qiw] at h;omega))
  (fun n=>by simp only[qh1,ql (je _),cond_false])
  (fun n j x hx=>by
   have hj:=(List.getElem?_eq_some_iff.1 hx).1;simp only[qh1,qk hj,cond_true,qan hx,jd,wS j])) .done)
theorem qzW {a:qA}(h:qgi a≤1048576):Ev (fun n=>qkE n a a) true:=by
 unfold qkE;simp only[qgi] at h;exact Ev.ff qln (Ev.ff qa7 (Ev.bind (qAx (a:=a.Av) (by omega)) (Ev.ff Z (Ev.bind (qz5 (a:=a.As) (by omega)) (Ev.ff Z (Ev.bind (qeK (a:=a.Bk) (by omega)) (Ev.ff Z (Ev.ff qa7 (Ev.ff qa7 (.done))))))))))
theorem qyT {a:(List qA)}(h:qgF a≤1048576):Ev (fun n=>qlb n a a) true:=by
 have hl:a.length≤1048576:=by simp only[qgF] at h;omega
 unfold qlb;exact Ev.ff (by simp) (Ev.bind (b:=.nxt (a.length:Int)) (qib (eqf:=qkE) (fun x hx=>qzW (by have:=qcz (wt:=fun x:qA=>qgi x) hx;simp only[qgF] at h;omega))
  (fun n=>by simp only[qgT,ql (je _),cond_false])
  (fun n j x hx=>by
   have hj:=(List.getElem?_eq_some_iff.1 hx).1;simp only[qgT,qk hj,cond_true,qan hx,jd,wS j])) .done)
theorem qwT {a:qt}(h:qeX a≤1048576):Ev (fun n=>qjB n a a) true:=by
 unfold qjB;simp only[qeX] at h;exact Ev.bind (qyT (a:=a.Ap) (by omega)) (Ev.ff Z (.done))
theorem qvm {a:qm}(h:qbP a≤1048576):Ev (fun n=>qg0 n a a) true:=by
 unfold qg0;simp only[qbP] at h;exact Ev.ff qln (Ev.ff qa7 (Ev.bind (qeK (a:=a.Ai) (by omega)) (Ev.ff Z (.done))))
theorem quz {a:(List qm)}(h:qb4 a≤1048576):Ev (fun n=>qie n a a) true:=by
 have hl:a.length≤1048576:=by simp only[qb4] at h;omega
 unfold qie;exact Ev.ff (by simp) (Ev.bind (b:=.nxt (a.length:Int)) (qib (eqf:=qg0) (fun x hx=>qvm (by have:=qcz (wt:=fun x:qm=>qbP x) hx;simp only[qb4] at h;omega))
  (fun n=>by simp only[qeq,ql (je _),cond_false])
  (fun n j x hx=>by
   have hj:=(List.getElem?_eq_some_iff.1 hx).1;simp only[qeq,qk hj,cond_true,qan hx,jd,wS j])) .done)
theorem qvZ {a:(List ByteArray)}(h:qeL a≤1048576):Ev (fun n=>qji n a a) true:=by
 have hl:a.length≤1048576:=by simp only[qeL] at h;omega
 unfold qji;exact Ev.ff (by simp) (Ev.bind (b:=.nxt (a.length:Int)) (qib (eqf:=fun _ x y=>V (!(x.toList != y.toList))) (fun x _=>Ev.now (by simp))
  (fun n=>by simp only[qfG,ql (je _),cond_false])
  (fun n j x hx=>by
   have hj:=(List.getElem?_eq_some_iff.1 hx).1;simp only[qfG,qk hj,cond_true,qan hx,jd,Bool.not_not,wS j])) .done)
theorem qzR {a:qY}(_:qi0 a≤1048576):Ev (fun n=>qkB n a a) true:=by
 unfold qkB;exact Ev.ff qln (Ev.ff qa7 (Ev.ff qa7 (.done)))
theorem qzs {a:(List qY)}(h:qgA a≤1048576):Ev (fun n=>qlf n a a) true:=by
 have hl:a.length≤1048576:=by simp only[qgA] at h;omega
 unfold qlf;exact Ev.ff (by simp) (Ev.bind (b:=.nxt (a.length:Int)) (qib (eqf:=qkB) (fun x hx=>qzR (by have:=qcz (wt:=fun x:qY=>qi0 x) hx;simp only[qgA] at h;omega))
  (fun n=>by simp only[qgZ,ql (je _),cond_false])
  (fun n j x hx=>by
   have hj:=(List.getElem?_eq_some_iff.1 hx).1;simp only[qgZ,qk hj,cond_true,qan hx,jd,wS j])) .done)
theorem qx8 {a:qg}(h:qfd a≤1048576):Ev (fun n=>qkd n a a) true:=by
 unfold qkd;simp only[qfd] at h;exact Ev.bind (quz (a:=a.Ab) (by omega)) (Ev.ff Z (Ev.bind (qvZ (a:=a.Ai) (by omega)) (Ev.ff Z (Ev.bind (qzs (a:=a.Ah) (by omega)) (Ev.ff Z (.done))))))
theorem qAl {a:qH}(h:qgr a≤1048576):Ev (fun n=>qkP n a a) true:=by
 unfold qkP;simp only[qgr] at h;exact Ev.bind (qeK (a:=a.Ak) (by omega)) (Ev.ff Z (Ev.bind (qeK (a:=a.Bt) (by omega)) (Ev.ff Z (Ev.bind (qeK (a:=a.Bq) (by omega)) (Ev.ff Z (Ev.bind (qeK (a:=a.Bg) (by omega)) (Ev.ff Z (.done))))))))
theorem qy0 {a:(List qH)}(h:qgJ a≤1048576):Ev (fun n=>qk5 n a a) true:=by
 have hl:a.length≤1048576:=by simp only[qgJ] at h;omega
 unfold qk5;exact Ev.ff (by simp) (Ev.bind (b:=.nxt (a.length:Int)) (qib (eqf:=qkP) (fun x hx=>qAl (by have:=qcz (wt:=fun x:qH=>qgr x) hx;simp only[qgJ] at h;omega))
  (fun n=>by simp only[qg1,ql (je _),cond_false])
  (fun n j x hx=>by
   have hj:=(List.getElem?_eq_some_iff.1 hx).1;simp only[qg1,qk hj,cond_true,qan hx,jd,wS j])) .done)
theorem qyL {a:qe}(h:qgE a≤1048576):Ev (fun n=>qld n a a) true:=by
 unfold qld;simp only[qgE] at h;exact Ev.bind (qwT (a:=a.Ar) (by omega)) (Ev.ff Z (Ev.bind (qx8 (a:=a.Aa) (by omega)) (Ev.ff Z (Ev.bind (qy0 (a:=a.Af) (by omega)) (Ev.ff Z (.done))))))
theorem qiq {a:(List Int)}{left:Int}(h:(rngL rngI) a)(h0:0≤left)(h1:left≤1048576):Sz (fun n=>qcq n a left) (fun r=>r=left-(qaQ a:Int)):=
 Sz.less h0 h1 (by omega) (by have:=h.1;omega) (fun _=>rfl)
theorem qyN {a:qx}{left:Int}(h:qjd a)(h0:0≤left)(h1:left≤1048576):Sz (fun n=>qjE n a left) (fun r=>r=left-(qex a:Int)):=by
 unfold qjE;obtain⟨h_0,h_1,h_2⟩:=h;exact Sz.step (qiq (a:=a.Bi) h_0 (by omega) (by omega)) fun r0 p0 q0=>Sz.step (qiq (a:=a.Bb) h_1 (by omega) (by omega)) fun r1 p1 q1=>Sz.step (qiq (a:=a.Ba) h_2 (by omega) (by omega)) fun r2 p2 q2=>Sz.done p2 (by simp only[qex];omega)
theorem qtw {a:(List qx)}{left:Int}(h:(rngL qjd) a)(h0:0≤left)(h1:left≤1048576):Sz (fun n=>qko n a left) (fun r=>r=left-(qdr a:Int)):=
 Sz.list (Lf:=qeR a) (wt:=fun x:qx=>qex x) (el:=qjE) h0 h1 h.1 (fun x hx left p q=>qyN (h.2 x hx) p q)
  (fun acc n=>by simp only[qeR,ql (je _),cond_false])
  (fun acc n j x hx=>by
   have hj:=(List.getElem?_eq_some_iff.1 hx).1;have hl:=h.1;simp only[qeR,qk hj,cond_true,qan hx,jd,wS j])
  (fun _=>rfl)
theorem qA6 {a:qL}{left:Int}(h:qnz a)(h0:0≤left)(h1:left≤1048576):Sz (fun n=>qlX n a left) (fun r=>r=left-(qjV a:Int)):=by
 unfold qlX;obtain⟨h_0,h_1,h_2,h_3,h_4,h_5⟩:=h;exact Sz.step (qtw (a:=a.Bj) h_4 (by omega) (by omega)) fun r0 p0 q0=>Sz.step (qtw (a:=a.Aq) h_5 (by omega) (by omega)) fun r1 p1 q1=>Sz.done p1 (by simp only[qjV];omega)
theorem qAi {a:(List qL)}{left:Int}(h:(rngL qnz) a)(h0:0≤left)(h1:left≤1048576):Sz (fun n=>qol n a left) (fun r=>r=left-(qit a:Int)):=
 Sz.list (Lf:=qgb a) (wt:=fun x:qL=>qjV x) (el:=qlX) h0 h1 h.1 (fun x hx left p q=>qA6 (h.2 x hx) p q)
  (fun acc n=>by simp only[qgb,ql (je _),cond_false])
  (fun acc n j x hx=>by
   have hj:=(List.getElem?_eq_some_iff.1 hx).1;have hl:=h.1;simp only[qgb,qk hj,cond_true,qan hx,jd,wS j])
  (fun _=>rfl)
theorem qA2 {a:qat}{left:Int}(h:qnr a)(h0:0≤left)(h1:left≤1048576):Sz (fun n=>qlS n a left) (fun r=>r=left-(ql3 a:Int)):=by
 unfold qlS;obtain⟨h_0,h_1,h_2,h_3⟩:=h;exact Sz.strStep h_0 (by omega) (by omega) fun p0 q0=>Sz.done p0 (by simp only[ql3];omega)
theorem qzP {a:(List qat)}{left:Int}(h:(rngL qnr) a)(h0:0≤left)(h1:left≤1048576):Sz (fun n=>qop n a left) (fun r=>r=left-(qiw a:Int)):=
 Sz.list (Lf:=qgj a) (wt:=fun x:qat=>ql3 x) (el:=qlS) h0 h1 h.1 (fun x hx left p q=>qA2 (h.2 x hx) p q)
  (fun acc n=>by simp only[qgj,ql (je _),cond_false])
  (fun acc n j x hx=>by
   have hj:=(List.getElem?_eq_some_iff.1 hx).1;have hl:=h.1;simp only[qgj,qk hj,cond_true,qan hx,jd,wS j])
  (fun _=>rfl)
theorem qzV {a:qA}{left:Int}(h:ql7 a)(h0:0≤left)(h1:left≤1048576):Sz (fun n=>qkF n a left) (fun r=>r=left-(qgi a:Int)):=by
 unfold qkF;obtain⟨h_0,h_1,h_2,h_3,h_4,h_5,h_6⟩:=h;exact Sz.strStep h_0 (by omega) (by omega) fun p0 q0=>Sz.step (qzP (a:=a.Av) h_2 (by omega) (by omega)) fun r1 p1 q1=>Sz.step (qAi (a:=a.As) h_3 (by omega) (by omega)) fun r2 p2 q2=>Sz.step (qiq (a:=a.Bk) h_4 (by omega) (by omega)) fun r3 p3 q3=>Sz.done p3 (by simp only[qgi];omega)
theorem qyH {a:(List qA)}{left:Int}(h:(rngL ql7) a)(h0:0≤left)(h1:left≤1048576):Sz (fun n=>qnv n a left) (fun r=>r=left-(qgF a:Int)):=
 Sz.list (Lf:=qfs a) (wt:=fun x:qA=>qgi x) (el:=qkF) h0 h1 h.1 (fun x hx left p q=>qzV (h.2 x hx) p q)
  (fun acc n=>by simp only[qfs,ql (je _),cond_false])
  (fun acc n j x hx=>by
   have hj:=(List.getElem?_eq_some_iff.1 hx).1;have hl:=h.1;simp only[qfs,qk hj,cond_true,qan hx,jd,wS j])
  (fun _=>rfl)
theorem qwj {a:qt}{left:Int}(h:qmH a)(h0:0≤left)(h1:left≤1048576):Sz (fun n=>qjt n a left) (fun r=>r=left-(qeX a:Int)):=by
 unfold qjt;have h_0:=h;exact Sz.step (qyH (a:=a.Ap) h_0 (by omega) (by omega)) fun r0 p0 q0=>Sz.done p0 (by simp only[qeX];omega)
theorem qvU {a:qm}{left:Int}(h:qgL a)(h0:0≤left)(h1:left≤1048576):Sz (fun n=>qg5 n a left) (fun r=>r=left-(qbP a:Int)):=by
 unfold qg5;obtain⟨h_0,h_1,h_2⟩:=h;exact Sz.strStep h_0 (by omega) (by omega) fun p0 q0=>Sz.step (qiq (a:=a.Ai) h_2 (by omega) (by omega)) fun r1 p1 q1=>Sz.done p1 (by simp only[qbP];omega)
theorem qt7 {a:(List qm)}{left:Int}(h:(rngL qgL) a)(h0:0≤left)(h1:left≤1048576):Sz (fun n=>qkc n a left) (fun r=>r=left-(qb4 a:Int)):=
 Sz.list (Lf:=qdd a) (wt:=fun x:qm=>qbP x) (el:=qg5) h0 h1 h.1 (fun x hx left p q=>qvU (h.2 x hx) p q)
  (fun acc n=>by simp only[qdd,ql (je _),cond_false])
  (fun acc n j x hx=>by
   have hj:=(List.getElem?_eq_some_iff.1 hx).1;have hl:=h.1;simp only[qdd,qk hj,cond_true,qan hx,jd,wS j])
  (fun _=>rfl)
theorem qwV {a:(List ByteArray)}{left:Int}(h:(rngL rngS) a)(h0:0≤left)(h1:left≤1048576):Sz (fun n=>qlF n a left) (fun r=>r=left-(qeL a:Int)):=
 Sz.list (Lf:=qd2 a) (wt:=fun x:ByteArray=>x.size) (el:=fun _ (x:ByteArray) acc=>V (W64 (acc-(x.size:Int)))) h0 h1 h.1 (fun x hx left p q=>Sz.str (h.2 x hx) p q)
  (fun acc n=>by simp only[qd2,ql (je _),cond_false])
  (fun acc n j x hx=>by
   have hj:=(List.getElem?_eq_some_iff.1 hx).1;have hl:=h.1;simp only[qd2,qk hj,cond_true,qan hx,jd,wS j])
  (fun _=>rfl)
theorem qzT {a:qY}{left:Int}(h:qlG a)(h0:0≤left)(h1:left≤1048576):Sz (fun n=>qkt n a left) (fun r=>r=left-(qi0 a:Int)):=by
 unfold qkt;obtain⟨h_0,h_1,h_2⟩:=h;exact Sz.strStep h_0 (by omega) (by omega) fun p0 q0=>Sz.done p0 (by simp only[qi0];omega)
theorem qyU {a:(List qY)}{left:Int}(h:(rngL qlG) a)(h0:0≤left)(h1:left≤1048576):Sz (fun n=>qnB n a left) (fun r=>r=left-(qgA a:Int)):=
 Sz.list (Lf:=qfx a) (wt:=fun x:qY=>qi0 x) (el:=qkt) h0 h1 h.1 (fun x hx left p q=>qzT (h.2 x hx) p q)
  (fun acc n=>by simp only[qfx,ql (je _),cond_false])
  (fun acc n j x hx=>by
   have hj:=(List.getElem?_eq_some_iff.1 hx).1;have hl:=h.1;simp only[qfx,qk hj,cond_true,qan hx,jd,wS j])
  (fun _=>rfl)
theorem qyc {a:qg}{left:Int}(h:qnt a)(h0:0≤left)(h1:left≤1048576):Sz (fun n=>qkf n a left) (fun r=>r=left-(qfd a:Int)):=by
 unfold qkf;obtain⟨h_0,h_1,h_2⟩:=h;exact Sz.step (qt7 (a:=a.Ab) h_0 (by omega) (by omega)) fun r0 p0 q0=>Sz.step (qwV (a:=a.Ai) h_1 (by omega) (by omega)) fun r1 p1 q1=>Sz.step (qyU (a:=a.Ah) h_2 (by omega) (by omega)) fun r2 p2 q2=>Sz.done p2 (by simp only[qfd];omega)
theorem qzU {a:qH}{left:Int}(h:qlA a)(h0:0≤left)(h1:left≤1048576):Sz (fun n=>qkw n a left) (fun r=>r=left-(qgr a:Int)):=by
 unfold qkw;obtain⟨h_0,h_1,h_2,h_3⟩:=h;exact Sz.step (qiq (a:=a.Ak) h_0 (by omega) (by omega)) fun r0 p0 q0=>Sz.step (qiq (a:=a.Bt) h_1 (by omega) (by omega)) fun r1 p1 q1=>Sz.step (qiq (a:=a.Bq) h_2 (by omega) (by omega)) fun r2 p2 q2=>Sz.step (qiq (a:=a.Bg) h_3 (by omega) (by omega)) fun r3 p3 q3=>Sz.done p3 (by simp only[qgr];omega)
theorem qyP {a:(List qH)}{left:Int}(h:(rngL qlA) a)(h0:0≤left)(h1:left≤1048576):Sz (fun n=>qnn n a left) (fun r=>r=left-(qgJ a:Int)):=
 Sz.list (Lf:=qfv a) (wt:=fun x:qH=>qgr x) (el:=qkw) h0 h1 h.1 (fun x hx left p q=>qzU (h.2 x hx) p q)
  (fun acc n=>by simp only[qfv,ql (je _),cond_false])
  (fun acc n j x hx=>by
   have hj:=(List.getElem?_eq_some_iff.1 hx).1;have hl:=h.1;simp only[qfv,qk hj,cond_true,qan hx,jd,wS j])
  (fun _=>rfl)
theorem qzq {a:qe}{left:Int}(h:qo2 a)(h0:0≤left)(h1:left≤1048576):Sz (fun n=>qlc n a left) (fun r=>r=left-(qgE a:Int)):=by
 unfold qlc;obtain⟨h_0,h_1,h_2⟩:=h;exact Sz.step (qwj (a:=a.Ar) h_0 (by omega) (by omega)) fun r0 p0 q0=>Sz.step (qyc (a:=a.Aa) h_1 (by omega) (by omega)) fun r1 p1 q1=>Sz.step (qyP (a:=a.Af) h_2 (by omega) (by omega)) fun r2 p2 q2=>Sz.done p2 (by simp only[qgE];omega)
theorem qeO {a:(List Int)}(h:qaQ a≤1048576):Ev (fun n=>qba n a) a:=by
 have hl:a.length≤1048576:=by simp only[qaQ] at h;omega
 unfold qba;exact Ev.bindN (qiO (by omega)) (Ev.bind (b:=(a,(a.length:Int))) (qjv (cp:=fun _ x=>V x) (fun _ _=>.done)
  (fun acc n=>by simp only[qgp,ql (je _),cond_false])
  (fun acc n j x y hx hy=>by
   have hj:=(List.getElem?_eq_some_iff.1 hx).1;simp only[qgp,qk hj,cond_true,qan hx,qan hy,jd,wS j])) .done)
theorem qzu {a:qx}(h:qex a≤1048576):Ev (fun n=>qjI n a) a:=by
 unfold qjI;simp only[qex] at h;exact Ev.bind (qeO (a:=a.Bi) (by omega)) (Ev.bind (qeO (a:=a.Bb) (by omega)) (Ev.bind (qeO (a:=a.Ba) (by omega)) (.done)))
theorem qtR {a:(List qx)}(h:qdr a≤1048576):Ev (fun n=>qiD n a) a:=by
 have hl:a.length≤1048576:=by simp only[qdr] at h;omega
 unfold qiD;exact Ev.bindN (qiO (by omega)) (Ev.bind (b:=(a,(a.length:Int))) (qjv (cp:=qjI) (fun x hx=>qzu (by have:=qcz (wt:=fun x:qx=>qex x) hx;simp only[qdr] at h;omega))
  (fun acc n=>by simp only[qgn,ql (je _),cond_false])
  (fun acc n j x y hx hy=>by
   have hj:=(List.getElem?_eq_some_iff.1 hx).1;simp only[qgn,qk hj,cond_true,qan hx,qan hy,jd,wS j])) .done)
theorem qBh {a:qL}(h:qjV a≤1048576):Ev (fun n=>ql5 n a) a:=by
 unfold ql5;simp only[qjV] at h;exact Ev.bind (qtR (a:=a.Bj) (by omega)) (Ev.bind (qtR (a:=a.Aq) (by omega)) (.done))
theorem qz6 {a:(List qL)}(h:qit a≤1048576):Ev (fun n=>qml n a) a:=by
 have hl:a.length≤1048576:=by simp only[qit] at h;omega
 unfold qml;exact Ev.bindN (qiO (by omega)) (Ev.bind (b:=(a,(a.length:Int))) (qjv (cp:=ql5) (fun x hx=>qBh (by have:=qcz (wt:=fun x:qL=>qjV x) hx;simp only[qit] at h;omega))
  (fun acc n=>by simp only[qhU,ql (je _),cond_false])
  (fun acc n j x y hx hy=>by
   have hj:=(List.getElem?_eq_some_iff.1 hx).1;simp only[qhU,qk hj,cond_true,qan hx,qan hy,jd,wS j])) .done)
theorem qA8 {a:qat}(_:ql3 a≤1048576):Ev (fun n=>ql9 n a) a:=by
 unfold ql9;exact .done
theorem qAa {a:(List qat)}(h:qiw a≤1048576):Ev (fun n=>qmq n a) a:=by
 have hl:a.length≤1048576:=by simp only[qiw] at h;omega
 unfold qmq;exact Ev.bindN (qiO (by omega)) (Ev.bind (b:=(a,(a.length:Int))) (qjv (cp:=ql9) (fun x hx=>qA8 (by have:=qcz (wt:=fun x:qat=>ql3 x) hx;simp only[qiw] at h;omega))
  (fun acc n=>by simp only[qhO,ql (je _),cond_false])
  (fun acc n j x y hx hy=>by
   have hj:=(List.getElem?_eq_some_iff.1 hx).1;simp only[qhO,qk hj,cond_true,qan hx,qan hy,jd,wS j])) .done)
theorem qzH {a:qA}(h:qgi a≤1048576):Ev (fun n=>qkJ n a) a:=by
 unfold qkJ;simp only[qgi] at h;exact Ev.bind (qAa (a:=a.Av) (by omega)) (Ev.bind (qz6 (a:=a.As) (by omega)) (Ev.bind (qeO (a:=a.Bk) (by omega)) (.done)))
theorem qzh {a:(List qA)}(h:qgF a≤1048576):Ev (fun n=>qk6 n a) a:=by
 have hl:a.length≤1048576:=by simp only[qgF] at h;omega
 unfold qk6;exact Ev.bindN (qiO (by omega)) (Ev.bind (b:=(a,(a.length:Int))) (qjv (cp:=qkJ) (fun x hx=>qzH (by have:=qcz (wt:=fun x:qA=>qgi x) hx;simp only[qgF] at h;omega))
  (fun acc n=>by simp only[qg7,ql (je _),cond_false])
  (fun acc n j x y hx hy=>by
   have hj:=(List.getElem?_eq_some_iff.1 hx).1;simp only[qg7,qk hj,cond_true,qan hx,qan hy,jd,wS j])) .done)
theorem qwz {a:qt}(h:qeX a≤1048576):Ev (fun n=>qjh n a) a:=by
 unfold qjh;simp only[qeX] at h;exact Ev.bind (qzh (a:=a.Ap) (by omega)) (.done)
theorem qvJ {a:qm}(h:qbP a≤1048576):Ev (fun n=>qgU n a) a:=by
 unfold qgU;simp only[qbP] at h;exact Ev.bind (qeO (a:=a.Ai) (by omega)) (.done)
theorem quA {a:(List qm)}(h:qb4 a≤1048576):Ev (fun n=>qh6 n a) a:=by
 have hl:a.length≤1048576:=by simp only[qb4] at h;omega
 unfold qh6;exact Ev.bindN (qiO (by omega)) (Ev.bind (b:=(a,(a.length:Int))) (qjv (cp:=qgU) (fun x hx=>qvJ (by have:=qcz (wt:=fun x:qm=>qbP x) hx;simp only[qb4] at h;omega))
  (fun acc n=>by simp only[qes,ql (je _),cond_false])
  (fun acc n j x y hx hy=>by
   have hj:=(List.getElem?_eq_some_iff.1 hx).1;simp only[qes,qk hj,cond_true,qan hx,qan hy,jd,wS j])) .done)
theorem qwQ {a:(List ByteArray)}(h:qeL a≤1048576):Ev (fun n=>qjr n a) a:=by
 have hl:a.length≤1048576:=by simp only[qeL] at h;omega
 unfold qjr;exact Ev.bindN (qiO (by omega)) (Ev.bind (b:=(a,(a.length:Int))) (qjv (cp:=fun _ x=>V x) (fun _ _=>.done)
  (fun acc n=>by simp only[qfR,ql (je _),cond_false])
  (fun acc n j x y hx hy=>by
   have hj:=(List.getElem?_eq_some_iff.1 hx).1;simp only[qfR,qk hj,cond_true,qan hx,qan hy,jd,wS j])) .done)
theorem qzN {a:qY}(_:qi0 a≤1048576):Ev (fun n=>qkr n a) a:=by
 unfold qkr;exact .done
theorem qyM {a:(List qY)}(h:qgA a≤1048576):Ev (fun n=>qla n a) a:=by
 have hl:a.length≤1048576:=by simp only[qgA] at h;omega
 unfold qla;exact Ev.bindN (qiO (by omega)) (Ev.bind (b:=(a,(a.length:Int))) (qjv (cp:=qkr) (fun x hx=>qzN (by have:=qcz (wt:=fun x:qY=>qi0 x) hx;simp only[qgA] at h;omega))
  (fun acc n=>by simp only[qg9,ql (je _),cond_false])
  (fun acc n j x y hx hy=>by
   have hj:=(List.getElem?_eq_some_iff.1 hx).1;simp only[qg9,qk hj,cond_true,qan hx,qan hy,jd,wS j])) .done)
theorem qxJ {a:qg}(h:qfd a≤1048576):Ev (fun n=>qkq n a) a:=by
 unfold qkq;simp only[qfd] at h;exact Ev.bind (quA (a:=a.Ab) (by omega)) (Ev.bind (qwQ (a:=a.Ai) (by omega)) (Ev.bind (qyM (a:=a.Ah) (by omega)) (.done)))
theorem qz7 {a:qH}(h:qgr a≤1048576):Ev (fun n=>qkM n a) a:=by
 unfold qkM;simp only[qgr] at h;exact Ev.bind (qeO (a:=a.Ak) (by omega)) (Ev.bind (qeO (a:=a.Bt) (by omega)) (Ev.bind (qeO (a:=a.Bq) (by omega)) (Ev.bind (qeO (a:=a.Bg) (by omega)) (.done))))
theorem qzz {a:(List qH)}(h:qgJ a≤1048576):Ev (fun n=>qk8 n a) a:=by
 have hl:a.length≤1048576:=by simp only[qgJ] at h;omega
 unfold qk8;exact Ev.bindN (qiO (by omega)) (Ev.bind (b:=(a,(a.length:Int))) (qjv (cp:=qkM) (fun x hx=>qz7 (by have:=qcz (wt:=fun x:qH=>qgr x) hx;simp only[qgJ] at h;omega))
  (fun acc n=>by simp only[qg8,ql (je _),cond_false])
  (fun acc n j x y hx hy=>by
   have hj:=(List.getElem?_eq_some_iff.1 hx).1;simp only[qg8,qk hj,cond_true,qan hx,qan hy,jd,wS j])) .done)
theorem qqf {a:qe}(h:qgE a≤1048576):Ev (fun n=>qgK n a) a:=by
 unfold qgK;simp only[qgE] at h;exact Ev.bind (qwz (a:=a.Ar) (by omega)) (Ev.bind (qxJ (a:=a.Aa) (by omega)) (Ev.bind (qzz (a:=a.Af) (by omega)) (.done)))
end Go.Fw


namespace Go.Fw
open Go
set_option maxRecDepth 100000
theorem qcV {n:Nat}{x lo hi:Int}:qaB n x lo hi=V (inI x lo hi):=by
 simp only[qaB,qoJ,qpY];rfl
theorem qdB {n:Nat}{x lo hi:Int}:qaU n x lo hi=V (inI x lo hi):=by
 simp only[qaU,qoJ,qpY];rfl
def bt (s:ByteArray)(j:Nat):Nat:=(s.data.toList.getD j 0).toNat
theorem qys {s:ByteArray}{j:Nat}(h:j<s.size):atS s (j:Int)=V (bt s j:Int):=by
 have h':j<s.data.size:=h;have hl:j<s.data.toList.length:=by simpa using h'
 unfold atS;rw[if_pos (by omega),jn];have:s[j]?=V (s.data.toList.getD j 0):=by
  rw[getElem?_pos s j h,jD,ji hl]
  rfl
 rw[this]
 rfl
def letB (b:Nat):Bool:=decide (97≤b)&&decide (b≤122)
def digB (b:Nat):Bool:=decide (48≤b)&&decide (b≤57)
def chB (s:ByteArray)(j:Nat):Bool:=letB (bt s j) || digB (bt s j)&&decide (0<j)
def nameB (s:ByteArray):Bool:=(decide (1≤s.size)&&decide (s.size≤8))&&allN (chB s) s.size
theorem qno {s:ByteArray}(h:okS s):Ev (fun n=>qgD n s) (nameB s):=by
 unfold okS at h;have hL:Ev (fun n=>qeg s n 0) (bif allN (chB s) s.size then .nxt (s.size:Int) else .ret false):=by
  refine qel ?_ (fun j hj X hX=>?_)
  ·exact Ev.succ (by simp only[qeg,ql (je _),cond_false];exact .done)
  ·refine Ev.succ ?_;simp only[qeg,qk hj,cond_true,qys hj,jd,qoJ,qpY,wS j];have e1:(decide ((bt s j:Int) ≥ 97)&&decide ((bt s j:Int)≤122))=letB (bt s j):=by unfold letB;rw[jk];simp;omega
   have e2:(decide ((bt s j:Int) ≥ 48)&&decide ((bt s j:Int)≤57))=digB (bt s j):=by unfold digB;rw[jk];simp;omega
   have e3:decide ((j:Int) > 0)=decide (0<j):=by rw[jk];simp
   rw[e1,e2,e3];unfold chB;cases letB (bt s j)<;>cases digB (bt s j)<;>cases decide (0<j)<;>first|exact hX|exact .done
 unfold qgD;refine Ev.cast (r:=bif allN (chB s) s.size then(decide (1≤s.size)&&decide (s.size≤8)) else false) (Ev.bindB hL (fun _=>?_) (fun _=>.done)) ?_
 ·simp only[qoJ,qpY];exact Ev.now (by congr 1;rw[jk];simp;omega)
 ·unfold nameB;cases allN (chB s) s.size<;>simp
def cutset:List UInt8:=[97,98,99,100,101,102,103,104,105,106,107,108,109,110,111,112,113,114,115,116,117,118,119,120,121,122,48,49,50,51,52,53,54,55,56,57]
theorem qsU (b:UInt8):cutset.contains b=(letB b.toNat || digB b.toNat):=by
 have h0:(List.range 256).all (fun m=>cutset.contains (UInt8.ofNat m)==(letB (UInt8.ofNat m).toNat || digB (UInt8.ofNat m).toNat))=true:=by kernel_rfl
 have h:=List.all_eq_true.1 h0 b.toNat (List.mem_range.2 b.toNat_lt);rw[beq_iff_eq] at h;simpa using h
def letters:List UInt8:=[97,98,99,100,101,102,103,104,105,106,107,108,109,110,111,112,113,114,115,116,117,118,119,120,121,122]
theorem qwO (m:Nat)(hm:m<256):decide ((Lib.indexByte letters m.toUInt8) ≥ 0)=letB m:=by
 have h0:(List.range 256).all (fun m=>decide ((Lib.indexByte letters m.toUInt8) ≥ 0)==letB m)=true:=by kernel_rfl
 have h:=List.all_eq_true.1 h0 m (List.mem_range.2 hm);rwa [beq_iff_eq] at h
theorem qtq {α:Type}{p:α→Bool}{l:List α}:l.dropWhile p=[]↔∀ x,x ∈ l→p x=true:=by
 induction l with
 | nil=>simp
 | cons y l ih=>
  rw[List.dropWhile_cons];by_cases h:p y=true
  ·rw[if_pos h,ih];simp[h]
  ·rw[if_neg h];simp[h]
theorem qs4 {α:Type}{p:α→Bool}{l:List α}(h:∀ x,x ∈ l.dropWhile p→p x=true):∀ x,x ∈ l→p x=true:=by
 induction l with
 | nil=>simp
 | cons y l ih=>
  rw[List.dropWhile_cons] at h;by_cases hy:p y=true
  ·rw[if_pos hy] at h;intro x hx;rcases List.mem_cons.1 hx with rfl|hx
   ·exact hy
   ·exact ih h x hx
  ·rw[if_neg hy] at h;exact h
theorem qyZ {l cs:List UInt8}:Lib.trimS l cs=[]↔∀ x,x ∈ l→cs.contains x=true:=by
 unfold Lib.trimS Lib.trimRightS Lib.trimLeftS;rw[qtq];constructor
 ·intro h x hx;exact qs4 (p:=(cs.contains ·)) (l:=l.reverse) (fun y hy=>h y (List.mem_reverse.2 hy)) x (List.mem_reverse.2 hx)
 ·intro h x hx;exact h x (List.mem_reverse.1 ((List.dropWhile_suffix _).subset (List.mem_reverse.1 hx)))
theorem qiz {a b:ByteArray}:(a.toList==b.toList)=decide (a=b):=by
 rw[jk,beq_iff_eq,decide_eq_true_iff];constructor
 ·intro h;exact ByteArray.ext (by have:=congrArg List.toArray h;simpa [ByteArray.toList_eq] using this)
 ·rintro rfl;rfl
end Go.Fw


namespace Go.Fw
open Go
set_option maxRecDepth 100000
theorem qAD {s:ByteArray}{j:Nat}(h:j<s.data.toList.length):bt s j=(s.data.toList[j]).toNat:=by
 unfold bt;rw[jD,ji h];rfl
theorem qBv {s:ByteArray}{j:Nat}:bt s j<256:=UInt8.toNat_lt _
theorem qqL {n:Nat}{s:ByteArray}(h:okS s):qjc n s=V (nameB s):=by
 unfold okS at h;have hl:s.data.toList.length=s.size:=by simp
 simp only[qjc,qdB,jd];cases hI:inI (s.size:Int) 1 8 with
 | false=>
  have hs:(decide (1≤s.size)&&decide (s.size≤8))=false:=by rw[qxr] at hI;rw[Bool.and_eq_false_iff,decide_eq_false_iff_not,decide_eq_false_iff_not];omega
  simp[nameB,hs]
 | true=>
  have hs:1≤s.size∧s.size≤8:=by rw[qa3] at hI;omega
  have hT:qjw n s (⟨#[97,98,99,100,101,102,103,104,105,106,107,108,109,110,111,112,113,114,115,116,117,118,119,120,121,122,48,49,50,51,52,53,54,55,56,57]⟩:ByteArray)=V ⟨(Lib.trimS s.data.toList cutset).toArray⟩:=by
   unfold qjw;rw[if_pos ⟨by omega,by decide,by decide⟩]
   rfl
  rw[hT];simp only[cond_true,jd];have hE:(((⟨(Lib.trimS s.data.toList cutset).toArray⟩:ByteArray).toList==(⟨#[]⟩:ByteArray).toList))=allN (fun j=>letB (bt s j) || digB (bt s j)) s.size:=by
   rw[qiz,jk,decide_eq_true_iff,qaC];have:((⟨(Lib.trimS s.data.toList cutset).toArray⟩:ByteArray)=⟨#[]⟩)↔Lib.trimS s.data.toList cutset=[]:=by
    constructor
    ·intro he;have:=congrArg (fun x:ByteArray=>x.data.toList) he;simpa using this
    ·intro he;rw[he]
   rw[this,qyZ];constructor
   ·intro hx j hj;have hj':j<s.data.toList.length:=by omega
    have:=hx _ (jq hj');rw[qsU,←qAD hj'] at this;exact this
   ·intro hx x hm;obtain⟨j,hj,rfl⟩:=jR hm;have:=hx j (by omega);rw[qsU,←qAD hj];exact this
  rw[hE];have h0:atS s 0=V (bt s 0:Int):=qys (j:=0) (by omega);have hI2:decide (Lib.indexByte letters (bt s 0:Int).toNat.toUInt8 ≥ 0)=letB (bt s 0):=by
   rw[jn];exact qwO _ qBv
  have hF:∀ b:Bool,(bif b then(atS s 0).bind fun y1=>(qhw n (⟨#[97,98,99,100,101,102,103,104,105,106,107,108,109,110,111,112,113,114,115,116,117,118,119,120,121,122]⟩:ByteArray) (⟨y1⟩:IntK .u8)).bind fun r3=>V (decide (r3 ≥ 0)) else V false)=V (b&&letB (bt s 0)):=by
   intro b;cases b with
   | false=>rfl
   | true=>
    rw[h0];simp only[cond_true,jd,qhw,jx];exact congrArg V hI2
  rw[hF]
  congr 1
  have hs':(decide (1≤s.size)&&decide (s.size≤8))=true:=by simp[hs]
  unfold nameB;rw[hs',jx,jk,jf,qaC,qaC];simp only[chB,Bool.or_eq_true,jf,decide_eq_true_eq];constructor
  ·rintro⟨h1,h2⟩ j hj;rcases Nat.eq_zero_or_pos j with rfl|hp
   ·exact .inl h2
   ·exact(h1 j hj).imp id (fun h=>⟨h,hp⟩)
  ·intro h1;refine⟨fun j hj=>(h1 j hj).imp id (fun h=>h.1),?_⟩;rcases h1 0 (by omega) with h2|h2
   ·exact h2
   ·omega
def strAt (xs:List ByteArray)(j:Nat):ByteArray:=xs.getD j ByteArray.empty
theorem qpJ {xs:List ByteArray}{j:Nat}(h:j<xs.length):strAt xs j=xs[j]:=by simp[strAt,h]
theorem qr0 {xs:List ByteArray}{j:Nat}(h:j<xs.length):idx xs (j:Int)=V (strAt xs j):=by rw[qga h,qpJ h]
def neB (xs:List ByteArray)(j i:Nat):Bool:=!decide (strAt xs i=strAt xs j)
def namesB (xs:List ByteArray):Bool:=allN (fun j=>nameB (strAt xs j)&&allN (neB xs j) j) xs.length
theorem qoo {xs:List ByteArray}(h:okL okS xs):Ev (fun n=>qhd n xs) (namesB xs):=by
 have hl:=h.len;have hL2:∀ j,j<xs.length→Ev (fun n=>qe0 xs (j:Int) n 0) (bif allN (neB xs j) j then .nxt (j:Int) else .ret false):=by
  intro j hj;refine qel ?_ (fun i hi X hX=>Ev.succ ?_)
  ·exact Ev.succ (by simp only[qe0,ql (je _),cond_false];exact .done)
  ·simp only[qe0,qk hi,cond_true,qr0 (show i<xs.length by omega),qr0 hj,jd,qiz,wS i];unfold neB;cases decide (strAt xs i=strAt xs j)
   ·exact hX
   ·exact .done
 have hL1:Ev (fun n=>qe1 xs n 0) (bif namesB xs then .nxt (xs.length:Int) else .ret false):=by
  refine qel ?_ (fun j hj X hX=>Ev.succ ?_)
  ·exact Ev.succ (by simp only[qe1,ql (je _),cond_false];exact .done)
  ·simp only[qe1,qk hj,cond_true,qr0 hj,jd,wS j];refine Ev.bind (qno (by rw[qpJ hj];exact h.at hj)) ?_;cases nameB (strAt xs j)
   ·exact .done
   ·refine Ev.ff Z (Ev.bind (hL2 j hj) ?_);cases allN (neB xs j) j
    ·exact .done
    ·exact hX
 unfold qhd;refine Ev.bind hL1 ?_;cases namesB xs<;>exact .done
theorem qvT {xs:List ByteArray}{v:ByteArray}(hl:xs.length≤1048576):Ev (fun n=>qf2 n xs v) (ixL (fun x=>decide (v=x)) xs):=
 qgm (fin:=(xs.length:Int)) (Lf:=qcb xs v) (pf:=fun _ x=>V (decide (v=x))) (fun _ _=>.done)
  (fun n=>by simp only[qcb,ql (je _),cond_false])
  (fun n j x hx=>by
   have hj:=(List.getElem?_eq_some_iff.1 hx).1;simp only[qcb,qk hj,cond_true,qan hx,jd,qiz,wS j])
  (fun n=>by unfold qf2;congr 1;funext o;cases o<;>rfl)
theorem qsl {xs:List ByteArray}{v:ByteArray}(hl:xs.length≤1048576):Ev (fun n=>qey n xs v) (xs.any fun x=>decide (v=x)):=by
 unfold qey;exact Ev.bind (qvT hl) (Ev.now (by rw[qpm]))
theorem qkA {xs:List ByteArray}(h:okL okS xs):Ev (fun n=>qeG n xs) (namesB xs):=by
 have hl:=h.len;have hL1:Ev (fun n=>qeM xs n 0) (bif namesB xs then .nxt (xs.length:Int) else .ret false):=by
  refine qel ?_ (fun j hj X hX=>Ev.succ ?_)
  ·exact Ev.succ (by simp only[qeM,ql (je _),cond_false];exact .done)
  ·have hs:subS xs 0 (j:Int)=V (xs.take j):=by
    unfold subS;rw[if_pos ⟨by omega,by omega,by omega⟩];simp
   simp only[qeM,qk hj,cond_true,qr0 hj,jd,hs,qqL (show okS (strAt xs j) by rw[qpJ hj];exact h.at hj),wS j];cases nameB (strAt xs j)
   ·exact .done
   ·refine Ev.ff Z (Ev.bind (qsl (by simp;omega)) ?_);have:((xs.take j).any fun x=>decide (strAt xs j=x)) = !allN (neB xs j) j:=by
     rw[qvC (d:=ByteArray.empty)]
     congr 1
     rw[jP,Nat.min_eq_left (by omega)];refine qi2 (fun i hi=>?_);unfold neB strAt
     congr 1
     have:(xs.take j).getD i ByteArray.empty=xs.getD i ByteArray.empty:=by simp[jD,hi]
     rw[this];exact decide_eq_decide.2 eq_comm
    rw[this];cases allN (neB xs j) j
    ·exact .done
    ·exact hX
 unfold qeG;refine Ev.bind hL1 ?_;cases namesB xs<;>exact .done
end Go.Fw


namespace Go.Fw
open Go
set_option maxRecDepth 100000
theorem qs9 {n:Nat}{x lo hi:Int}:qii n x lo hi=V (!inI x lo hi):=by simp only[qii,qdB,jd]
theorem qfD {xs:List Int}{lo hi:Int}(hl:xs.length≤1048576):Ev (fun n=>qbY n xs lo hi) (xs.all fun x=>inI x lo hi):=by
 have h1:Ev (fun n=>qbb n xs lo hi) (ixL (fun x=>!inI x lo hi) xs):=
  qgm (fin:=(xs.length:Int)) (Lf:=qap xs lo hi) (pf:=fun _ x=>V (!inI x lo hi)) (fun _ _=>.done)
   (fun n=>by simp only[qap,ql (je _),cond_false])
   (fun n j x hx=>by
    have hj:=(List.getElem?_eq_some_iff.1 hx).1;simp only[qap,qk hj,cond_true,qan hx,jd,qs9,wS j])
   (fun n=>by unfold qbb;congr 1;funext o;cases o<;>rfl)
 unfold qbY qbJ;refine Ev.bind (Ev.bind h1 (Ev.now Z)) (Ev.now ?_);rw[qpm,qr1]
def stepB (xs:List Int)(j:Nat):Bool:=decide (j=0) || decide (at0 xs (j-1)<at0 xs j)
def incB (xs:List Int):Bool:=allN (stepB xs) xs.length
theorem qkR {xs:List Int}(hl:xs.length≤1048576):Ev (fun n=>qd1 n xs) (incB xs):=by
 have hL:Ev (fun n=>qbE xs n 1) (bif incB xs then .nxt (max 1 xs.length:Int) else .ret false):=by
  by_cases h0:xs.length=0
  ·have hb:incB xs=true:=by unfold incB;rw[h0];rfl
   rw[hb];refine Ev.succ ?_;have:decide ((1:Int)<(xs.length:Int))=false:=by rw[h0];decide
   simp only[qbE,this,cond_false];exact Ev.now (by rw[h0];rfl)
  ·have:=qw1 (Lf:=qbE xs) (len:=xs.length) (i0:=1) (f:=stepB xs) (bad:=false) (fin:=.nxt (max 1 xs.length:Int)) (by omega)
    (Ev.succ (by
     simp only[qbE,ql (je _),cond_false];exact Ev.now (by congr 2;omega)))
    (fun j h1 hj X hX=>Ev.succ (by
     simp only[qbE,qk hj,cond_true,wS j,show(j:Int)-1=((j-1:Nat):Int) by omega,qF (show -9223372036854775808≤((j-1:Nat):Int) by omega) (by omega),qay (show j-1<xs.length by omega),qay hj,jd];unfold stepB;by_cases hc:at0 xs (j-1)<at0 xs j
     ·have e1:decide (at0 xs (j-1) ≥ at0 xs j)=false:=by simp;omega
      rw[e1];simp only[hc,decide_true,Bool.or_true,cond_true,cond_false];exact hX
     ·have e1:decide (at0 xs (j-1) ≥ at0 xs j)=true:=by simp;omega
      have e2:decide (j=0)=false:=by simp;omega
      rw[e1,e2];simp only[hc,decide_false,Bool.or_self,cond_true,cond_false];exact .done))
   have e:allN (fun j=>stepB xs (1+j)) (xs.length-1)=incB xs:=by
    unfold incB;rw[jk,qaC,qaC];constructor
    ·intro h j hj;cases j with
     | zero=>rfl
     | succ j=>have:=h j (by omega);rwa [Nat.add_comm] at this
    ·intro h j hj;exact h (1+j) (by omega)
   rw[e] at this;exact this
 unfold qd1;refine Ev.bind hL ?_;cases incB xs<;>exact .done
def lenB {α:Type}(xs:List α)(lo hi:Nat):Bool:=decide (lo≤xs.length)&&decide (xs.length≤hi)
theorem quK {α:Type}{xs:List α}{lo hi:Nat}:inI (xs.length:Int) (lo:Int) (hi:Int)=lenB xs lo hi:=by
 unfold inI lenB;rw[jk];simp
def axisB (xs:List Int):Bool:=lenB xs 1 4&&((xs.all fun x=>inI x 0 100000)&&incB xs)
theorem qtJ {xs:List Int}(hl:xs.length≤1048576):Ev (fun n=>qkL n xs) (axisB xs):=by
 simp only[qkL,qbB,jd,qdB,show inI (xs.length:Int) 1 4=lenB xs 1 4 from quK (lo:=1) (hi:=4)];unfold axisB;cases lenB xs 1 4
 ·exact .done
 ·refine Ev.tt Z (Ev.bind (qfD hl) ?_);cases (xs.all fun x=>inI x 0 100000)
  ·exact .done
  ·exact Ev.tt Z (Ev.bind (qkR hl) .done)
theorem qsr {xs:List Int}(hl:xs.length≤1048576):Ev (fun n=>qjN n xs) (axisB xs):=by
 have hL:Ev (fun n=>qen xs n 0) (bif allN (fun j=>inI (at0 xs j) 0 100000&&stepB xs j) xs.length then .nxt (xs.length:Int) else .ret false):=by
  refine qel ?_ (fun j hj X hX=>Ev.succ ?_)
  ·exact Ev.succ (by simp only[qen,ql (je _),cond_false];exact .done)
  ·simp only[qen,qk hj,cond_true,qay hj,jd,qcV,wS j];cases inI (at0 xs j) 0 100000
   ·exact .done
   ·simp only[jV,cond_false,jx];unfold stepB;by_cases h0:j=0
    ·subst h0;exact Ev.ff (by decide) hX
    ·simp only[show(j:Int)-1=((j-1:Nat):Int) by omega,qF (show -9223372036854775808≤((j-1:Nat):Int) by omega) (by omega),qay (show j-1<xs.length by omega),jd];have e2:decide (j=0)=false:=by simp;omega
     have e3:decide ((j:Int) > 0)=true:=by simp;omega
     rw[e2,e3];simp only[cond_true,Jj];by_cases hc:at0 xs (j-1)<at0 xs j
     ·have e1:decide (at0 xs (j-1) ≥ at0 xs j)=false:=by simp;omega
      rw[e1];simp only[hc,decide_true,cond_true,cond_false];exact hX
     ·have e1:decide (at0 xs (j-1) ≥ at0 xs j)=true:=by simp;omega
      rw[e1];simp only[hc,decide_false,cond_true,cond_false];exact .done
 have e:axisB xs=(allN (fun j=>inI (at0 xs j) 0 100000&&stepB xs j) xs.length&&lenB xs 1 4):=by
  unfold axisB incB;rw[qmX,qhK (d:=0),Bool.and_comm]
  rfl
 rw[e];unfold qjN;refine Ev.bind hL ?_;cases allN (fun j=>inI (at0 xs j) 0 100000&&stepB xs j) xs.length
 ·exact .done
 ·simp only[cond_true,qoJ,qpY,jx];exact Ev.now (by congr 1;unfold lenB;rw[jk];simp;omega)
def tableB (t:qx):Bool:=axisB t.Bi&&(axisB t.Bb&&(decide (t.Ba.length=t.Bi.length*t.Bb.length)&&(t.Ba.all fun x=>inI x (-1000000) 1000000)))
theorem qwZ {a b:Nat}(ha:a≤1048576)(hb:b≤1048576):W64 ((a:Int)*(b:Int))=((a*b:Nat):Int):=by
 have h:a*b≤1048576*1048576:=Nat.mul_le_mul ha hb;have e:(a:Int)*(b:Int)=((a*b:Nat):Int):=by simp
 rw[e];exact qF (by omega) (by omega)
theorem qwo {t:qx}(h:qjm t):Ev (fun n=>qlh n t) (tableB t):=by
 unfold qlh tableB;refine Ev.bind (qtJ h.Bi.len) ?_;cases axisB t.Bi
 ·exact .done
 ·refine Ev.tt Z (Ev.bind (qtJ h.Bb.len) ?_);cases axisB t.Bb
  ·exact .done
  ·rw[qwZ h.Bi.len h.Bb.len];have e:(((t.Ba.length:Nat):Int)==((t.Bi.length*t.Bb.length:Nat):Int))=decide (t.Ba.length=t.Bi.length*t.Bb.length):=by rw[jk];simp;omega
   rw[e];cases decide (t.Ba.length=t.Bi.length*t.Bb.length)
   ·exact .done
   ·exact Ev.tt Z (Ev.tt Z (Ev.bind (qfD h.Ba.len) .done))
theorem qu4 {t:qx}(h:qjm t):Ev (fun n=>qll n t) (tableB t):=by
 have hl:=h.Ba.len;have hL:Ev (fun n=>qfw t n 0) (bif (t.Ba.all fun x=>inI x (-1000000) 1000000) then .nxt (t.Ba.length:Int) else .ret false):=
  qp9 (fun n=>by simp only[qfw,ql (je _),cond_false]) (fun j hj X hX=>by
   simp only[qfw,qk hj,cond_true,qga hj,jd,qcV,wS j];cases inI t.Ba[j] (-1000000) 1000000
   ·exact .done
   ·exact hX)
 unfold qll tableB;refine Ev.bind (b:=!(axisB t.Bi&&(axisB t.Bb&&decide (t.Ba.length=t.Bi.length*t.Bb.length)))) ?_ ?_
 ·refine Ev.bind (qsr h.Bi.len) ?_;cases axisB t.Bi
  ·exact .done
  ·refine Ev.ff Z (Ev.bind (qsr h.Bb.len) ?_);cases axisB t.Bb
   ·exact .done
   ·refine Ev.ff Z (Ev.now ?_);rw[qwZ h.Bi.len h.Bb.len]
    congr 1
    rw[jk];simp;omega
 ·cases axisB t.Bi
  ·exact .done
  ·cases axisB t.Bb
   ·exact .done
   ·cases decide (t.Ba.length=t.Bi.length*t.Bb.length)
    ·exact .done
    ·refine Ev.ff Z (Ev.bind hL ?_);cases (t.Ba.all fun x=>inI x (-1000000) 1000000)<;>exact .done
end Go.Fw


namespace Go.Fw
open Go
set_option maxRecDepth 100000
instance:Inhabited qat:=⟨⟨ByteArray.empty,0,0,false⟩⟩
instance:Inhabited qx:=⟨⟨[],[],[]⟩⟩
instance:Inhabited qL:=⟨⟨0,0,0,0,[],[]⟩⟩
instance:Inhabited qA:=⟨⟨ByteArray.empty,0,[],[],[],0,0⟩⟩
instance:Inhabited qm:=⟨⟨ByteArray.empty,0,[]⟩⟩
instance:Inhabited qY:=⟨⟨ByteArray.empty,0,0⟩⟩
instance:Inhabited qH:=⟨⟨[],[],[],[]⟩⟩
theorem lastE {j m:Nat}(h:j<m)(hm:m≤1048576):((j:Int)==W64 ((m:Int)-1))=decide (j+1=m):=by
 rcases qAo h with h|h
 ·exact h
 ·omega
theorem qlw {α:Type}[Inhabited α]{xs:List α}{g:α→ByteArray}{j:Nat}(h:j<xs.length):strAt (xs.map g) j=g (gt xs j):=by
 rw[qpJ (by simpa using h),qgv h];simp
theorem qo1 {α:Type}{xs:List α}{g:α→ByteArray}{ok:α→Prop}(h:okL ok xs)(hg:∀ x,ok x→okS (g x)):okL okS (xs.map g):=
 ⟨by rw[jy];exact h.1,fun y hy=>by
  obtain⟨x,hx,rfl⟩:=List.mem_map.1 hy;exact hg x (h.2 x hx)⟩
theorem qmV {α β:Type}{xs:List α}{g:α→β}{j:Nat}(h:j<xs.length)(hl:xs.length≤1048576){y:β}:appS ((xs.take j).map g) [y]=V ((xs.take j).map g++[y]):=
 qcS (by simp;omega)
def pinB (ps:List qat)(j:Nat):Bool:=
 bif decide (j+1=ps.length) then((gt ps j).Bs==2)&&(((gt ps j).Bq==0)&&!(gt ps j).Bn) else((gt ps j).Bs==1)&&inI (gt ps j).Bq 0 500
def pinsB (ps:List qat):Bool:=allN (pinB ps) ps.length&&(lenB ps 2 5&&namesB (ps.map qat.Az))
def clkN (ps:List qat)(j:Nat):Nat:=cntP (fun i=>(gt ps i).Bn) j
theorem qwG {ps:List qat}(h:okL qoc ps):Ev (fun n=>qk4 n ps) (pinsB ps):=by
 have hl:=h.len;have hL:Ev (fun n=>qdo ps n ([]:List ByteArray) 0) (bif allN (pinB ps) ps.length then .nxt (ps.map qat.Az,(ps.length:Int)) else .ret false):=by
  refine loopN (Lf:=qdo ps) (S:=fun j=>(ps.take j).map qat.Az) (pinB ps) (fun n=>?_) (fun j hj hp X hX=>?_)
  ·simp only[qdo,ql (je _),cond_false,jG]
  ·simp only[qdo,qk hj,cond_true,qC hj,jd,qmV hj hl,qgy (g:=qat.Az) hj,lastE hj hl,bne,qb2,qdB,wS j];generalize hc:pinB ps j=c at hX ⊢;unfold pinB at hc;cases hd:decide (j+1=ps.length)
   ·rw[hd] at hc;simp only[cond_false] at hc ⊢;subst hc;exact Ev.okP (fun h1=>Ev.okP1 (fun h2=>hX (by rw[h1,h2];rfl)))
   ·rw[hd] at hc;simp only[cond_true] at hc ⊢;subst hc;refine Ev.okP (fun h1=>Ev.okP (fun h2=>Ev.chkP1 (fun h3=>hX (by rw[h1,h2,h3];rfl))))
 unfold qk4 pinsB;refine Ev.bind hL ?_;cases allN (pinB ps) ps.length
 ·exact .done
 ·simp only[cond_true,qcO,qdB,jd,show inI (ps.length:Int) 2 5=lenB ps 2 5 from quK (lo:=2) (hi:=5),jx];exact Ev.andP (fun _=>Ev.last (qkA (qo1 h (fun x hx=>hx.Az))))
def pinS (ps:List qat)(j:Nat):Bool:=allN (neB (ps.map qat.Az) j) j&&((nameB (gt ps j).Az&&inI (gt ps j).Bq 0 500)&&(bif decide (j+1=ps.length) then((gt ps j).Bs==2)&&(((gt ps j).Bq==0)&&!(gt ps j).Bn) else((gt ps j).Bs==1)))
theorem qAt {ps:List qat}:(lenB ps 2 5&&allN (pinS ps) ps.length)=pinsB ps:=by
 have e:namesB (ps.map qat.Az)=allN (fun j=>nameB (gt ps j).Az&&allN (neB (ps.map qat.Az) j) j) ps.length:=by
  unfold namesB;rw[jy];exact qi2 (fun j hj=>by rw[qlw hj])
 unfold pinsB;rw[e,←Bool.and_assoc,Bool.and_comm (allN (pinB ps) ps.length),Bool.and_assoc,←qmX]
 congr 1
 refine qi2 (fun j hj=>?_);unfold pinS pinB;cases hd:decide (j+1=ps.length)
 ·simp only[cond_false];cases allN (neB (ps.map qat.Az) j) j<;>cases nameB (gt ps j).Az<;>cases inI (gt ps j).Bq 0 500<;>cases ((gt ps j).Bs==1)<;>rfl
 ·simp only[cond_true];cases hcap:((gt ps j).Bq==0)
  ·simp
  ·have:inI (gt ps j).Bq 0 500=true:=by rw[beq_iff_eq] at hcap;rw[hcap];rfl
   rw[this];cases allN (neB (ps.map qat.Az) j) j<;>cases nameB (gt ps j).Az<;>cases ((gt ps j).Bs==2)<;>cases (gt ps j).Bn<;>rfl
theorem qwv {c:qA}(h:okL qoc c.Av):Ev (fun n=>qk9 n c) (bif pinsB c.Av then(((clkN c.Av c.Av.length:Nat):Int),true) else(0,false)):=by
 have hl:=h.len;have hL2:∀ j,j<c.Av.length→Ev (fun n=>qfy c (j:Int) (gt c.Av j) n 0) (bif allN (neB (c.Av.map qat.Az) j) j then .nxt (j:Int) else .ret (0,false)):=by
  intro j hj;refine qel ?_ (fun i hi X hX=>Ev.succ ?_)
  ·exact Ev.succ (by simp only[qfy,ql (je _),cond_false];exact .done)
  ·simp only[qfy,qk hi,cond_true,qC (show i<c.Av.length by omega),jd,qiz,wS i];unfold neB;rw[qlw (g:=qat.Az) (show i<c.Av.length by omega),qlw (g:=qat.Az) hj];exact Ev.chkP1 (fun _=>hX)
 have hL1:Ev (fun n=>qdm c n 0 0) (bif allN (pinS c.Av) c.Av.length then .nxt (((clkN c.Av c.Av.length:Nat):Int),(c.Av.length:Int)) else .ret (0,false)):=by
  refine loopN (Lf:=qdm c) (S:=fun j=>((clkN c.Av j:Nat):Int)) (pinS c.Av) (fun n=>?_) (fun j hj hp X hX=>?_)
  ·simp only[qdm,ql (je _),cond_false]
  ·have hn:clkN c.Av j≤j:=qgz;have ejl:((j:Int)==W64 ((c.Av.length:Int)-1))=decide (j+1=c.Av.length):=lastE hj hl;have elt:decide ((j:Int)<W64 ((c.Av.length:Int)-1)) = !decide (j+1=c.Av.length):=by
    rw[qF (by omega) (by omega),jk];simp;omega
   simp only[qdm,qk hj,cond_true,qC hj,jd,wS j,qc9 (show clkN c.Av j<9223372036854775807 by omega),ejl,elt,qcV];unfold pinS;refine Ev.bind (hL2 j hj) ?_;cases ha:allN (neB (c.Av.map qat.Az) j) j
   ·exact .done
   ·simp only[cond_true,jx];refine Ev.chkT ?_ (fun h1=>?_)
    ·exact Ev.or (qno (qof h hj).Az) (fun _=>.done)
    ·refine Ev.chkT1 ?_ (fun h2=>?_)
     ·cases decide (j+1=c.Av.length)
      ·exact .done
      ·simp only[cond_true,jV,cond_false,bne,qb2];cases ((gt c.Av j).Bs==2)<;>cases ((gt c.Av j).Bq==0)<;>cases (gt c.Av j).Bn<;>exact .done
     ·have hX:=hX (by unfold pinS;rw[ha,h1,h2];rfl);have hck:clkN c.Av (j+1)=clkN c.Av j+(bif (gt c.Av j).Bn then 1 else 0):=rfl;rw[hck] at hX;cases hc:(gt c.Av j).Bn
      ·rw[hc] at hX;exact Ev.ff Z hX
      ·rw[hc] at hX;exact Ev.tt Z hX
 rw[←qAt];unfold qk9;refine Ev.guard ?_ (fun h1=>?_)
 ·unfold lenB;have e1:decide ((c.Av.length:Int)<2) = !decide (2≤c.Av.length):=by rw[jk];simp;omega
  have e2:decide ((c.Av.length:Int) > 5) = !decide (c.Av.length≤5):=by rw[jk];simp;omega
  rw[e1,e2];cases decide (2≤c.Av.length)<;>cases decide (c.Av.length≤5)<;>exact .done
 ·refine Ev.bind hL1 ?_;cases allN (pinS c.Av) c.Av.length<;>exact .done
def mnL (xs:List Int):Int:=(xs.drop 1).foldl (fun m y=>if y<m then y else m) (at0 xs 0)
def mxL (xs:List Int):Int:=(xs.drop 1).foldl (fun m y=>if y > m then y else m) (at0 xs 0)
theorem qsB {t:qx}(h:tableB t=true):1≤t.Ba.length:=by
 unfold tableB axisB lenB at h;simp only[jf,decide_eq_true_eq] at h;obtain⟨⟨⟨h1,_⟩,_⟩,⟨⟨h2,_⟩,_⟩,h3,_⟩:=h;rw[h3];exact Nat.mul_pos h1 h2
theorem qAf {xs:List Int}(h1:1≤xs.length)(hl:xs.length≤1048576):Ev (fun n=>qil n xs) (mnL xs):=by
 have hL:=(qqU (Lf:=fun n t j=>qdf xs n t j) (xs:=xs) (step:=fun(m y:Int)=>if y<m then y else m) (fin:=fun t=>(t,(xs.length:Int))) 1 (at0 xs 0) (fun _ _=>True) h1 trivial (fun _ _ _ _=>trivial)
  (fun n t=>by simp only[qdf,ql (je _),cond_false])
  (fun j t hj _ X hX=>by simpa only[qdf,qk hj,cond_true,qga hj,jd,wS j] using hX)).1
 unfold qil;rw[show decide ((xs.length:Int)<1)=false by simp;omega,show idx xs (0:Int)=V (at0 xs 0) from qay (j:=0) (by omega)];simp only[cond_false,jd];exact Ev.bind hL .done
theorem qwh {t:qx}(h:qjm t):Ev (fun n=>qh8 n t) (bif tableB t then(⟨mnL t.Ba,mxL t.Ba⟩,0) else(⟨0,0⟩,1)):=by
 unfold qh8;refine Ev.chk1 (qu4 h) (fun hb=>?_);have h1:=qsB hb;have hl:=h.Ba.len;have hL:=(qqU (Lf:=fun n (t':Int×Int) j=>qdc t n t'.1 t'.2 j) (xs:=t.Ba) (step:=fun(m:Int×Int) y=>(if y<m.1 then y else m.1,if y > m.2 then y else m.2)) (fin:=fun t'=>(t'.1,t'.2,(t.Ba.length:Int))) 1 (at0 t.Ba 0,at0 t.Ba 0) (fun _ _=>True) h1 trivial (fun _ _ _ _=>trivial)
  (fun n t=>by simp only[qdc,ql (je _),cond_false])
  (fun j t hj _ X hX=>by simpa only[qdc,qk hj,cond_true,qga hj,jd,wS j] using hX)).1
 have hf:∀ (ys:List Int) (a b:Int),ys.foldl (fun(m:Int×Int) y=>(if y<m.1 then y else m.1,if y > m.2 then y else m.2)) (a,b)=(ys.foldl (fun m y=>if y<m then y else m) a,ys.foldl (fun m y=>if y > m then y else m) b):=by
  intro ys
  induction ys with
  | nil=>intro a b;rfl
  | cons y ys ih=>intro a b;simp only[List.foldl_cons,ih]
 rw[hf] at hL;rw[show idx t.Ba (0:Int)=V (at0 t.Ba 0) from qay (j:=0) (by omega)];simp only[jd];exact Ev.bind hL .done
def tabB (pos:Bool)(t:qx):Bool:=tableB t&&(!pos || decide (0≤mnL t.Ba))
def tablesB (ts:List qx)(pos:Bool):Bool:=decide (ts.length=2)&&ts.all (tabB pos)
theorem qnA {ts:List qx}{pos:Bool}(h:okL qjm ts):Ev (fun n=>qge n ts pos) (tablesB ts pos):=by
 have hl:=h.len;have h1:Ev (fun n=>qaL n ts pos) (ixL (fun x=>!tabB pos x) ts):=
  qgm (fin:=(ts.length:Int)) (Lf:=qaa ts pos) (pf:=fun n x=>qik n x pos) (fun x hx=>by
    unfold qik tabB;refine Ev.or (qwo (h.2 x hx)) (fun hb=>?_);cases pos
    ·exact .done
    ·refine Ev.tt Z (Ev.bind (qAf (qsB hb) (h.2 x hx).Ba.len) (Ev.now ?_))
     congr 1
     rw[jk];simp)
   (fun n=>by simp only[qaa,ql (je _),cond_false])
   (fun n j x hx=>by
    have hj:=(List.getElem?_eq_some_iff.1 hx).1;simp only[qaa,qk hj,cond_true,qan hx,jd,wS j])
   (fun n=>by unfold qaL;congr 1;funext o;cases o<;>rfl)
 unfold qge qbh tablesB;rw[show((ts.length:Int)==2)=decide (ts.length=2) by rw[jk];simp;omega];refine Ev.andP (fun _=>Ev.bind (Ev.bind h1 (Ev.now Z)) (Ev.now ?_));rw[qpm,qr1]
theorem qjD {ts:List qx}{pos:Bool}(h:okL qjm ts):Ev (fun n=>qdP n ts pos) (tablesB ts pos):=by
 unfold qdP tablesB;rw[show((ts.length:Int) != 2) = !decide (ts.length=2) by rw[jk];simp;omega];simp only[qb2];refine Ev.andP (fun h2=>?_);have h2:ts.length=2:=by simpa using h2
 have hL:Ev (fun n=>qc6 ts pos n 0) (bif allN (fun j=>tabB pos (gt ts j)) ts.length then .nxt (2:Int) else .ret false):=by
  refine qel (len:=ts.length) ?_ (fun j hj X hX=>Ev.succ ?_)
  ·rw[h2];exact Ev.succ (by simp only[qc6];exact .done)
  ·simp only[qc6,show decide ((j:Int)<2)=true by simp;omega,cond_true,qC hj,jd,wS j];refine Ev.bind (qwh (qof h hj)) ?_;unfold tabB;cases tableB (gt ts j)
   ·exact .done
   ·simp only[cond_true,jx];refine Ev.ff Z ?_;cases pos
    ·exact hX
    ·refine Ev.tt Z ?_;rw[show decide (mnL (gt ts j).Ba<0) = !decide (0≤mnL (gt ts j).Ba) by rw[jk];simp];simp only[qb2];exact Ev.okP1 (fun _=>hX)
 rw[qjL];refine Ev.bind hL ?_;cases allN (fun j=>tabB pos (gt ts j)) ts.length<;>exact .done
end Go.Fw


namespace Go.Fw
open Go
set_option maxRecDepth 100000
theorem qfW {α:Type}[Inhabited α]{xs:List α}{x:Int}(h0:0≤x)(h1:x<xs.length):idx xs x=V (gt xs x.toNat):=by
  have:=qC (xs:=xs) (j:=x.toNat) (by omega);rwa [←qfn h0] at this
theorem qtM {q:Nat→Bool}{m n:Nat}(h:m≤n):cntP q m≤cntP q n:=by
  induction n with
  | zero=>
    obtain rfl:m=0:=by omega
    exact je _
  | succ n ih=>
    rcases Nat.lt_or_eq_of_le h with h|rfl
    · exact Jb (ih (by omega)) (Nat.le_add_right _ _)
    · exact je _
theorem qmu {m k:Nat}:decide ((m:Int)≤(k:Int))=decide (m≤k):=by rw[jk];simp
theorem qvd {q:Nat→Bool}{n i j:Nat}(hi:i<j)(hj:j<n)(h1:q i=true)(h2:q j=true):2≤cntP q n:=by
  have e1:cntP q (i+1)=cntP q i+1:=by rw[cntP,h1];rfl
  have e2:cntP q (j+1)=cntP q j+1:=by rw[cntP,h2];rfl
  have m1:=qtM (q:=q) (show i+1≤j by omega);have m2:=qtM (q:=q) (show j+1≤n by omega);omega
theorem qvN {q:Nat→Bool}{n i j:Nat}(hn:cntP q n≤1)(hi:i<n)(hj:j<n)(h1:q i=true)(h2:q j=true):i=j:=by
  rcases Nat.lt_trichotomy i j with h|h|h
  · have:=qvd h hj h1 h2;omega
  · exact h
  · have:=qvd h hi h2 h1;omega
def clkIx (ps:List qat):Int:=ixL (fun p=>p.Bn) ps
def clkAt (ps:List qat)(x:Int):Bool:=(gt ps x.toNat).Bn
theorem qy4 {c:qA}(hl:c.Av.length≤1048576):Ev (fun n=>qiQ n c) (clkIx c.Av):=by
  unfold qiQ;refine Ev.bind (b:=clkIx c.Av) ?_ .done;exact qgm (fin:=(c.Av.length:Int)) (Lf:=qae c.Av) (pf:=fun n x=>qju n x) (fun _ _=>.done)
    (fun n=>by simp only[qae,ql (je _),cond_false])
    (fun n j x hx=>by
      have hj:=(List.getElem?_eq_some_iff.1 hx).1;simp only[qae,qk hj,cond_true,qan hx,jd,wS j])
    (fun n=>by unfold qbC;congr 1;funext o;cases o<;>rfl)
def arcI (ps:List qat)(a:qL):Bool:=
  bif (a.Ay==4) || (a.Ay==5) then
    (a.Bl==0)&&(((a.Aq.length:Int)==0)&&(tablesB a.Bj false&&((a.Bf==clkIx ps)&&(decide (a.Bf ≥ 0)&&(inI a.To 0 (ps.length-2)&&!(a.To==a.Bf))))))
  else
    (tablesB a.Bj true&&(tablesB a.Aq true&&((a.To==(ps.length:Int)-1)&&inI a.Bf 0 (ps.length-2)))) &&
      (bif a.Ay==1 then !clkAt ps a.Bf&&inI a.Bl 1 3 else(bif (a.Ay==2) || (a.Ay==3) then clkAt ps a.Bf&&(a.Bl==0) else false))
def arcS (ps:List qat)(a:qL):Bool:=
  (inI a.Bf 0 (ps.length-2)&&inI a.To 0 (ps.length-1)) &&
    (bif a.Ay==1 then !clkAt ps a.Bf&&((a.To==(ps.length:Int)-1)&&(inI a.Bl 1 3&&(tablesB a.Bj true&&tablesB a.Aq true)))
     else(bif (a.Ay==2) || (a.Ay==3) then clkAt ps a.Bf&&((a.To==(ps.length:Int)-1)&&((a.Bl==0)&&(tablesB a.Bj true&&tablesB a.Aq true)))
     else(bif (a.Ay==4) || (a.Ay==5) then clkAt ps a.Bf&&(decide (a.To<(ps.length:Int)-1)&&(!clkAt ps a.To&&((a.Bl==0)&&(tablesB a.Bj false&&((a.Aq.length:Int)==0))))) else false)))
theorem qro {c d:Bool}:(bif c then V c else V d)=V (c || d):=by cases c<;>rfl
theorem qvo {c d:Bool}:(bif c then V true else V d)=V (c || d):=by cases c<;>rfl
theorem qwU {n:Nat}{k:Int}:qlg n k=V ((k==4) || (k==5)):=by simp only[qlg,qvo]
theorem qzm {c:qA}{a:qL}(h:okL qoc c.Av)(ha:qpE a)(hm:2≤c.Av.length):Ev (fun n=>qiR n c a) (arcI c.Av a):=by
  have hl:=h.len;have e1:W64 ((c.Av.length:Int)-1)=(c.Av.length:Int)-1:=qdU (by omega);have e2:W64 ((c.Av.length:Int)-1-1)=(c.Av.length:Int)-2:=by rw[qF (by omega) (by omega)];omega
  simp only[qiR,qwU,jd,qhv,qeT,qcO,e1,e2,qdB,qro,bne];unfold arcI;refine Ev.iff (fun _=>Ev.last ?_) (fun _=>Ev.guardB ?_ (fun hb=>?_))
  · exact Ev.andP fun _=>Ev.andP fun _=>Ev.and (qnA ha.Bj) fun _=>Ev.bind (qy4 hl) (Ev.andP fun _=>Ev.andP fun _=>Ev.andP fun _=>.done)
  · refine Ev.or (qnA ha.Bj) fun _=>Ev.or (qnA ha.Aq) fun _=>?_
    simp only[qb2];exact Ev.orBP fun _=>.done
  · have hf:0≤a.Bf∧a.Bf≤(c.Av.length:Int)-2:=by
      simp only[jf,qa3] at hb;exact hb.2.2.2
    simp only[qfW hf.1 (show a.Bf<(c.Av.length:Int) by omega),jd];exact Ev.iff (fun _=>Ev.andP fun _=>.done) (fun _=>Ev.iff (fun _=>Ev.andP fun _=>.done) (fun _=>.done))
theorem qyi {c:qA}{a:qL}(h:okL qoc c.Av)(ha:qpE a)(hm:2≤c.Av.length):Ev (fun n=>qmg n c a) (arcS c.Av a):=by
  have hl:=h.len;have e1:W64 ((c.Av.length:Int)-1)=(c.Av.length:Int)-1:=qdU (by omega);have e2:W64 ((c.Av.length:Int)-1-1)=(c.Av.length:Int)-2:=by rw[qF (by omega) (by omega)];omega
  simp only[qmg,jd,e1,e2,qcV,qro];unfold arcS;refine Ev.guardB ?_ (fun hb=>?_)
  · simp only[qb2]
    exact Ev.orBP fun _=>.done
  · have hf:(0≤a.Bf∧a.Bf≤(c.Av.length:Int)-2)∧(0≤a.To∧a.To≤(c.Av.length:Int)-1):=by
      simp only[jf,qa3] at hb;exact hb
    simp only[qfW hf.1.1 (show a.Bf<(c.Av.length:Int) by omega),qfW hf.2.1 (show a.To<(c.Av.length:Int) by omega),jd];refine Ev.iff (fun _=>?_) (fun _=>Ev.iff (fun _=>?_) (fun _=>Ev.iff (fun _=>?_) (fun _=>.done)))
    · exact Ev.andP fun _=>Ev.andP fun _=>Ev.andP fun _=>Ev.and (qjD ha.Bj) fun _=>Ev.last (qjD ha.Aq)
    · exact Ev.andP fun _=>Ev.andP fun _=>Ev.andP fun _=>Ev.and (qjD ha.Bj) fun _=>Ev.last (qjD ha.Aq)
    · exact Ev.andP fun _=>Ev.andP fun _=>Ev.andP fun _=>Ev.andP fun _=>Ev.and (qjD ha.Bj) fun _=>.done
theorem qq1 {ps:List qat}(h1:clkN ps ps.length≤1){x:Int}(hx:0≤x):clkIx ps=x↔x<ps.length∧clkAt ps x=true:=by
  unfold clkIx ixL;cases hf:ps.findIdx? (fun p=>p.Bn) with
  | some j=>
    obtain⟨hj,hp,_⟩:=List.findIdx?_eq_some_iff_getElem.1 hf;have hpj:(gt ps j).Bn=true:=by rw[qgv hj];exact hp
    constructor
    · intro e
      have e:(j:Int)=x:=e;subst e;exact⟨by omega,by unfold clkAt;rw[jn];exact hpj⟩
    · rintro⟨hl,hc⟩
      have:=qvN h1 hj (show x.toNat<ps.length by omega) hpj hc;show(j:Int)=x;omega
  | none=>
    have hn:=List.findIdx?_eq_none_iff.1 hf;constructor
    · intro e
      have e:(-1:Int)=x:=e;omega
    · rintro⟨hl,hc⟩
      have hxl:x.toNat<ps.length:=by omega
      unfold clkAt at hc;rw[qgv hxl] at hc;have:=hn _ (jq hxl);rw[hc] at this;exact absurd this (by decide)
theorem qhS {ps:List qat}(h:pinsB ps=true):(2≤ps.length∧ps.length≤5)∧clkAt ps ((ps.length:Int)-1)=false:=by
  unfold pinsB lenB at h;simp only[jf,decide_eq_true_eq] at h;refine⟨h.2.1,?_⟩;have h1:=qaC.1 h.1 (ps.length-1) (by omega);unfold pinB at h1;rw[show decide (ps.length-1+1=ps.length)=true by simp;omega] at h1;simp only[cond_true,jf,jF] at h1;unfold clkAt;rw[show((ps.length:Int)-1).toNat=ps.length-1 by omega];exact h1.2.2
theorem qy7 {ps:List qat}{a:qL}(h:pinsB ps=true)(h1:clkN ps ps.length≤1):arcI ps a=arcS ps a:=by
  obtain⟨⟨hm,hm5⟩,hlast⟩:=qhS h;rw[jk];unfold arcI arcS;cases h45:((a.Ay==4) || (a.Ay==5)) with
  | true=>
    have k1:(a.Ay==1)=false:=by simp at h45 ⊢;omega
    have k23:((a.Ay==2) || (a.Ay==3))=false:=by simp at h45 ⊢;omega
    rw[k1,k23];simp only[cond_true,cond_false,jf,qa3,decide_eq_true_eq,beq_iff_eq,jF,beq_eq_false_iff_ne,ne_eq];constructor
    · rintro⟨hs,hsl,hd,hf,hf0,ht,hne⟩
      obtain⟨hl,hc⟩:=(qq1 h1 hf0).1 hf.symm;have hfl:a.Bf ≠ (ps.length:Int)-1:=by intro e;rw[e,hlast] at hc;cases hc
      refine⟨⟨⟨hf0,by omega⟩,⟨ht.1,by omega⟩⟩,hc,by omega,?_,hs,hd,hsl⟩;cases hct:clkAt ps a.To with
      | false=>rfl
      | true=>
        have:=(qq1 h1 ht.1).2 ⟨by omega,hct⟩;omega
    · rintro⟨⟨hf,ht⟩,hc,hlt,hct,hs,hd,hsl⟩
      have:=(qq1 h1 hf.1).2 ⟨by omega,hc⟩;refine⟨hs,hsl,hd,this.symm,hf.1,⟨ht.1,by omega⟩,?_⟩;intro e;rw[e,hc] at hct;cases hct
  | false=>
    simp only[cond_false,jf,qa3,beq_iff_eq];cases (a.Ay==1)
    · cases ((a.Ay==2) || (a.Ay==3))
      · simp
      · simp only[cond_true,cond_false,jf,beq_iff_eq]
        constructor
        · rintro⟨⟨h1,h2,h3,h4⟩,h5,h6⟩
          exact⟨⟨h4,by omega⟩,h5,h3,h6,h1,h2⟩
        · rintro⟨⟨h4,h7⟩,h5,h3,h6,h1,h2⟩
          exact⟨⟨h1,h2,h3,h4⟩,h5,h6⟩
    · simp only[cond_true,jf,qa3,jF,beq_iff_eq]
      constructor
      · rintro⟨⟨h1,h2,h3,h4⟩,h5,h6⟩
        exact⟨⟨h4,by omega⟩,h5,h3,h6,h1,h2⟩
      · rintro⟨⟨h4,h7⟩,h5,h3,h6,h1,h2⟩
        exact⟨⟨h1,h2,h3,h4⟩,h5,h6⟩
theorem qtF {ps:List qat}{a:qL}(h:arcS ps a=true):1≤a.Ay∧a.Ay≤5:=by
  unfold arcS at h;rw[jf] at h;have h:=h.2;cases h1:(a.Ay==1)
  · cases h2:((a.Ay==2) || (a.Ay==3))
    · cases h4:((a.Ay==4) || (a.Ay==5))
      · rw[h1,h2,h4] at h;cases h
      · simp at h4;omega
    · simp at h2;omega
  · simp at h1;omega
def sameArc (x y:qL):Bool:=(x.Ay==y.Ay)&&((x.Bf==y.Bf)&&(x.To==y.To))
def newArc (ar:List qL)(j:Nat):Bool:=allN (fun i=>!sameArc (gt ar i) (gt ar j)) j
theorem qwH {c:qA}(h:okL qoc c.Av)(ha:okL qpE c.As)(hm:2≤c.Av.length):Ev (fun n=>qhu n c) (allN (fun j=>arcI c.Av (gt c.As j)&&newArc c.As j) c.As.length&&decide (c.As.length≤8)):=by
  have hl:=ha.len;have h1:∀ (ar:List qL) (y:qL),ar.length≤1048576→Ev (fun n=>qaH n ar y) (ar.any fun x=>sameArc x y):=by
    intro ar y hl;unfold qaH;refine Ev.bind (b:=ixL (fun x=>sameArc x y) ar) (qgm (fin:=(ar.length:Int)) (Lf:=qZ ar y) (pf:=fun n x=>qf4 n x y) (fun x _=>?_)
      (fun n=>by simp only[qZ,ql (je _),cond_false])
      (fun n j x hx=>by
        have hj:=(List.getElem?_eq_some_iff.1 hx).1;simp only[qZ,qk hj,cond_true,qan hx,jd,wS j])
      (fun n=>by unfold qbm;congr 1;funext o;cases o<;>rfl)) (Ev.now (by rw[qpm]))
    unfold qf4 sameArc;exact Ev.andP fun _=>Ev.andP fun _=>.done
  have hL:Ev (fun n=>qcJ c n 0) (bif allN (fun j=>arcI c.Av (gt c.As j)&&newArc c.As j) c.As.length then .nxt (c.As.length:Int) else .ret false):=by
    refine qel ?_ (fun j hj X hX=>Ev.succ ?_)
    · exact Ev.succ (by simp only[qcJ,ql (je _),cond_false];exact .done)
    · simp only[qcJ,qk hj,cond_true,qC hj,jd,qxT (Nat.le_of_lt hj),wS j]
      refine Ev.chk (qzm h (qof ha hj) hm) fun _=>Ev.chkT1 ?_ (fun _=>hX);refine(h1 _ _ (by simp;omega)).cast ?_;rw[qzi (Nat.le_of_lt hj)];rfl
  unfold qhu;refine Ev.bind hL ?_;cases allN (fun j=>arcI c.Av (gt c.As j)&&newArc c.As j) c.As.length
  · exact .done
  · refine Ev.now ?_
    show V (decide ((c.As.length:Int)≤((8:Nat):Int)))=V (true&&decide (c.As.length≤8));rw[qmu,jx]
def hasB (ar:List qL)(k:Int):Bool:=ar.any fun a=>a.Ay==k
theorem qqy {c:qA}{k:Int}(hl:c.As.length≤1048576):Ev (fun n=>qdJ n c k) (hasB c.As k):=by
  unfold qdJ qbA;exact Ev.last (Ev.bind (b:=ixL (fun x=>x.Ay==k) c.As) (qgm (fin:=(c.As.length:Int)) (Lf:=qaj c.As k) (pf:=fun n x=>qkU n x k) (fun x _=>.done)
      (fun n=>by simp only[qaj,ql (je _),cond_false])
      (fun n j x hx=>by
        have hj:=(List.getElem?_eq_some_iff.1 hx).1;simp only[qaj,qk hj,cond_true,qan hx,jd,wS j])
      (fun n=>by unfold qbK;congr 1;funext o;cases o<;>rfl)) (Ev.now (by rw[qpm];rfl)))
def kindN (ar:List qL)(k:Nat)(j:Nat):Nat:=cntP (fun i=>(gt ar i).Ay==(k:Int)) j
theorem qty {ar:List qL}{k:Nat}:decide (((kindN ar k ar.length:Nat):Int) > 0)=hasB ar k:=by
  rw[show decide (((kindN ar k ar.length:Nat):Int) > 0)=decide (0<kindN ar k ar.length) by simp];unfold kindN hasB;rw[qu2,qwA]
theorem qwu {ar:List qL}{k:Nat}:(((kindN ar k ar.length:Nat):Int)==0) = !hasB ar k:=by
  rw[←qty,jk];simp
theorem quW {c:qA}(ha:okL qpE c.As)(hk:∀ j,j<c.As.length→1≤(gt c.As j).Ay∧(gt c.As j).Ay≤5):Ev (fun n=>qkh n c) (vecC (fun k=>kindN c.As k c.As.length) 6):=by
  have hl:=ha.len;have hL:Ev (fun n=>qdt c n (vecC (fun _=>0) 6) 0) (vecC (fun k=>kindN c.As k c.As.length) 6,(c.As.length:Int)):=by
    refine loopF (Lf:=qdt c) (S:=fun j=>vecC (fun k=>kindN c.As k j) 6) (len:=c.As.length) (fun n=>?_) (fun j hj X hX=>?_)
    · simp only[qdt,ql (je _),cond_false]
    · obtain⟨k1,k5⟩:=hk j hj
      have ek:(gt c.As j).Ay=(((gt c.As j).Ay.toNat:Nat):Int):=qfn (by omega);have hc:kindN c.As (gt c.As j).Ay.toNat j≤j:=qgz;simp only[qdt,qk hj,cond_true,qC hj,jd,wS j];rw[ek,qlO (show(gt c.As j).Ay.toNat<6 by omega)];simp only[jd];rw[qtZ (c:=fun k=>kindN c.As k j) (by show kindN c.As _ j<_;omega)];have:vecC (fun i=>kindN c.As i j+(bif decide ((gt c.As j).Ay.toNat=i) then 1 else 0)) 6=vecC (fun k=>kindN c.As k (j+1)) 6:=by
        refine ql2 (fun k _=>?_);show _=kindN c.As k j+(bif (gt c.As j).Ay==(k:Int) then 1 else 0)
        congr 2
        rw[jk];simp;omega
      rw[this];exact hX
  unfold qkh;rw[show mkS 6 (0:Int)=V (vecC (fun _=>0) 6) from qoR (m:=6) (by omega)];simp only[jd];exact Ev.bind hL .done
def kindB (c:qA):Bool:=
  bif c.Ay==1 then(((clkN c.Av c.Av.length:Nat):Int)==0)&&(((c.Bk.length:Int)==((2 ^ (c.Av.length-1):Nat):Int))&&(c.Bk.all fun x=>inI x 0 1))
  else bif c.Ay==2 then(((clkN c.Av c.Av.length:Nat):Int)==1)&&(((c.Bk.length:Int)==0)&&(!hasB c.As 1&&!(hasB c.As 2==hasB c.As 3)))
  else bif c.Ay==3 then(((clkN c.Av c.Av.length:Nat):Int)==1)&&(((c.Bk.length:Int)==0)&&(hasB c.As 1&&(hasB c.As 2&&!hasB c.As 3)))
  else false
theorem qtv {c:qA}(h:kindB c=true):clkN c.Av c.Av.length≤1:=by
  unfold kindB at h;cases h1:(c.Ay==1)
  · cases h2:(c.Ay==2)
    · cases h3:(c.Ay==3)
      · rw[h1,h2,h3] at h;cases h
      · rw[h1,h2,h3] at h
        simp only[cond_true,cond_false,jf,beq_iff_eq] at h;omega
    · rw[h1,h2] at h
      simp only[cond_true,cond_false,jf,beq_iff_eq] at h;omega
  · rw[h1] at h
    simp only[cond_true,jf,beq_iff_eq] at h;omega
theorem quX {m:Nat}(h1:2≤m)(h2:m≤5):shlS 1 (W64 ((m:Int)-1))=V ((2 ^ (m-1):Nat):Int)∧shlS 1 (IntKind.wrap .u64 (W64 ((m:Int)-1)))=V ((2 ^ (m-1):Nat):Int):=by
  have:m=2∨m=3∨m=4∨m=5:=by omega
  rcases this with rfl|rfl|rfl|rfl<;>exact⟨by decide,by decide⟩
theorem qvB {c:qA}(hc:qoZ c)(hm:2≤c.Av.length)(hm5:c.Av.length≤5):Ev (fun n=>qgR n c) (kindB c):=by
  have hl:=hc.Av.len;have hL:Ev (fun n=>qbo c n 0 0) (((clkN c.Av c.Av.length:Nat):Int),(c.Av.length:Int)):=by
    refine loopF (Lf:=qbo c) (S:=fun j=>((clkN c.Av j:Nat):Int)) (len:=c.Av.length) (fun n=>?_) (fun j hj X hX=>?_)
    · simp only[qbo,ql (je _),cond_false]
    · have hn:clkN c.Av j≤j:=qgz
      simp only[qbo,qk hj,cond_true,qC hj,jd,wS j,qc9 (show clkN c.Av j<9223372036854775807 by omega)];have hck:clkN c.Av (j+1)=clkN c.Av j+(bif (gt c.Av j).Bn then 1 else 0):=rfl;rw[hck] at hX;cases hc:(gt c.Av j).Bn
      · rw[hc] at hX;exact Ev.ff Z hX
      · rw[hc] at hX;exact Ev.tt Z hX
  unfold qgR kindB;refine Ev.bind hL ?_;simp only[qeT,qcO,jd,(quX hm hm5).1];have hal:=hc.As.len;refine Ev.iff (fun _=>?_) (fun _=>Ev.iff (fun _=>?_) (fun _=>Ev.iff (fun _=>?_) (fun _=>.done)))
  · exact Ev.andP fun _=>Ev.andP fun _=>Ev.last (qfD hc.Bk.len)
  · exact Ev.andP fun _=>Ev.andP fun _=>Ev.bind (qqy hal) (Ev.andP fun _=>Ev.bind (qqy hal) (Ev.bind (qqy hal) .done))
  · exact Ev.andP fun _=>Ev.andP fun _=>Ev.and (qqy hal) fun _=>Ev.and (qqy hal) fun _=>Ev.bind (qqy hal) .done
def cellB (c:qA):Bool:=
  nameB c.Az&&(pinsB c.Av&&((allN (fun j=>arcI c.Av (gt c.As j)&&newArc c.As j) c.As.length&&decide (c.As.length≤8))&&(inI c.Bx 0 100000&&(inI c.Br 0 100000&&kindB c))))
theorem qxP {c:qA}(hc:qoZ c):Ev (fun n=>qmB n c) (cellB c):=by
  simp only[qmB,qqL hc.Az,qdB,jd];unfold cellB;refine Ev.andP fun _=>Ev.and (qwG hc.Av) fun hp=>?_;obtain⟨⟨hm,hm5⟩,_⟩:=qhS hp;exact Ev.and (qwH hc.Av hc.As hm) fun _=>Ev.andP fun _=>Ev.andP fun _=>Ev.last (qvB hc hm hm5)
theorem qwi {c:qA}(hc:qoZ c):Ev (fun n=>qmx n c) (cellB c):=by
  have hal:=hc.As.len;have htl:=hc.Bk.len;have e:cellB c=((pinsB c.Av&&(nameB c.Az&&(decide (c.As.length≤8)&&(inI c.Bx 0 100000&&inI c.Br 0 100000))))&&(allN (fun j=>arcS c.Av (gt c.As j)&&newArc c.As j) c.As.length&&kindB c)):=by
    unfold cellB;cases hk:kindB c
    · simp
    · cases hp:pinsB c.Av
      · simp
      · rw[qi2 (fun j _=>by rw[qy7 hp (qtv hk)])]
        cases nameB c.Az<;>cases allN (fun j=>arcS c.Av (gt c.As j)&&newArc c.As j) c.As.length<;>cases decide (c.As.length≤8)<;>cases inI c.Bx 0 100000<;>cases inI c.Br 0 100000<;>rfl
  rw[e];unfold qmx;refine Ev.bind (qwv hc.Av) ?_;cases hp:pinsB c.Av
  · exact .done
  · obtain⟨⟨hm,hm5⟩,_⟩:=qhS hp
    simp only[cond_true,jx,jV,cond_false];refine Ev.guardB ?_ (fun _=>?_)
    · simp only[qcV,jd,qb2]
      refine Ev.orB (qno hc.Az) fun _=>?_;rw[show decide ((c.As.length:Int) > 8) = !decide (c.As.length≤8) by rw[jk];simp;omega,qb2];exact Ev.orBP fun _=>Ev.orBP fun _=>.done
    · have hL2:∀ j,j<c.As.length→Ev (fun n=>qdS c (j:Int) (gt c.As j) n 0) (bif newArc c.As j then .nxt (j:Int) else .ret false):=by
        intro j hj;refine qel ?_ (fun i hi X hX=>Ev.succ ?_)
        · exact Ev.succ (by simp only[qdS,ql (je _),cond_false];exact .done)
        · simp only[qdS,qk hi,cond_true,qC (show i<c.As.length by omega),jd,wS i]
          unfold sameArc;cases ((gt c.As i).Ay==(gt c.As j).Ay)
          · exact hX
          · cases ((gt c.As i).Bf==(gt c.As j).Bf)
            · exact hX
            · cases ((gt c.As i).To==(gt c.As j).To)
              · exact hX
              · exact .done
      have hL1:Ev (fun n=>qf9 c n 0) (bif allN (fun j=>arcS c.Av (gt c.As j)&&newArc c.As j) c.As.length then .nxt (c.As.length:Int) else .ret false):=by
        refine qel ?_ (fun j hj X hX=>Ev.succ ?_)
        · exact Ev.succ (by simp only[qf9,ql (je _),cond_false];exact .done)
        · simp only[qf9,qk hj,cond_true,qC hj,jd,wS j]
          refine Ev.chk (qyi hc.Av (qof hc.As hj) hm) fun _=>Ev.bind (hL2 j hj) ?_;cases newArc c.As j
          · exact .done
          · exact hX
      have hL3:Ev (fun n=>qgg c n 0) (bif (c.Bk.all fun x=>inI x 0 1) then .nxt (c.Bk.length:Int) else .ret false):=
        qp9 (fun n=>by simp only[qgg,ql (je _),cond_false]) (fun j hj X hX=>by
          simp only[qgg,qk hj,cond_true,qga hj,jd,qcV,wS j,qb2];exact Ev.okP1 fun _=>hX)
      refine Ev.bind hL1 ?_;cases hA:allN (fun j=>arcS c.Av (gt c.As j)&&newArc c.As j) c.As.length
      · exact .done
      · have hk:∀ j,j<c.As.length→1≤(gt c.As j).Ay∧(gt c.As j).Ay≤5:=fun j hj=>by
          have:=qaC.1 hA j hj;rw[jf] at this;exact qtF this.1
        simp only[cond_true,jx];refine Ev.bind (quW hc.As hk) ?_;simp only[(quX hm hm5).2,jd,
          show idx (vecC (fun k=>kindN c.As k c.As.length) 6) (1:Int)=V ((kindN c.As 1 c.As.length:Nat):Int) from qlO (k:=1) (by omega),
          show idx (vecC (fun k=>kindN c.As k c.As.length) 6) (2:Int)=V ((kindN c.As 2 c.As.length:Nat):Int) from qlO (k:=2) (by omega),
          show idx (vecC (fun k=>kindN c.As k c.As.length) 6) (3:Int)=V ((kindN c.As 3 c.As.length:Nat):Int) from qlO (k:=3) (by omega),qty,qwu]
        unfold kindB;refine Ev.iff (fun _=>?_) (fun _=>Ev.iff (fun _=>?_) (fun _=>Ev.iff (fun _=>?_) (fun _=>.done)))
        · refine Ev.bind hL3 ?_
          cases (c.Bk.all fun x=>inI x 0 1)
          · exact Ev.now (by simp)
          · exact(Ev.andP (fun _=>.done)).cast (by rw[Bool.and_true])
        · refine(Ev.andP fun _=>Ev.andP fun _=>Ev.andP fun _=>.done).cast ?_
          cases (((clkN c.Av c.Av.length:Nat):Int)==1)<;>cases ((c.Bk.length:Int)==0)<;>cases hasB c.As ((1:Nat):Int)<;>cases hasB c.As ((2:Nat):Int)<;>cases hasB c.As ((3:Nat):Int)<;>rfl
        · refine(Ev.andP fun _=>Ev.andP fun _=>Ev.andP fun _=>Ev.andP fun _=>.done).cast ?_
          cases (((clkN c.Av c.Av.length:Nat):Int)==1)<;>cases ((c.Bk.length:Int)==0)<;>cases hasB c.As ((1:Nat):Int)<;>cases hasB c.As ((2:Nat):Int)<;>cases hasB c.As ((3:Nat):Int)<;>rfl
def libB (l:qt):Bool:=l.Ap.all cellB&&(decide (l.Ap.length≤8)&&namesB (l.Ap.map qA.Az))
theorem quN {l:qt}(h:qi6 l):Ev (fun n=>qjj n l) (libB l):=by
  have hl:=h.Ap.len;have hL:Ev (fun n=>qc2 l n ([]:List ByteArray) 0) (bif allN (fun j=>cellB (gt l.Ap j)) l.Ap.length then .nxt (l.Ap.map qA.Az,(l.Ap.length:Int)) else .ret false):=by
    refine loopN (Lf:=qc2 l) (S:=fun j=>(l.Ap.take j).map qA.Az) (fun j=>cellB (gt l.Ap j)) (fun n=>?_) (fun j hj hp X hX=>?_)
    · simp only[qc2,ql (je _),cond_false,jG]
    · simp only[qc2,qk hj,cond_true,qC hj,jd,qmV hj hl,qgy (g:=qA.Az) hj,wS j]
      exact Ev.chk1 (qxP (qof h.Ap hj)) hX
  unfold qjj libB;rw[qjL];refine Ev.bind hL ?_;cases allN (fun j=>cellB (gt l.Ap j)) l.Ap.length
  · exact .done
  · simp only[cond_true,jx,show decide ((l.Ap.length:Int)≤8)=decide (l.Ap.length≤8) from qmu (k:=8)]
    exact Ev.andP fun _=>Ev.last (qkA (qo1 h.Ap (fun x hx=>hx.Az)))
end Go.Fw


namespace Go.Fw
open Go
set_option maxRecDepth 100000
theorem qv1 {c:qA}(h:cellB c=true):nameB c.Az=true:=by
 unfold cellB at h;rw[jf] at h;exact h.1
theorem qj2 {c:qA}(h:cellB c=true):pinsB c.Av=true:=by
 unfold cellB at h;simp only[jf] at h;exact h.2.1
theorem qtb {l:qt}(h:qi6 l):Ev (fun n=>qjl n l) (libB l):=by
 have hl:=h.Ap.len;have hL2:∀ j,j<l.Ap.length→Ev (fun n=>qd5 l (j:Int) n 0) (bif allN (neB (l.Ap.map qA.Az) j) j then .nxt (j:Int) else .ret false):=by
  intro j hj;refine qel ?_ (fun i hi X hX=>Ev.succ ?_)
  ·exact Ev.succ (by simp only[qd5,ql (je _),cond_false];exact .done)
  ·simp only[qd5,qk hi,cond_true,qC (show i<l.Ap.length by omega),qC hj,jd,qiz,wS i];unfold neB;rw[qlw (g:=qA.Az) (show i<l.Ap.length by omega),qlw (g:=qA.Az) hj];exact Ev.chkP1 (fun _=>hX)
 have hL1:Ev (fun n=>qdZ l n 0) (bif allN (fun j=>cellB (gt l.Ap j)&&allN (neB (l.Ap.map qA.Az) j) j) l.Ap.length then .nxt (l.Ap.length:Int) else .ret false):=by
  refine qel ?_ (fun j hj X hX=>Ev.succ ?_)
  ·exact Ev.succ (by simp only[qdZ,ql (je _),cond_false];exact .done)
  ·simp only[qdZ,qk hj,cond_true,qC hj,jd,wS j];refine Ev.chk (qwi (qof h.Ap hj)) fun _=>Ev.bind (hL2 j hj) ?_;cases allN (neB (l.Ap.map qA.Az) j) j
   ·exact .done
   ·exact hX
 have e:libB l=(allN (fun j=>cellB (gt l.Ap j)&&allN (neB (l.Ap.map qA.Az) j) j) l.Ap.length&&decide (l.Ap.length≤8)):=by
  unfold libB namesB;rw[qjL,jy,Bool.and_comm (decide (l.Ap.length≤8)),←Bool.and_assoc,←qmX]
  congr 1
  refine qi2 (fun j hj=>?_);rw[qlw (g:=qA.Az) hj];cases hc:cellB (gt l.Ap j)
  ·rfl
  ·rw[qv1 hc];rfl
 rw[e];unfold qjl;refine Ev.bind hL1 ?_;cases allN (fun j=>cellB (gt l.Ap j)&&allN (neB (l.Ap.map qA.Az) j) j) l.Ap.length
 ·exact .done
 ·refine Ev.now ?_;show V (decide ((l.Ap.length:Int)≤((8:Nat):Int)))=V (true&&decide (l.Ap.length≤8));rw[qmu,jx]
theorem qm2 {c c':Nat→Nat}{m:Nat}{x:Int}(h0:0≤x)(h1:x<m)(hc:c x.toNat<9223372036854775807)(he:∀ k,k<m→c' k=c k+(bif x==(k:Int) then 1 else 0)) :
  idx (vecC c m) x=V (c x.toNat:Int)∧setS (vecC c m) x (W64 ((c x.toNat:Int)+1))=vecC c' m:=by
 have ex:x=(x.toNat:Int):=qfn h0;have e1:=qlO (c:=c) (m:=m) (k:=x.toNat) (by omega);have e2:=qtZ (c:=c) (m:=m) (k:=x.toNat) hc;rw[←ex] at e1 e2;refine⟨e1,e2.trans (ql2 (fun k hk=>?_))⟩;rw[he k hk]
 congr 2
 rw[jk];simp;omega
def netB (d:qg)(x:Int):Bool:=inI x 0 ((d.Ai.length:Int)-1)
theorem qsf {n:Nat}{d:qg}{x:Int}(hl:d.Ai.length≤1048576):qcj n d x=V (netB d x):=by
 simp only[qcj,qiZ,jd,qdB,qdU (show d.Ai.length≤9223372036854775807 by omega)];rfl
theorem qq9 {n:Nat}{d:qg}{x:Int}(hl:d.Ai.length≤1048576):qaB n x 0 (W64 ((d.Ai.length:Int)-1))=V (netB d x):=by
 rw[qcV,qdU (show d.Ai.length≤9223372036854775807 by omega)];rfl
def hasNamesB (d:qg):Bool:=(decide (d.Ab.length≤14)&&(decide (d.Ai.length≤30)&&decide (d.Ah.length≤8)))&&(namesB (d.Ab.map qm.Az)&&(namesB d.Ai&&namesB (d.Ah.map qY.Az)))
theorem quT {d:qg}(h:qlr d):Ev (fun n=>qfQ n d) (hasNamesB d):=by
 have hli:=h.Ab.len;have hlp:=h.Ah.len;have hL1:Ev (fun n=>qby d n ([]:List ByteArray) 0) (d.Ab.map qm.Az,(d.Ab.length:Int)):=by
  refine loopF (Lf:=qby d) (S:=fun j=>(d.Ab.take j).map qm.Az) (len:=d.Ab.length) (fun n=>?_) (fun j hj X hX=>?_)
  ·simp only[qby,ql (je _),cond_false,jG]
  ·simpa only[qby,qk hj,cond_true,qC hj,jd,qmV hj hli,qgy (g:=qm.Az) hj,wS j] using hX
 have hL2:Ev (fun n=>qbx d n ([]:List ByteArray) 0) (d.Ah.map qY.Az,(d.Ah.length:Int)):=by
  refine loopF (Lf:=qbx d) (S:=fun j=>(d.Ah.take j).map qY.Az) (len:=d.Ah.length) (fun n=>?_) (fun j hj X hX=>?_)
  ·simp only[qbx,ql (je _),cond_false,jG]
  ·simpa only[qbx,qk hj,cond_true,qC hj,jd,qmV hj hlp,qgy (g:=qY.Az) hj,wS j] using hX
 unfold qfQ hasNamesB;refine Ev.bind hL1 (Ev.bind hL2 ?_);simp only[jy];rw[show decide ((d.Ab.length:Int)≤14)=decide (d.Ab.length≤14) from qmu (k:=14),show decide ((d.Ai.length:Int)≤30)=decide (d.Ai.length≤30) from qmu (k:=30),show decide ((d.Ah.length:Int)≤8)=decide (d.Ah.length≤8) from qmu (k:=8)];rw[Bool.and_assoc,Bool.and_assoc];exact Ev.andP fun _=>Ev.andP fun _=>Ev.andP fun _=>Ev.and (qkA (qo1 h.Ab (fun x hx=>hx.Az))) fun _=>Ev.and (qkA h.Ai) fun _=>Ev.last (qkA (qo1 h.Ah (fun x hx=>hx.Az)))
def instB (l:qt)(d:qg)(x:qm):Bool:=inI x.Bo 0 ((l.Ap.length:Int)-1)&&(((x.Ai.length:Int)==((gt l.Ap x.Bo.toNat).Av.length:Int))&&x.Ai.all (netB d))
theorem qtf {d:qg}{l:qt}{x:qm}(hn:d.Ai.length≤1048576)(hc:l.Ap.length≤1048576)(hx:x.Ai.length≤1048576):Ev (fun n=>qeE n d l x) (instB l d x):=by
 simp only[qeE,qho,jd,qdB,qdU (show l.Ap.length≤9223372036854775807 by omega)];unfold instB;refine Ev.andP fun hI=>?_;rw[qa3] at hI;rw[qfW hI.1 (by omega)];simp only[jd];refine Ev.andP fun _=>Ev.bind (b:=x.Ai.any fun y=>!netB d y) ?_ (Ev.now (by rw[qr1]));unfold qa1;exact Ev.bind (b:=ixL (fun y=>!netB d y) x.Ai) (qgm (fin:=(x.Ai.length:Int)) (Lf:=qQ x.Ai d) (pf:=fun n y=>qdN n y d) (fun y _=>⟨0,fun n _=>by simp only[qdN,qsf hn,jd]⟩)
   (fun n=>by simp only[qQ,ql (je _),cond_false])
   (fun n j y hx=>by
    have hj:=(List.getElem?_eq_some_iff.1 hx).1;simp only[qQ,qk hj,cond_true,qan hx,jd,wS j])
   (fun n=>by unfold qbk;congr 1;funext o;cases o<;>rfl)) (Ev.now (by rw[qpm]))
def portB (d:qg)(p:qY):Bool:=inI p.Bs 1 2&&netB d p.Bu
theorem qAR {x:Int}:inI x 1 2=((x==1) || (x==2)):=by
 unfold inI;rw[jk];simp;omega
def lastN (x:qm):Int:=at0 x.Ai (x.Ai.length-1)
theorem qvw {x:qm}(h1:1≤x.Ai.length)(h2:x.Ai.length≤1048576):idx x.Ai (W64 ((x.Ai.length:Int)-1))=V (lastN x):=by
 rw[qdU (by omega),show((x.Ai.length:Int)-1)=((x.Ai.length-1:Nat):Int) by omega,qay (by omega)];rfl
theorem qx0 {d:qg}{x:qm}(h1:1≤x.Ai.length)(h:x.Ai.all (netB d)=true):0≤lastN x∧lastN x<d.Ai.length:=by
 rw[qhK (d:=0),qaC] at h;have:=h (x.Ai.length-1) (by omega);unfold netB at this;rw[qa3] at this;unfold lastN at0;omega
theorem qs0 {l:qt}{d:qg}{x:qm}(hl:libB l=true)(h:instB l d x=true):1≤x.Ai.length∧0≤lastN x∧lastN x<d.Ai.length:=by
 unfold instB at h;simp only[jf,qa3,beq_iff_eq] at h;obtain⟨h1,h2,h3⟩:=h;unfold libB at hl;simp only[jf] at hl;have hc:=hl.1;rw[qjL,qaC] at hc;have:=qhS (qj2 (hc x.Bo.toNat (by omega)));have h4:1≤x.Ai.length:=by omega
 exact⟨h4,qx0 h4 h3⟩
def drvI (d:qg)(k j:Nat):Nat:=cntP (fun i=>lastN (gt d.Ab i)==(k:Int)) j
def drvP (d:qg)(k j:Nat):Nat:=cntP (fun i=>((gt d.Ah i).Bs==1)&&((gt d.Ah i).Bu==(k:Int))) j
def drvB (d:qg):Bool:=allN (fun k=>((drvI d k d.Ab.length+drvP d k d.Ah.length:Nat):Int)==1) d.Ai.length
def designB (l:qt)(d:qg):Bool:=(libB l&&hasNamesB d)&&(d.Ab.all (instB l d)&&(d.Ah.all (portB d)&&drvB d))
theorem qqu {d:qg}{k j:Nat}:drvI d k (j+1)=drvI d k j+(bif lastN (gt d.Ab j)==(k:Int) then 1 else 0):=rfl
theorem qoV {d:qg}{k j:Nat}:drvP d k (j+1)=drvP d k j+(bif ((gt d.Ah j).Bs==1)&&((gt d.Ah j).Bu==(k:Int)) then 1 else 0):=rfl
theorem qve {l:qt}{d:qg}(h:qi6 l)(hd:qlr d):Ev (fun n=>qkj n l d) (designB l d):=by
 have hli:=hd.Ab.len;have hlp:=hd.Ah.len;have hln:=hd.Ai.len;have hlc:=h.Ap.len;unfold qkj designB;refine Ev.guardB (Ev.or (quN h) fun _=>Ev.neg (quT hd)) fun hb=>?_;rw[jf] at hb;rw[qoR (m:=d.Ai.length) (by omega)];simp only[jd];have hL1:Ev (fun n=>qdA l d n (vecC (fun _=>0) d.Ai.length) 0) (bif allN (fun j=>instB l d (gt d.Ab j)) d.Ab.length then .nxt (vecC (fun k=>drvI d k d.Ab.length) d.Ai.length,(d.Ab.length:Int)) else .ret false):=by
  refine loopN (Lf:=qdA l d) (S:=fun j=>vecC (fun k=>drvI d k j) d.Ai.length) (fun j=>instB l d (gt d.Ab j)) (fun n=>?_) (fun j hj hp X hX=>?_)
  ·simp only[qdA,ql (je _),cond_false]
  ·simp only[qdA,qk hj,cond_true,qC hj,jd,wS j];have hxl:=(qof hd.Ab hj).Ai.len;refine Ev.chk1 (qtf hln hlc hxl) fun hi=>?_;obtain⟨h1,h2,h3⟩:=qs0 hb.1 hi;have hc:drvI d (lastN (gt d.Ab j)).toNat j≤j:=qgz;obtain⟨e1,e2⟩:=qm2 (c:=fun k=>drvI d k j) (c':=fun k=>drvI d k (j+1)) h2 h3 (by show drvI _ _ _<_;omega) (fun k _=>qqu);simp only[qvw h1 hxl,jd,e1,e2];exact hX hi
 have hL2:Ev (fun n=>qcQ d n (vecC (fun k=>drvI d k d.Ab.length) d.Ai.length) 0) (bif allN (fun j=>portB d (gt d.Ah j)) d.Ah.length then .nxt (vecC (fun k=>drvI d k d.Ab.length+drvP d k d.Ah.length) d.Ai.length,(d.Ah.length:Int)) else .ret false):=by
  refine loopN (Lf:=qcQ d) (S:=fun j=>vecC (fun k=>drvI d k d.Ab.length+drvP d k j) d.Ai.length) (fun j=>portB d (gt d.Ah j)) (fun n=>?_) (fun j hj hp X hX=>?_)
  ·simp only[qcQ,ql (je _),cond_false]
  ·simp only[qcQ,qk hj,cond_true,qC hj,jd,qsf hln,bne,wS j];refine Ev.chkT1 ?_ fun hi=>?_
   ·unfold portB;rw[qAR];cases ((gt d.Ah j).Bs==1)<;>cases ((gt d.Ah j).Bs==2)<;>exact .done
   ·have hX:=hX hi;unfold portB netB at hi;simp only[jf,qa3] at hi;have hc1:drvI d (gt d.Ah j).Bu.toNat d.Ab.length≤d.Ab.length:=qgz;have hc2:drvP d (gt d.Ah j).Bu.toNat j≤j:=qgz;cases h1:((gt d.Ah j).Bs==1)
    ·have:vecC (fun k=>drvI d k d.Ab.length+drvP d k (j+1)) d.Ai.length=vecC (fun k=>drvI d k d.Ab.length+drvP d k j) d.Ai.length:=by
      refine ql2 (fun k _=>?_);rw[qoV,h1];rfl
     rw[this] at hX;exact hX
    ·obtain⟨e1,e2⟩:=qm2 (c:=fun k=>drvI d k d.Ab.length+drvP d k j) (c':=fun k=>drvI d k d.Ab.length+drvP d k (j+1)) (x:=(gt d.Ah j).Bu) (m:=d.Ai.length) hi.2.1 (by omega) (by show drvI _ _ _+drvP _ _ _<_;omega) (fun k _=>by rw[qoV,h1,jx];omega);simp only[cond_true,jd,e1,e2];exact hX
 rw[qjL,qjL];refine Ev.bind hL1 ?_;cases allN (fun j=>instB l d (gt d.Ab j)) d.Ab.length
 ·exact .done
 ·refine Ev.bind hL2 ?_;cases allN (fun j=>portB d (gt d.Ah j)) d.Ah.length
  ·exact .done
  ·simp only[cond_true,jx];unfold qbX;refine Ev.bind (b:=(vecC (fun k=>drvI d k d.Ab.length+drvP d k d.Ah.length) d.Ai.length).any fun x=>!(x==1)) (Ev.bind (b:=ixL (fun x=>!(x==1)) (vecC (fun k=>drvI d k d.Ab.length+drvP d k d.Ah.length) d.Ai.length)) (qgm (fin:=(((vecC (fun k=>drvI d k d.Ab.length+drvP d k d.Ah.length) d.Ai.length).length:Nat):Int)) (Lf:=qaw (vecC (fun k=>drvI d k d.Ab.length+drvP d k d.Ah.length) d.Ai.length)) (pf:=fun n y=>qk0 n y) (fun y _=>.done)
    (fun n=>by simp only[qaw,ql (je _),cond_false])
    (fun n j y hx=>by
     have hj:=(List.getElem?_eq_some_iff.1 hx).1;have:j<d.Ai.length:=by rw[qoB] at hj;exact hj
     simp only[qaw,qk hj,cond_true,qan hx,jd,wS j])
    (fun n=>by unfold qcf;congr 1;funext o;cases o<;>rfl)) (Ev.now (by rw[qpm]))) (Ev.now ?_)
   rw[qr1,qhK (d:=0),qoB];unfold drvB
   congr 1
   exact qi2 (fun k hk=>by
    have:=qva (c:=fun k=>drvI d k d.Ab.length+drvP d k d.Ah.length) hk;unfold at0 at this;rw[this])
theorem qvX {l:qt}{d:qg}(h:qi6 l)(hd:qlr d):Ev (fun n=>qkp n l d) (d.Ab.all (instB l d)&&d.Ah.all (portB d)):=by
 have hli:=hd.Ab.len;have hlp:=hd.Ah.len;have hln:=hd.Ai.len;have hlc:=h.Ap.len;have hL2:∀ x:qm,x.Ai.length≤1048576→Ev (fun n=>qe3 d x n 0) (bif x.Ai.all (netB d) then .nxt (x.Ai.length:Int) else .ret false):=fun x hx=>
  qp9 (fun n=>by simp only[qe3,ql (je _),cond_false]) (fun j hj X hX=>by
   simp only[qe3,qk hj,cond_true,qga hj,jd,qq9 hln,wS j,qb2];exact Ev.okP1 fun _=>hX)
 have hL1:Ev (fun n=>qeZ l d n 0) (bif allN (fun j=>instB l d (gt d.Ab j)) d.Ab.length then .nxt (d.Ab.length:Int) else .ret false):=by
  refine qel ?_ (fun j hj X hX=>Ev.succ ?_)
  ·exact Ev.succ (by simp only[qeZ,ql (je _),cond_false];exact .done)
  ·simp only[qeZ,qk hj,cond_true,qC hj,jd,qcV,qdU (show l.Ap.length≤9223372036854775807 by omega),wS j,bne];have hxl:=(qof hd.Ab hj).Ai.len;unfold instB;rw[←Bool.and_assoc];refine Ev.chkT ?_ fun _=>Ev.bind (hL2 _ hxl) ?_
   ·simp only[qb2];refine Ev.orBP fun hI=>?_;rw[qa3] at hI;rw[qfW hI.1 (by omega)];exact .done
   ·cases (gt d.Ab j).Ai.all (netB d)
    ·exact .done
    ·exact hX
 have hL3:Ev (fun n=>qeV d n 0) (bif allN (fun j=>portB d (gt d.Ah j)) d.Ah.length then .nxt (d.Ah.length:Int) else .ret false):=by
  refine qel ?_ (fun j hj X hX=>Ev.succ ?_)
  ·exact Ev.succ (by simp only[qeV,ql (je _),cond_false];exact .done)
  ·simp only[qeV,qk hj,cond_true,qC hj,jd,qq9 hln,wS j];simp only[qcV,jd,qb2];unfold portB;exact Ev.okP fun _=>Ev.okP1 fun _=>hX
 unfold qkp;rw[qjL,qjL];refine Ev.bind hL1 ?_;cases allN (fun j=>instB l d (gt d.Ab j)) d.Ab.length
 ·exact .done
 ·refine Ev.bind hL3 ?_;cases allN (fun j=>portB d (gt d.Ah j)) d.Ah.length<;>exact .done
theorem qut {l:qt}{d:qg}(h:qi6 l)(hd:qlr d):Ev (fun n=>qkn n l d) (designB l d):=by
 have hli:=hd.Ab.len;have hlp:=hd.Ah.len;have hln:=hd.Ai.len;have hlc:=h.Ap.len;have e:designB l d=((libB l&&(decide (d.Ab.length≤14)&&(decide (d.Ai.length≤30)&&(decide (d.Ah.length≤8)&&(d.Ab.all (instB l d)&&d.Ah.all (portB d))))))&&((namesB (d.Ab.map qm.Az)&&(namesB (d.Ah.map qY.Az)&&namesB d.Ai))&&drvB d)):=by
  unfold designB hasNamesB;generalize libB l=a1;generalize decide (d.Ab.length≤14)=a2;generalize decide (d.Ai.length≤30)=a3;generalize decide (d.Ah.length≤8)=a4;generalize d.Ab.all (instB l d)=a5;generalize d.Ah.all (portB d)=a6;generalize namesB (d.Ab.map qm.Az)=a7;generalize namesB (d.Ah.map qY.Az)=a8;generalize namesB d.Ai=a9;generalize drvB d=a10;rw[jk];simp only[jf];constructor
  ·rintro⟨⟨h1,⟨h2,h3,h4⟩,h7,h9,h8⟩,h5,h6,h10⟩;exact⟨⟨h1,h2,h3,h4,h5,h6⟩,⟨h7,h8,h9⟩,h10⟩
  ·rintro⟨⟨h1,h2,h3,h4,h5,h6⟩,⟨h7,h8,h9⟩,h10⟩;exact⟨⟨h1,⟨h2,h3,h4⟩,h7,h9,h8⟩,h5,h6,h10⟩
 rw[e];unfold qkn;refine Ev.guardB ?_ fun hb=>?_
 ·refine Ev.or (qtb h) fun _=>?_;rw[show decide ((d.Ab.length:Int) > 14) = !decide (d.Ab.length≤14) by rw[jk];simp;omega,show decide ((d.Ai.length:Int) > 30) = !decide (d.Ai.length≤30) by rw[jk];simp;omega,show decide ((d.Ah.length:Int) > 8) = !decide (d.Ah.length≤8) by rw[jk];simp;omega];simp only[qb2];exact Ev.orBP fun _=>Ev.orBP fun _=>Ev.orBP fun _=>Ev.neg (qvX h hd)
 ·simp only[jf] at hb;obtain⟨hlib,_,_,_,hI,hP⟩:=hb;rw[qjL,qaC] at hI hP;have hL1:Ev (fun n=>qdz d n ([]:List ByteArray) 0) (d.Ab.map qm.Az,(d.Ab.length:Int)):=by
   refine loopF (Lf:=qdz d) (S:=fun j=>(d.Ab.take j).map qm.Az) (len:=d.Ab.length) (fun n=>?_) (fun j hj X hX=>?_)
   ·simp only[qdz,ql (je _),cond_false,jG]
   ·simpa only[qdz,qk hj,cond_true,qC hj,jd,qmV hj hli,qgy (g:=qm.Az) hj,wS j] using hX
  have hL2:Ev (fun n=>qdu d n ([]:List ByteArray) 0) (d.Ah.map qY.Az,(d.Ah.length:Int)):=by
   refine loopF (Lf:=qdu d) (S:=fun j=>(d.Ah.take j).map qY.Az) (len:=d.Ah.length) (fun n=>?_) (fun j hj X hX=>?_)
   ·simp only[qdu,ql (je _),cond_false,jG]
   ·simpa only[qdu,qk hj,cond_true,qC hj,jd,qmV hj hlp,qgy (g:=qY.Az) hj,wS j] using hX
  have hL3:Ev (fun n=>qdG d n (vecC (fun _=>0) d.Ai.length) 0) (vecC (fun k=>drvI d k d.Ab.length) d.Ai.length,(d.Ab.length:Int)):=by
   refine loopF (Lf:=qdG d) (S:=fun j=>vecC (fun k=>drvI d k j) d.Ai.length) (len:=d.Ab.length) (fun n=>?_) (fun j hj X hX=>?_)
   ·simp only[qdG,ql (je _),cond_false]
   ·have hxl:=(qof hd.Ab hj).Ai.len;obtain⟨h1,h2,h3⟩:=qs0 hlib (hI j hj);have hc:drvI d (lastN (gt d.Ab j)).toNat j≤j:=qgz;obtain⟨e1,e2⟩:=qm2 (c:=fun k=>drvI d k j) (c':=fun k=>drvI d k (j+1)) h2 h3 (by show drvI _ _ _<_;omega) (fun k _=>qqu);simpa only[qdG,qk hj,cond_true,qC hj,jd,wS j,qvw h1 hxl,e1,e2] using hX
  have hL4:Ev (fun n=>qcG d n (vecC (fun k=>drvI d k d.Ab.length) d.Ai.length) 0) (vecC (fun k=>drvI d k d.Ab.length+drvP d k d.Ah.length) d.Ai.length,(d.Ah.length:Int)):=by
   refine loopF (Lf:=qcG d) (S:=fun j=>vecC (fun k=>drvI d k d.Ab.length+drvP d k j) d.Ai.length) (len:=d.Ah.length) (fun n=>?_) (fun j hj X hX=>?_)
   ·simp only[qcG,ql (je _),cond_false]
   ·have hi:=hP j hj;unfold portB netB at hi;simp only[jf,qa3] at hi;have hc1:drvI d (gt d.Ah j).Bu.toNat d.Ab.length≤d.Ab.length:=qgz;have hc2:drvP d (gt d.Ah j).Bu.toNat j≤j:=qgz;simp only[qcG,qk hj,cond_true,qC hj,jd,wS j];cases h1:((gt d.Ah j).Bs==1)
    ·have:vecC (fun k=>drvI d k d.Ab.length+drvP d k (j+1)) d.Ai.length=vecC (fun k=>drvI d k d.Ab.length+drvP d k j) d.Ai.length:=by
      refine ql2 (fun k _=>?_);rw[qoV,h1];rfl
     rw[this] at hX;exact hX
    ·obtain⟨e1,e2⟩:=qm2 (c:=fun k=>drvI d k d.Ab.length+drvP d k j) (c':=fun k=>drvI d k d.Ab.length+drvP d k (j+1)) (x:=(gt d.Ah j).Bu) (m:=d.Ai.length) hi.2.1 (by omega) (by show drvI _ _ _+drvP _ _ _<_;omega) (fun k _=>by rw[qoV,h1,jx];omega);simp only[cond_true,jd,e1,e2];exact hX
  have hL5:Ev (fun n=>qeY (vecC (fun _=>0) d.Ai.length) (vecC (fun k=>drvI d k d.Ab.length+drvP d k d.Ah.length) d.Ai.length) n 0) (bif drvB d then .nxt (d.Ai.length:Int) else .ret false):=by
   refine qel ?_ (fun j hj X hX=>Ev.succ ?_)
   ·exact Ev.succ (by simp only[qeY,qoB,ql (je _),cond_false];exact .done)
   ·simp only[qeY,qoB,qk hj,cond_true,qlO hj,jd,bne,qb2,wS j];exact Ev.okP1 fun _=>hX
  refine Ev.bind hL1 (Ev.bind hL2 ?_);refine Ev.guardB (Ev.or (qoo (qo1 hd.Ab (fun x hx=>hx.Az))) fun _=>Ev.or (qoo (qo1 hd.Ah (fun x hx=>hx.Az))) fun _=>Ev.neg (qoo hd.Ai)) fun _=>?_;rw[qoR (m:=d.Ai.length) (by omega)];simp only[jd];refine Ev.bind hL3 (Ev.bind hL4 (Ev.bind hL5 ?_));cases drvB d<;>exact .done
end Go.Fw


namespace Go.Fw
open Go
set_option maxRecDepth 100000
theorem qzI {m k:Nat}:decide ((m:Int)<(k:Int)) = !decide (k≤m):=by rw[jk];simp
theorem qzJ {m k:Nat}:decide ((m:Int) > (k:Int)) = !decide (m≤k):=by rw[jk];simp
def treeB (w:qH)(j:Nat):Bool:=bif decide (j=0) then(at0 w.Ak j==-1)&&(at0 w.Bt j==0) else inI (at0 w.Ak j) 0 ((j:Int)-1)
def wireB (w:qH)(s:Int):Bool:=
 lenB w.Ak 1 8&&(((w.Bt.length:Int)==(w.Ak.length:Int))&&(((w.Bq.length:Int)==(w.Ak.length:Int))&&(allN (treeB w) w.Ak.length &&
  ((w.Bt.all fun x=>inI x 0 1000)&&((w.Bq.all fun x=>inI x 0 500)&&(((w.Bg.length:Int)==s)&&(w.Bg.all fun x=>inI x 0 ((w.Ak.length:Int)-1))))))))
theorem qxk {w:qH}(hl:w.Ak.length≤1048576)(hr:((w.Bt.length:Int)==(w.Ak.length:Int))=true):Ev (fun n=>qic n w) (allN (treeB w) w.Ak.length):=by
 rw[beq_iff_eq] at hr;have hL:Ev (fun n=>qbq w n 0) (bif allN (treeB w) w.Ak.length then .nxt (w.Ak.length:Int) else .ret false):=by
  refine qel ?_ (fun j hj X hX=>Ev.succ ?_)
  ·exact Ev.succ (by simp only[qbq,ql (je _),cond_false];exact .done)
  ·simp only[qbq,qk hj,cond_true,qay hj,jd,qdB,wS j,bne,qb2];unfold treeB;by_cases h0:j=0
   ·subst h0;rw[show idx w.Bt (0:Int)=V (at0 w.Bt 0) from qay (j:=0) (by omega)];simp only[jd];refine Ev.tt (by simp) (Ev.okP fun _=>Ev.okP1 fun _=>Ev.ff (by simp) hX)
   ·have e1:decide (j=0)=false:=by simp;omega
    have e2:((j:Int)==0)=false:=by simp;omega
    have e3:decide ((j:Int) > 0)=true:=by simp;omega
    rw[e1,e2,e3,qdU (show j≤9223372036854775807 by omega)];simp only[cond_false,cond_true];exact Ev.okP1 fun _=>hX
 unfold qic;refine Ev.bind hL ?_;cases allN (treeB w) w.Ak.length<;>exact .done
theorem qyg {w:qH}{s:Int}(h:qp2 w):Ev (fun n=>qmt n w s) (wireB w s):=by
 have hl:=h.Ak.len;simp only[qmt,qbB,jd,qdB,qdU (show w.Ak.length≤9223372036854775807 by omega)];unfold wireB;rw[show inI (w.Ak.length:Int) 1 8=lenB w.Ak 1 8 from quK (lo:=1) (hi:=8)];exact Ev.andP fun _=>Ev.andP fun hr=>Ev.andP fun _=>Ev.and (qxk hl hr) fun _=>Ev.and (qfD h.Bt.len) fun _=>Ev.and (qfD h.Bq.len) fun _=>Ev.andP fun _=>Ev.last (qfD h.Bg.len)
theorem qwp {w:qH}{s:Int}(h:qp2 w):Ev (fun n=>qmA n w s) (wireB w s):=by
 have hl:=h.Ak.len;have hsl:=h.Bg.len;have e:wireB w s=((decide (1≤w.Ak.length)&&(decide (w.Ak.length≤8)&&(((w.Bt.length:Int)==(w.Ak.length:Int))&&(((w.Bq.length:Int)==(w.Ak.length:Int))&&((w.Bg.length:Int)==s)))))&&(allN (fun j=>(inI (at0 w.Bq j) 0 500&&inI (at0 w.Bt j) 0 1000)&&treeB w j) w.Ak.length&&(w.Bg.all fun x=>inI x 0 ((w.Ak.length:Int)-1)))):=by
  unfold wireB lenB;cases h1:((w.Bt.length:Int)==(w.Ak.length:Int))
  ·simp
  ·cases h2:((w.Bq.length:Int)==(w.Ak.length:Int))
   ·simp
   ·rw[beq_iff_eq] at h1 h2;rw[qmX,qmX];rw[qhK (p:=fun x=>inI x 0 1000) (d:=0),qhK (p:=fun x=>inI x 0 500) (d:=0),show w.Bt.length=w.Ak.length by omega,show w.Bq.length=w.Ak.length by omega];show _=(_&&((allN (fun j=>inI (w.Bq.getD j 0) 0 500) _&&allN (fun j=>inI (w.Bt.getD j 0) 0 1000) _&&_)&&_));generalize allN (fun j=>inI (w.Bq.getD j 0) 0 500) w.Ak.length=a1;generalize allN (fun j=>inI (w.Bt.getD j 0) 0 1000) w.Ak.length=a2;generalize allN (fun j=>treeB w j) w.Ak.length=a3;generalize ((w.Bg.length:Int)==s)=a4;generalize decide (1≤w.Ak.length)=a5;generalize decide (w.Ak.length≤8)=a6;generalize (w.Bg.all fun x=>inI x 0 ((w.Ak.length:Int)-1))=a7;cases a1<;>cases a2<;>cases a3<;>cases a4<;>cases a5<;>cases a6<;>rfl
 rw[e];unfold qmA;refine Ev.guardB ?_ fun hb=>?_
 ·rw[show decide ((w.Ak.length:Int)<1) = !decide (1≤w.Ak.length) from qzI (k:=1),show decide ((w.Ak.length:Int) > 8) = !decide (w.Ak.length≤8) from qzJ (k:=8)];simp only[bne,qb2];exact Ev.orBP fun _=>Ev.orBP fun _=>Ev.orBP fun _=>Ev.orBP fun _=>.done
 ·simp only[jf,beq_iff_eq] at hb;have hL1:Ev (fun n=>qcX w n 0) (bif allN (fun j=>(inI (at0 w.Bq j) 0 500&&inI (at0 w.Bt j) 0 1000)&&treeB w j) w.Ak.length then .nxt (w.Ak.length:Int) else .ret false):=by
   refine qel ?_ (fun j hj X hX=>Ev.succ ?_)
   ·exact Ev.succ (by simp only[qcX,ql (je _),cond_false];exact .done)
   ·simp only[qcX,qk hj,cond_true,qay hj,qay (show j<w.Bq.length by omega),qay (show j<w.Bt.length by omega),jd,qcV,wS j,bne,qb2];refine Ev.chkT (Ev.orBP fun _=>.done) fun _=>?_;unfold treeB;by_cases h0:j=0
    ·subst h0;refine Ev.tt (by simp) (Ev.okP fun _=>Ev.okP1 fun _=>Ev.ff (by simp) hX)
    ·have e1:decide (j=0)=false:=by simp;omega
     have e2:((j:Int)==0)=false:=by simp;omega
     have e3:decide ((j:Int) > 0)=true:=by simp;omega
     rw[e1,e2,e3,qdU (show j≤9223372036854775807 by omega)];simp only[cond_false,cond_true];exact Ev.okP1 fun _=>hX
  have hL2:Ev (fun n=>qgu w n 0) (bif (w.Bg.all fun x=>inI x 0 ((w.Ak.length:Int)-1)) then .nxt (w.Bg.length:Int) else .ret false):=
   qp9 (fun n=>by simp only[qgu,ql (je _),cond_false]) (fun j hj X hX=>by
    simp only[qgu,qk hj,cond_true,qga hj,jd,qcV,qdU (show w.Ak.length≤9223372036854775807 by omega),wS j,qb2];exact Ev.okP1 fun _=>hX)
  refine Ev.bind hL1 ?_;cases allN (fun j=>(inI (at0 w.Bq j) 0 500&&inI (at0 w.Bt j) 0 1000)&&treeB w j) w.Ak.length
  ·exact .done
  ·refine Ev.bind hL2 ?_;cases (w.Bg.all fun x=>inI x 0 ((w.Ak.length:Int)-1))<;>exact .done
instance:Inhabited Tplace:=⟨⟨0,0,0,false⟩⟩
instance:Inhabited Tl05Place:=⟨⟨0,0,0,false⟩⟩
def toSp (p:Tplace):Tl05Place:=⟨p.instance_,p.pin,p.net,p.drives⟩
def plX (i:Nat)(x:qm)(j:Nat):List Tplace:=(List.range j).map fun(k:Nat)=>⟨(i:Int),(k:Int),at0 x.Ai k,decide (k+1=x.Ai.length)⟩
def plI (d:qg)(j:Nat):List Tplace:=(List.range j).flatMap fun(i:Nat)=>plX i (gt d.Ab i) (gt d.Ab i).Ai.length
def plP (d:qg)(j:Nat):List Tplace:=(List.range j).map fun(i:Nat)=>⟨-1,(i:Int),(gt d.Ah i).Bu,(gt d.Ah i).Bs==1⟩
def places (d:qg):List Tplace:=plI d d.Ab.length++plP d d.Ah.length
theorem qvI {i:Nat}{x:qm}{j:Nat}:plX i x (j+1)=plX i x j++[⟨(i:Int),(j:Int),at0 x.Ai j,decide (j+1=x.Ai.length)⟩]:=by
 unfold plX;rw[Jd,jN];rfl
theorem qoG {d:qg}{j:Nat}:plI d (j+1)=plI d j++plX j (gt d.Ab j) (gt d.Ab j).Ai.length:=by
 unfold plI;rw[Jd,List.flatMap_append];simp
theorem qvL {d:qg}{j:Nat}:plP d (j+1)=plP d j++[⟨-1,(j:Int),(gt d.Ah j).Bu,(gt d.Ah j).Bs==1⟩]:=by
 unfold plP;rw[Jd,jN];rfl
theorem qr7 {i:Nat}{x:qm}{j:Nat}:(plX i x j).length=j:=by simp[plX]
theorem qrY {d:qg}{j:Nat}:(plP d j).length=j:=by simp[plP]
structure smallD (d:qg):Prop where
 ni:d.Ab.length≤14
 nn:d.Ai.length≤30
 np:d.Ah.length≤8
 nx:∀ i,i<d.Ab.length→2≤(gt d.Ab i).Ai.length∧(gt d.Ab i).Ai.length≤5
theorem qai {l:qt}{d:qg}(h:designB l d=true):smallD d:=by
 unfold designB hasNamesB libB at h;simp only[jf,decide_eq_true_eq] at h;obtain⟨⟨⟨hc,_⟩,⟨h1,h2,h3⟩,_⟩,hI,_⟩:=h;refine⟨h1,h2,h3,fun i hi=>?_⟩;rw[qjL,qaC] at hI hc;have:=hI i hi;unfold instB at this;simp only[jf,qa3,beq_iff_eq] at this;have h5:=qhS (qj2 (hc (gt d.Ab i).Bo.toNat (by omega)));omega
theorem qql {d:qg}(h:smallD d){j:Nat}(hj:j≤d.Ab.length):(plI d j).length≤5*j:=by
 induction j with
 | zero=>exact je _
 | succ j ih=>
  rw[qoG,jh,qr7];have:=ih (by omega);have:=h.nx j (by omega);omega
theorem qbl {d:qg}(h:smallD d):(places d).length≤78:=by
 unfold places;rw[jh,qrY];have:=qql h (je _);have:=h.ni;have:=h.np;omega
theorem qoS {d:qg}(h:smallD d):Ev (fun n=>qcy n d) (places d):=by
 have h1:=h.ni;have h2:=h.np;have hL2:∀ i,i<d.Ab.length→∀ pre:List Tplace,pre.length≤100→Ev (fun n=>qbR (i:Int) (gt d.Ab i) n pre 0) (pre++plX i (gt d.Ab i) (gt d.Ab i).Ai.length,((gt d.Ab i).Ai.length:Int)):=by
  intro i hi pre hp;have h5:=h.nx i hi;have:=loopF (Lf:=qbR (i:Int) (gt d.Ab i)) (S:=fun j=>pre++plX i (gt d.Ab i) j) (len:=(gt d.Ab i).Ai.length) (fin:=(pre++plX i (gt d.Ab i) (gt d.Ab i).Ai.length,((gt d.Ab i).Ai.length:Int))) (fun n=>by
    simp only[qbR,ql (je _),cond_false])
   (fun j hj X hX=>by
    have hc:(pre++plX i (gt d.Ab i) j).length+[(⟨(i:Int),(j:Int),at0 (gt d.Ab i).Ai j,decide (j+1=(gt d.Ab i).Ai.length)⟩:Tplace)].length≤2147483648:=by
     rw[jh,qr7];simp;omega
    simp only[qbR,qk hj,cond_true,qay hj,jd,lastE hj (show(gt d.Ab i).Ai.length≤1048576 by omega),qcS hc,jr,←qvI,wS j];exact hX)
  simpa [plX] using this
 have hL1:Ev (fun n=>qbT d n ([]:List Tplace) 0) (plI d d.Ab.length,(d.Ab.length:Int)):=by
  refine loopF (Lf:=qbT d) (S:=fun j=>plI d j) (len:=d.Ab.length) (fun n=>?_) (fun j hj X hX=>?_)
  ·simp only[qbT,ql (je _),cond_false]
  ·simp only[qbT,qk hj,cond_true,qC hj,jd,wS j];refine Ev.bind (hL2 j hj _ (by have:=qql h (Nat.le_of_lt hj);omega)) ?_;rw[←qoG];exact hX
 have hL3:Ev (fun n=>qbO d n (plI d d.Ab.length) 0) (places d,(d.Ah.length:Int)):=by
  have:=loopF (Lf:=qbO d) (S:=fun j=>plI d d.Ab.length++plP d j) (len:=d.Ah.length) (fin:=(places d,(d.Ah.length:Int))) (fun n=>by
    simp only[qbO,ql (je _),cond_false];rfl)
   (fun j hj X hX=>by
    have hc:(plI d d.Ab.length++plP d j).length+[(⟨-1,(j:Int),(gt d.Ah j).Bu,(gt d.Ah j).Bs==1⟩:Tplace)].length≤2147483648:=by
     rw[jh,qrY];have:=qql h (je _);simp;omega
    simp only[qbO,qk hj,cond_true,qC hj,jd,qcS hc,jr,←qvL,wS j];exact hX)
  simpa [plP] using this
 unfold qcy;exact Ev.bind hL1 (Ev.bind hL3 .done)
theorem qi7 {d:qg}(h:smallD d):Ev (fun n=>qcr n d) ((places d).map toSp):=by
 have h1:=h.ni;have h2:=h.np;have hL2:∀ i,i<d.Ab.length→∀ pre:List Tplace,pre.length≤100→Ev (fun n=>qc0 (i:Int) (gt d.Ab i) n (pre.map toSp) 0) ((pre++plX i (gt d.Ab i) (gt d.Ab i).Ai.length).map toSp,((gt d.Ab i).Ai.length:Int)):=by
  intro i hi pre hp;have h5:=h.nx i hi;have:=loopF (Lf:=qc0 (i:Int) (gt d.Ab i)) (S:=fun j=>(pre++plX i (gt d.Ab i) j).map toSp) (len:=(gt d.Ab i).Ai.length) (fin:=((pre++plX i (gt d.Ab i) (gt d.Ab i).Ai.length).map toSp,((gt d.Ab i).Ai.length:Int))) (fun n=>by
    simp only[qc0,ql (je _),cond_false])
   (fun j hj X hX=>by
    have hc:((pre++plX i (gt d.Ab i) j).map toSp).length+[(⟨(i:Int),(j:Int),at0 (gt d.Ab i).Ai j,decide (j+1=(gt d.Ab i).Ai.length)⟩:Tl05Place)].length≤2147483648:=by
     rw[jy,jh,qr7];simp;omega
    simp only[qc0,qk hj,cond_true,qay hj,jd,lastE hj (show(gt d.Ab i).Ai.length≤1048576 by omega),qcS hc,wS j];rw[qvI,←jr,jN] at hX;exact hX)
  simpa [plX] using this
 have hL1:Ev (fun n=>qcY d n ([]:List Tl05Place) 0) ((plI d d.Ab.length).map toSp,(d.Ab.length:Int)):=by
  refine loopF (Lf:=qcY d) (S:=fun j=>(plI d j).map toSp) (len:=d.Ab.length) (fun n=>?_) (fun j hj X hX=>?_)
  ·simp only[qcY,ql (je _),cond_false]
  ·simp only[qcY,qk hj,cond_true,qC hj,jd,wS j];refine Ev.bind (hL2 j hj _ (by have:=qql h (Nat.le_of_lt hj);omega)) ?_;rw[←qoG];exact hX
 have hL3:Ev (fun n=>qc7 d n ((plI d d.Ab.length).map toSp) 0) ((places d).map toSp,(d.Ah.length:Int)):=by
  have:=loopF (Lf:=qc7 d) (S:=fun j=>(plI d d.Ab.length++plP d j).map toSp) (len:=d.Ah.length) (fin:=((places d).map toSp,(d.Ah.length:Int))) (fun n=>by
    simp only[qc7,ql (je _),cond_false];rfl)
   (fun j hj X hX=>by
    have hc:((plI d d.Ab.length++plP d j).map toSp).length+[(⟨-1,(j:Int),(gt d.Ah j).Bu,(gt d.Ah j).Bs==1⟩:Tl05Place)].length≤2147483648:=by
     rw[jy,jh,qrY];have:=qql h (je _);simp;omega
    simp only[qc7,qk hj,cond_true,qC hj,jd,qcS hc,wS j];rw[qvL,←jr,jN] at hX;exact hX)
  simpa [plP] using this
 unfold qcr;exact Ev.bind hL1 (Ev.bind hL3 .done)
def snkQ (d:qg)(k:Int)(i:Nat):Bool:=((gt (places d) i).net==k)&&!(gt (places d) i).drives
def sinksL (d:qg)(k:Int)(j:Nat):List Int:=((List.range j).filter (snkQ d k)).map fun(i:Nat)=>(i:Int)
def snkN (d:qg)(k:Int):Nat:=cntP (snkQ d k) (places d).length
theorem qkQ {d:qg}{k:Int}{j:Nat}:sinksL d k (j+1)=sinksL d k j++(bif snkQ d k j then[(j:Int)] else[]):=by
 unfold sinksL;rw[Jd,List.filter_append,jN]
 congr 1
 cases h:snkQ d k j<;>simp[h]
theorem qjW {d:qg}{k:Int}{j:Nat}:(sinksL d k j).length=cntP (snkQ d k) j:=by
 induction j with
 | zero=>rfl
 | succ j ih=>
  rw[qkQ,jh,ih];show _=cntP (snkQ d k) j+_
  congr 1
  cases snkQ d k j<;>rfl
theorem qqE {α β:Type}[Inhabited α][Inhabited β]{xs:List α}{g:α→β}{j:Nat}(h:j<xs.length):gt (xs.map g) j=g (gt xs j):=by
 rw[qgv (by simpa using h),qgv h];simp
theorem qox {d:qg}{k:Int}(h:smallD d):Ev (fun n=>qhc n d k) (sinksL d k (places d).length):=by
 have hl:=qbl h;have hL:Ev (fun n=>qcN k ((places d).map toSp) n ([]:List Int) 0) (sinksL d k (places d).length,((places d).length:Int)):=by
  refine loopF (Lf:=qcN k ((places d).map toSp)) (S:=fun j=>sinksL d k j) (len:=(places d).length) (fun n=>?_) (fun j hj X hX=>?_)
  ·simp only[qcN,jy,ql (je _),cond_false]
  ·have hj':j<((places d).map toSp).length:=by simpa using hj
   have hc:(sinksL d k j).length+[(j:Int)].length≤2147483648:=by
    rw[qjW];have:cntP (snkQ d k) j≤j:=qgz;simp;omega
   simp only[qcN,qk hj',cond_true,qC hj',qqE hj,jd,wS j];rw[show ∀ p:Tplace,(toSp p).net=p.net from fun _=>rfl,show ∀ p:Tplace,(toSp p).drives=p.drives from fun _=>rfl];refine Ev.bind (b:=snkQ d k j) (Ev.andP fun _=>.done) ?_;rw[qkQ] at hX;cases hq:snkQ d k j
   ·rw[hq] at hX;simp only[cond_false,jU] at hX ⊢;exact hX
   ·rw[hq] at hX;simp only[cond_true,qcS hc,jd] at hX ⊢;exact hX
 unfold qhc;exact Ev.bind (qi7 h) (Ev.bind hL .done)
theorem qnM {l:qt}{d:qg}(h:designB l d=true){i:Nat}(hi:i<(places d).length):0≤(gt (places d) i).net∧(gt (places d) i).net<d.Ai.length:=by
 unfold designB at h;simp only[jf] at h;obtain⟨_,hI,hP,_⟩:=h;rw[qjL,qaC] at hI hP;have hm:gt (places d) i ∈ places d:=by rw[qgv hi];exact jq hi
 generalize gt (places d) i=p at hm;unfold places at hm;rcases List.mem_append.1 hm with hm|hm
 ·unfold plI at hm;obtain⟨i,hi,hm⟩:=List.mem_flatMap.1 hm;unfold plX at hm;obtain⟨k,hk,rfl⟩:=List.mem_map.1 hm;have:=hI i (List.mem_range.1 hi);unfold instB at this;simp only[jf] at this;have h3:=this.2.2;rw[qhK (d:=0),qaC] at h3;have h4:=h3 k (List.mem_range.1 hk);unfold netB at h4;rw[qa3] at h4;show 0≤at0 _ _∧at0 _ _<_;unfold at0;omega
 ·unfold plP at hm;obtain⟨i,hi,rfl⟩:=List.mem_map.1 hm;have:=hP i (List.mem_range.1 hi);unfold portB netB at this;simp only[jf,qa3] at this;show 0≤(gt d.Ah i).Bu∧(gt d.Ah i).Bu<_;omega
def blockB (b:qe):Bool:=(designB b.Ar b.Aa&&((b.Af.length:Int)==(b.Aa.Ai.length:Int)))&&allN (fun j=>wireB (gt b.Af j) (snkN b.Aa (j:Int))) b.Af.length
theorem qsZ {b:qe}(h:qkx b):Ev (fun n=>qgC n b) (blockB b):=by
 have hwl:=h.Af.len;unfold qgC blockB;refine Ev.guardB (Ev.or (qve h.Ar h.Aa) fun _=>.done) fun hb=>?_;rw[jf,beq_iff_eq] at hb;obtain⟨hd,hw⟩:=hb;have hs:=qai hd;have hl:=qbl hs;have hn:=hs.nn;rw[qoR (m:=b.Af.length) (by omega)];simp only[jd];have hL1:Ev (fun n=>qdj (places b.Aa) n (vecC (fun _=>0) b.Af.length) 0) (vecC (fun k=>snkN b.Aa (k:Int)) b.Af.length,((places b.Aa).length:Int)):=by
  refine loopF (Lf:=qdj (places b.Aa)) (S:=fun j=>vecC (fun k=>cntP (snkQ b.Aa (k:Int)) j) b.Af.length) (len:=(places b.Aa).length) (fun n=>?_) (fun j hj X hX=>?_)
  ·simp only[qdj,ql (je _),cond_false];rfl
  ·simp only[qdj,qk hj,cond_true,qC hj,jd,wS j];obtain⟨n0,n1⟩:=qnM hd hj;cases h1:(gt (places b.Aa) j).drives
   ·have hc:cntP (snkQ b.Aa (((gt (places b.Aa) j).net.toNat:Nat):Int)) j≤j:=qgz;obtain⟨e1,e2⟩:=qm2 (c:=fun k=>cntP (snkQ b.Aa (k:Int)) j) (c':=fun k=>cntP (snkQ b.Aa (k:Int)) (j+1)) (x:=(gt (places b.Aa) j).net) (m:=b.Af.length) n0 (by omega) (by show cntP _ _<_;omega) (fun k _=>by
     show cntP _ j+(bif snkQ b.Aa (k:Int) j then 1 else 0)=_;unfold snkQ;rw[h1,Bool.not_false,Bool.and_true])
    simp only[Bool.not_false,cond_true,jd,e1,e2];exact hX
   ·have:vecC (fun k=>cntP (snkQ b.Aa (k:Int)) (j+1)) b.Af.length=vecC (fun k=>cntP (snkQ b.Aa (k:Int)) j) b.Af.length:=by
     refine ql2 (fun k _=>?_);show cntP _ j+(bif snkQ b.Aa (k:Int) j then 1 else 0)=_;unfold snkQ;rw[h1,jV,Bool.and_false];rfl
    rw[this] at hX;exact hX
 have hL2:Ev (fun n=>qfz b (vecC (fun k=>snkN b.Aa (k:Int)) b.Af.length) n 0) (bif allN (fun j=>wireB (gt b.Af j) (snkN b.Aa (j:Int))) b.Af.length then .nxt (b.Af.length:Int) else .ret false):=by
  refine qel ?_ (fun j hj X hX=>Ev.succ ?_)
  ·exact Ev.succ (by simp only[qfz,ql (je _),cond_false];exact .done)
  ·simp only[qfz,qk hj,cond_true,qC hj,qlO hj,jd,wS j];exact Ev.chk1 (qyg (qof h.Af hj)) fun _=>hX
 refine Ev.bind (qoS hs) (Ev.bind hL1 (Ev.bind hL2 ?_));cases allN (fun j=>wireB (gt b.Af j) (snkN b.Aa (j:Int))) b.Af.length<;>exact .done
theorem qmp {b:qe}(h:qkx b):Ev (fun n=>qfB n b) (blockB b):=by
 have hwl:=h.Af.len;unfold qfB blockB;refine Ev.guardB (Ev.or (qut h.Ar h.Aa) fun _=>.done) fun hb=>?_;rw[jf] at hb;have hs:=qai hb.1;have hL:Ev (fun n=>qfq b n 0) (bif allN (fun j=>wireB (gt b.Af j) (snkN b.Aa (j:Int))) b.Af.length then .nxt (b.Af.length:Int) else .ret false):=by
  refine qel ?_ (fun j hj X hX=>Ev.succ ?_)
  ·exact Ev.succ (by simp only[qfq,ql (je _),cond_false];exact .done)
  ·simp only[qfq,qk hj,cond_true,qC hj,jd,wS j];refine Ev.bind (qox hs) ?_;rw[qjW];exact Ev.chk1 (qwp (qof h.Af hj)) fun _=>hX
 refine Ev.bind hL ?_;cases allN (fun j=>wireB (gt b.Af j) (snkN b.Aa (j:Int))) b.Af.length<;>exact .done
end Go.Fw


namespace Go.Fw
open Go
set_option maxRecDepth 100000
def off (d:qg)(i:Nat):Nat:=(plI d i).length
def place1 (d:qg)(i k:Nat):Tplace:=⟨(i:Int),(k:Int),at0 (gt d.Ab i).Ai k,decide (k+1=(gt d.Ab i).Ai.length)⟩
def place2 (d:qg)(i:Nat):Tplace:=⟨-1,(i:Int),(gt d.Ah i).Bu,(gt d.Ah i).Bs==1⟩
theorem qlQ {d:qg}{i:Nat}:off d (i+1)=off d i+(gt d.Ab i).Ai.length:=by
 unfold off;rw[qoG,jh,qr7]
theorem qwJ {d:qg}{i j:Nat}(h:i≤j):off d i≤off d j:=by
 induction j with
 | zero=>
  obtain rfl:i=0:=by omega
  exact je _
 | succ j ih=>
  rcases Nat.lt_or_eq_of_le h with h|rfl
  ·rw[qlQ];have:=ih (by omega);omega
  ·exact je _
theorem qh4 {d:qg}:(places d).length=off d d.Ab.length+d.Ah.length:=by
 unfold places off;rw[jh,qrY]
theorem qBf {d:qg}{n i k:Nat}(hi:i<n)(hk:k<(gt d.Ab i).Ai.length):off d i+k<off d n∧gt (plI d n) (off d i+k)=place1 d i k:=by
 induction n with
 | zero=>omega
 | succ n ih=>
  rw[qoG,qm6];rcases Nat.lt_succ_iff_lt_or_eq.1 hi with h|rfl
  ·obtain⟨h1,h2⟩:=ih h;refine⟨by rw[qlQ];omega,?_⟩;rw[if_pos (show off d i+k<(plI d n).length from h1),h2]
  ·refine⟨by rw[qlQ];omega,?_⟩;rw[if_neg (by unfold off;omega),show off d i+k-(plI d i).length=k by unfold off;omega];exact qsQ hk
theorem qlv {d:qg}{i k:Nat}(hi:i<d.Ab.length)(hk:k<(gt d.Ab i).Ai.length):off d i+k<(places d).length∧gt (places d) (off d i+k)=place1 d i k:=by
 obtain⟨h1,h2⟩:=qBf hi hk;refine⟨by rw[qh4];omega,?_⟩;unfold places;rw[qm6,if_pos (show off d i+k<(plI d d.Ab.length).length from h1),h2]
theorem qtG {d:qg}{i:Nat}(hi:i<d.Ah.length):off d d.Ab.length+i<(places d).length∧gt (places d) (off d d.Ab.length+i)=place2 d i:=by
 refine⟨by rw[qh4];omega,?_⟩;unfold places;rw[qm6,if_neg (by unfold off;omega),show off d d.Ab.length+i-(plI d d.Ab.length).length=i by unfold off;omega];exact qsQ hi
theorem qyb {d:qg}{n j:Nat}(hj:j<off d n):∃ i k,i<n∧k<(gt d.Ab i).Ai.length∧j=off d i+k:=by
 induction n with
 | zero=>exact absurd hj (Nat.not_lt_zero _)
 | succ n ih=>
  by_cases h:j<off d n
  ·obtain⟨i,k,h1,h2,h3⟩:=ih h;exact⟨i,k,by omega,h2,h3⟩
  ·rw[qlQ] at hj;exact⟨n,j-off d n,by omega,by omega,by omega⟩
theorem qmF {d:qg}{j:Nat}(hj:j<(places d).length) :
  (∃ i k,i<d.Ab.length∧k<(gt d.Ab i).Ai.length∧j=off d i+k∧gt (places d) j=place1 d i k) ∨
  (∃ i,i<d.Ah.length∧j=off d d.Ab.length+i∧gt (places d) j=place2 d i):=by
 rw[qh4] at hj;by_cases h:j<off d d.Ab.length
 ·obtain⟨i,k,h1,h2,rfl⟩:=qyb h;exact .inl ⟨i,k,h1,h2,rfl,(qlv h1 h2).2⟩
 ·refine .inr ⟨j-off d d.Ab.length,by omega,by omega,?_⟩;have:=(qtG (d:=d) (i:=j-off d d.Ab.length) (by omega)).2;rwa [show off d d.Ab.length+(j-off d d.Ab.length)=j by omega] at this
def drvQ (d:qg)(k:Int)(j:Nat):Bool:=((gt (places d) j).net==k)&&(gt (places d) j).drives
theorem qvu {q:Nat→Bool}{m n:Nat}:cntP q (m+n)=cntP q m+cntP (fun j=>q (m+j)) n:=by
 induction n with
 | zero=>rfl
 | succ n ih=>
  show cntP q (m+n)+(bif q (m+n) then 1 else 0)=cntP q m+(cntP (fun j=>q (m+j)) n+(bif q (m+n) then 1 else 0));rw[ih];omega
theorem qxi {q:Nat→Bool}{n:Nat}{b:Bool}(h:1≤n)(h1:∀ j,j+1<n→q j=false)(h2:q (n-1)=b):cntP q n=bif b then 1 else 0:=by
 obtain⟨m,rfl⟩:∃ m,n=m+1:=⟨n-1,by omega⟩;show cntP q m+(bif q m then 1 else 0)=_;rw[qoW.2 (fun j hj=>h1 j (by omega)),show m=m+1-1 by omega,h2,jW]
theorem qwx {d:qg}{k:Nat}(hs:smallD d):cntP (drvQ d (k:Int)) (places d).length=drvI d k d.Ab.length+drvP d k d.Ah.length:=by
 rw[qh4,qvu]
 congr 1
 ·have:∀ n,n≤d.Ab.length→cntP (drvQ d (k:Int)) (off d n)=drvI d k n:=by
   intro n
   induction n with
   | zero=>intro _;rfl
   | succ n ih=>
    intro hn;rw[qlQ,qvu,ih (by omega),qqu]
    congr 1
    have h2:=(hs.nx n (by omega)).1;refine qxi (by omega) (fun j hj=>?_) ?_
    ·show drvQ d _ (off d n+j)=false;unfold drvQ;rw[(qlv (by omega) (by omega)).2];unfold place1;simp;omega
    ·show drvQ d _ (off d n+_)=_;unfold drvQ;rw[(qlv (by omega) (by omega)).2];unfold place1 lastN;simp;omega
  exact this _ (je _)
 ·refine qsN (fun j hj=>?_);show drvQ d _ (off d _+j)=_;unfold drvQ;rw[(qtG hj).2];unfold place2;exact Bool.and_comm _ _
theorem qw9 {l:qt}{d:qg}(h:designB l d=true){k:Nat}(hk:k<d.Ai.length):cntP (drvQ d (k:Int)) (places d).length=1:=by
 rw[qwx (qai h)];unfold designB drvB at h;simp only[jf] at h;have:=qaC.1 h.2.2.2 k hk;rw[beq_iff_eq] at this;omega
theorem qu5 {l:qt}{d:qg}(h:designB l d=true){i j:Nat}(hi:i<(places d).length)(hj:j<(places d).length)(he:(gt (places d) i).net=(gt (places d) j).net)(h1:(gt (places d) i).drives=true)(h2:(gt (places d) j).drives=true):i=j:=by
 obtain⟨n0,n1⟩:=qnM h hi;have e:=qfn n0;have:=qw9 h (k:=(gt (places d) i).net.toNat) (by omega);refine qvN (Nat.le_of_eq this) hi hj ?_ ?_
 ·unfold drvQ;rw[←e,h1];simp
 ·unfold drvQ;rw[←e,h2,he];simp
theorem qAT {l:qt}{d:qg}(h:designB l d=true){k:Int}(h0:0≤k)(h1:k<d.Ai.length):∃ j,j<(places d).length∧(gt (places d) j).net=k∧(gt (places d) j).drives=true:=by
 have e:=qfn h0;have:=qw9 h (k:=k.toNat) (by omega);have hp:decide (0<cntP (drvQ d ((k.toNat:Nat):Int)) (places d).length)=true:=by rw[this];rfl
 rw[qu2,jF,qnH] at hp;obtain⟨j,hj,hq⟩:=hp;rw[Bool.not_eq_false',←e] at hq;unfold drvQ at hq;simp only[jf,beq_iff_eq] at hq;exact⟨j,hj,hq.1,hq.2⟩
def cellAt (b:qe)(i:Int):qA:=gt b.Ar.Ap (gt b.Aa.Ab i.toNat).Bo.toNat
theorem qim {l:qt}{d:qg}(h:designB l d=true){i:Nat}(hi:i<d.Ab.length) :
  (0≤(gt d.Ab i).Bo∧(gt d.Ab i).Bo<l.Ap.length)∧(gt d.Ab i).Ai.length=(gt l.Ap (gt d.Ab i).Bo.toNat).Av.length∧cellB (gt l.Ap (gt d.Ab i).Bo.toNat)=true:=by
 unfold designB libB at h;simp only[jf] at h;obtain⟨⟨⟨hc,_⟩,_⟩,hI,_⟩:=h;rw[qjL,qaC] at hI hc;have:=hI i hi;unfold instB at this;simp only[jf,qa3,beq_iff_eq] at this;exact⟨⟨this.1.1,by omega⟩,by omega,hc _ (by omega)⟩
theorem qog {c:qA}(h:cellB c=true){j:Nat}(hj:j<c.As.length):(1≤(gt c.As j).Ay∧(gt c.As j).Ay≤5)∧(0≤(gt c.As j).Bf∧(gt c.As j).Bf<(c.Av.length:Int)-1)∧(0≤(gt c.As j).To∧(gt c.As j).To≤(c.Av.length:Int)-1)∧arcS c.Av (gt c.As j)=true:=by
 unfold cellB at h;simp only[jf] at h;obtain⟨_,hp,⟨ha,_⟩,_,_,hk⟩:=h;have:=qaC.1 ha j hj;rw[jf,qy7 hp (qtv hk)] at this;have h1:=this.1;refine⟨qtF h1,?_⟩;have h2:=h1;unfold arcS at h2;simp only[jf,qa3] at h2;refine⟨⟨h2.1.1.1,by omega⟩,h2.1.2,h1⟩
theorem qpD {c:qA}(h:cellB c=true):c.As.length≤8:=by
 unfold cellB at h;simp only[jf,decide_eq_true_eq] at h;exact h.2.2.1.2
theorem qaA {b:qe}(h:blockB b=true):designB b.Ar b.Aa=true:=by
 unfold blockB at h;simp only[jf] at h;exact h.1.1
end Go.Fw
