/- By a program of mine (gen.py): for each function a plain function and the proof that the code computes it. -/
import Derived.Test.YteofoidaapgdkaaGreatDoorB7
import Derived.Test.YteofoidaapgdkaaGreatDoorFw31
import Derived.Test.YteofoidaapgdkaaGreatDoorFw38
open Option renaming bind_some → jd, some → V, none → U
open Nat renaming le_refl → je, le_of_ble_eq_true → jr, mul_le_mul_right → js, lt_of_lt_of_le → jv, succ_mul → jM, zero_add → Jg
open Bool renaming and_eq_true → jf, eq_iff_iff → jj, not_eq_true' → jD, true_and → jG, not_true → jW
open Go.Result renaming andThen_ok → jg
open List renaming length_append → jh, getElem?_eq_getElem → ji, mem_cons_of_mem → jn, getElem_mem → jo, append_assoc → jp, length_singleton → jt, length_map → ju, getElem?_append_left → jw, mem_cons_self → jx, take_succ_eq_append_getElem → jy, getElem?_take → jz, length_cons → jA, getElem?_append_right → jB, getD_eq_getElem?_getD → jC, getElem?_toArray → jE, map_append → jF, take_length → jH, eq_nil_of_length_eq_zero → jK, drop_eq_getElem_cons → jL, all_eq_true → jN, not_mem_nil → jO, getElem_of_mem → jP, length_replicate → jQ, size_toArray → jR, mem_of_getElem? → jS, mem_append_left → jT, length_nil → jV, append_nil → jX, ext_getElem → jZ, mem_cons → Jb, getElem?_map → Jc, range_succ → Je, length_take → Jf
open Go.Sem renaming run_bind → jk, run_pure → jm
open Int renaming toNat_natCast → jq, tdiv_eq_ediv_of_nonneg → jJ, mul_nonneg → jU, le_refl → jY, mul_assoc → Ja, mul_le_mul → Jd
open Array renaming getElem?_append_left → jI

namespace Go.Fw
open Go Go.Proofs Go.Proofs.Tryz
open Go.RowKit (Below)
set_option maxRecDepth 100000
set_option maxHeartbeats 1600000
variable {n:Nat}{w:World}{cs1 cs2 cs3 cs4 cs5 cs6 cs7 cs8 cs9:List Value}
def qcn (list:(List Int))(a_n:Int):Nat→Int→Option (Flow Bool Int)
 | 0,_=>U
 | n+1,i1=>
  bif decide (i1<(list.length:Int)) then
   (idx list i1).bind fun y1=>
   (qaq n y1 0 (W64 (a_n-1))).bind fun r1=>
   bif (!r1) then V (.ret false) else
   bif decide (i1 > 0) then
    (idx list (W64 (i1-1))).bind fun y2=>
    (idx list i1).bind fun y3=>
    bif decide (y2 ≥ y3) then V (.ret false) else
    qcn list a_n n (W64 (i1+1))
   else
    qcn list a_n n (W64 (i1+1))
  else
   V (.nxt i1)
def qi1 (n:Nat)(list:(List Int))(a_n:Int):Option Bool:=
 (qcn list a_n n 0).bind fun o=>match o with
 | .ret r=>V r
 | .nxt _=>
  V true
theorem qoO {list:(List Int)}{a_n:Int}(ha1:Ro w list cs1){r:Bool}(F:qi1 n list a_n=V r):RetV prog 71 [GoT.v (List Int) cs1,.int .i64 a_n] w r:=by
 obtain⟨p1,k1,rfl,s1⟩:=ha1;refine zV 36 func71 Z fun h=>X0 9 Z ?_;obtain⟨o1,F,hK1⟩:=qc F;refine qn (rL (fun m e w'=>∃(i1:Int),qcn list a_n m i1=V o1∧e=[(0,.slice p1 list.length k1),(1,.int .i64 a_n),(5,.int .i64 i1)]∧SH w w' []) n ⟨_,F,rfl,h⟩ Z ?_);rintro m1 _ _ ⟨i1,F,rfl,h⟩;rcases m1 with _|m1
 ·cases F
 refine X0 8 Z (qh Z F ?_ ?_)<;>intro F
 ·refine X0 4 Z (rD (zd2 Z ?_));obtain⟨_,_,F,he1,_,_,_,_,hp1,hq1,rfl,hc2⟩:=s1.ix F;refine zdxe hp1 hq1 he1 Z (zdc 0 (hc2.below h.below) Z (zd2 Z ?_));obtain⟨r1,hr2,F⟩:=qc F;refine qbJ r1 (vsB _) (cB 84 Z) (fun _ hb=>qai  hr2) Z Z Z Z (zd2 Z (qbZ (t:=20) F Z ?_ ?_))<;>intro F
  ·refine Y0 15 Z (dN h fun _ h=>qfQ Z Z (X0 4 Z ?_));obtain rfl:=qb F;replace F:=hK1;exact rb h F Z
  refine Y0 6 Z (qbZ (t:=23) F Z ?_ ?_)<;>intro F
  ·refine Y0 7 Z ?_;obtain⟨_,_,F,he2,_,_,_,_,hp2,hq2,rfl,hc3⟩:=s1.ix F;refine zdxe hp2 hq2 he2 Z (Y0 1 Z (zdc 0 (hc3.below h.below) Z (Y0 5 Z ?_)));obtain⟨_,_,F,he3,_,_,_,_,hp3,hq3,rfl,hc4⟩:=s1.ix F;refine zdxe hp3 hq3 he3 Z (Y0 1 Z (zdc 0 (hc4.below h.below) Z (Y0 5 Z (dN h fun _ h=>qh Z F ?_ ?_))))<;>intro F
   ·refine X0 4 Z ?_;obtain rfl:=qb F;replace F:=hK1;exact rb h F Z
   exact X0 7 Z (rK ⟨_,F,rfl,h⟩ Z)
  exact Y0 13 Z (dN h fun _ h=>qdi Z Z (X0 7 Z (rK ⟨_,F,rfl,h⟩ Z)))
 refine qq Z ?_;obtain rfl:=qb F;replace F:=hK1;exact X0 4 Z (rb h F Z)
def qd8 (a_instance:Int)(pin:Int)(r1:(List Tl05Place)):Nat→Int→Option (Flow Int Int)
 | 0,_=>U
 | n+1,i1=>
  bif decide (i1<(r1.length:Int)) then
   (idx r1 i1).bind fun y1=>
   bif (y1.instance_==a_instance) then
    (idx r1 i1).bind fun y2=>
    bif (y2.pin==pin) then V (.ret i1) else
    qd8 a_instance pin r1 n (W64 (i1+1))
   else
    qd8 a_instance pin r1 n (W64 (i1+1))
  else
   V (.nxt i1)
def qgn (n:Nat)(d:qe)(a_instance:Int)(pin:Int):Option Int:=
 (qbH n d).bind fun r1=>
 (qd8 a_instance pin r1 n 0).bind fun o=>match o with
 | .ret r=>V r
 | .nxt _=>
  V (-1)
theorem qii {d:qe}{a_instance:Int}{pin:Int}(ha1:Ro w d cs1){r:Int}(F:qgn n d a_instance pin=V r):RetV prog 97 [GoT.v qe cs1,.int .i64 a_instance,.int .i64 pin] w r:=by
 obtain⟨_,_,_,_,_,_,rfl,_,_,_⟩:=qaD ha1;refine zV 34 func97 Z fun h=>zSR (qx h Z Z fun _ _ h=>X1 5 0 h Z (zcL h F (qbz (h.old ha1)) Z fun r1 _ S1 p4 k4 h F=>X0 7 Z ?_));obtain⟨o1,F,hK1⟩:=qc F;refine qn ?_;replace h:=h.pick [0] Z;refine rL (fun m e w'=>∃(i1:Int),qd8 a_instance pin r1 m i1=V o1∧e=[(1,.int .i64 a_instance),(2,.int .i64 pin),(7,.slice p4 r1.length k4),(8,.int .i64 i1)]∧SH w w' [Ch.own S1 (r1:List Tl05Place) [.slice p4 r1.length k4]]) n ⟨_,F,rfl,h⟩ Z ?_;rintro m1 _ _ ⟨i1,F,rfl,h⟩;rcases m1 with _|m1
 ·cases F
 refine X0 8 Z (qh Z F ?_ ?_)<;>intro F
 ·refine X0 7 Z ?_;obtain⟨_,_,F,he1,_,_,_,_,hp1,hq1,hr2,hc2⟩:=(h.sl 0 Z).1.ix F;obtain rfl:=qbp hr2;refine zx hp1 hq1 ⟨he1.1,qC he1.2.1 (h.sl 0 Z).2⟩ Z (zp1 Z (zc 0 hc2 Z (zp3 Z (qm (t:=24) F Z ?_ ?_))))<;>intro F
  ·refine X0 5 Z ?_;obtain⟨_,_,F,he2,_,_,_,_,hp2,hq2,hr3,hc3⟩:=(h.sl 0 Z).1.ix F;obtain rfl:=qbp hr3;refine zx hp2 hq2 ⟨he2.1,qC he2.2.1 (h.sl 0 Z).2⟩ Z (X0 3 Z (zc 1 hc3 Z (X0 6 Z (qh Z F ?_ ?_))))<;>intro F
   ·refine X0 5 Z ?_;obtain rfl:=qb F;replace F:=hK1;exact ri h F Z
   exact X0 7 Z (rK ⟨_,F,rfl,h⟩ Z)
  exact X0 9 Z (qdi Z Z (X0 7 Z (rK ⟨_,F,rfl,h⟩ Z)))
 refine qq Z ?_;obtain rfl:=qb F;replace F:=hK1;exact X0 4 Z (ri h F Z)
def qfp (_:Nat)(list:(List qt))(a_from:Int)(a_to:Int)(a:Int)(b:Int)(kind:Int)(index:Int):Option (List qt):=
 (appS list ([(⟨W64 ((W64 (2*a_from))+a),W64 ((W64 (2*a_to))+b),kind,index⟩:qt)]:List qt)).bind fun x1=>
 V x1
theorem qgb {n:Nat}{w0 w:World}{F:List Ch}{list:(List qt)}{a_from:Int}{a_to:Int}{a:Int}{b:Int}{kind:Int}{index:Int}{S1:Nat→Prop}{p1:Option Addr}{ln1 k1:Nat}(h:SH w0 w (Ch.own S1 (list:(List qt)) [.slice p1 ln1 k1]::F))  {r:(List qt)}(hF:qfp n list a_from a_to a b kind index=V r):RetT prog 170 [.slice p1 ln1 k1,.int .i64 a_from,.int .i64 a_to,.int .i64 a,.int .i64 b,.int .i64 kind,.int .i64 index] w w0 F r:=by
 refine qpX func170 Z (m:=29) Z Z ?_;obtain rfl:=(h.sl 0 Z).2;refine X0 17 Z (r_v (qJ qa [0,1,2,3] [.tmp 19,.tmp 23,.tmp 24,.tmp 25] Z Z Z Z Z Z Z Z) Z (qK qa [.tmp 26] _ ([(⟨W64 ((W64 (2*a_from))+a),W64 ((W64 (2*a_to))+b),kind,index⟩:qt)]:List qt) h Z Z Z Z Z Z Z Z Z ⟨(qcf (⟨W64 ((W64 (2*a_from))+a),W64 ((W64 (2*a_to))+b),kind,index⟩:qt)),trivial⟩ Z fun _ _ _ h=>?_));obtain⟨_,hx1,hF⟩:=qc hF;obtain⟨g1,hx1⟩:=qan hx1;refine qbW qa 1 h Z (h.sl 0 Z).1 (h.sl 0 Z).2 Z Z Z Z Z Z Z Z Z g1 hx1 Z fun _ _ _ _ h=>X0 2 Z ?_;obtain rfl:=qb hF;replace h:=h.pickT 2 [1] Z;exact qxQ qa h ⟨rfl,trivial⟩
def qa8 (arc:qH)(a_from:Int)(a_to:Int)(index:Int)(i1:Int):Nat→(List qt)→Int→Option ((List qt)×Int)
 | 0,_,_=>U
 | n+1,x2,i2=>
  bif decide (i2≤1) then
   bif (arc.Aq==1) then
    (
     bif (arc.Bn==3) then V true else
     V ((arc.Bn==1)==(i1==i2))).bind fun b1=>
    bif b1 then
     (qfp n x2 a_from a_to i1 i2 1 index).bind fun r1=>
     qa8 arc a_from a_to index i1 n r1 (W64 (i2+1))
    else
     qa8 arc a_from a_to index i1 n x2 (W64 (i2+1))
   else
    bif (arc.Aq==2) then
     bif (i1==0) then
      (qfp n x2 a_from a_to i1 i2 1 index).bind fun r2=>
      qa8 arc a_from a_to index i1 n r2 (W64 (i2+1))
     else
      qa8 arc a_from a_to index i1 n x2 (W64 (i2+1))
    else
     bif (arc.Aq==3) then
      bif (i1==1) then
       (qfp n x2 a_from a_to i1 i2 1 index).bind fun r3=>
       qa8 arc a_from a_to index i1 n r3 (W64 (i2+1))
      else
       qa8 arc a_from a_to index i1 n x2 (W64 (i2+1))
     else
      qa8 arc a_from a_to index i1 n x2 (W64 (i2+1))
  else
   V (x2,i2)
def qeP (arc:qH)(a_from:Int)(a_to:Int)(index:Int):Nat→(List qt)→Int→Option ((List qt)×Int)
 | 0,_,_=>U
 | n+1,x1,i1=>
  bif decide (i1≤1) then
   (qa8 arc a_from a_to index i1 n x1 0).bind fun o=>match o with
   | (x2,_)=>
    qeP arc a_from a_to index n x2 (W64 (i1+1))
  else
   V (x1,i1)
def qlv (n:Nat)(list:(List qt))(arc:qH)(a_from:Int)(a_to:Int)(index:Int):Option (List qt):=
 (qeP arc a_from a_to index n list 0).bind fun o=>match o with
 | (x1,_)=>
  V x1
theorem qp5 {n:Nat}{w0 w:World}{F:List Ch}{list:(List qt)}{arc:qH}{a_from:Int}{a_to:Int}{index:Int}{S1:Nat→Prop}{p1:Option Addr}{ln1 k1:Nat}(h:SH w0 w (Ch.own S1 (list:(List qt)) [.slice p1 ln1 k1]::F)){cs1:List Value}(ha1:GoT.R w0 (old w0) arc cs1){r:(List qt)}(hF:qlv n list arc a_from a_to index=V r):RetT prog 168 [.slice p1 ln1 k1,GoT.v qH cs1,.int .i64 a_from,.int .i64 a_to,.int .i64 index] w w0 F r:=by
 obtain⟨p2,k2,p3,k3,rfl,_,_⟩:=qX ha1;refine qpX func168 Z (m:=55) Z Z ?_;obtain rfl:=(h.sl 0 Z).2;refine zSR (qx h Z Z fun _ bb1 h=>X0 7 Z ?_);obtain⟨o1,hF,hK1⟩:=qc hF;refine qn (rL (fun m e w'=>∃(S2:Nat→Prop) (p4:Option Addr) (ln2:Nat) (k4:Nat) (x1:(List qt)) (i1:Int),qeP arc a_from a_to index m x1 i1=V o1∧e=[(0,.slice p4 ln2 k4),(2,.int .i64 a_from),(3,.int .i64 a_to),(4,.int .i64 index),(6,.pointer (V ⟨bb1,0,U⟩)),(11,.int .i64 i1)]∧SH w0 w' (Ch.box bb1 (qhc arc p2 p3 k2 k3) 254::Ch.own S2 (x1:List qt) [.slice p4 ln2 k4]::F)) n ⟨_,_,_,_,_,_,hF,rfl,h⟩ Z ?_);rintro m1 _ _ ⟨S2,p4,ln2,k4,x1,i1,hF,rfl,h⟩;obtain rfl:=(h.sl 1 Z).2;rcases m1 with _|m1
 ·cases hF
 refine X0 6 Z (qh Z hF ?_ ?_)<;>intro hF
 ·refine X0 7 Z ?_;obtain⟨o2,hF,hK2⟩:=qc hF;refine qn (rL (fun m e w'=>∃(S3:Nat→Prop) (p5:Option Addr) (ln3:Nat) (k5:Nat) (x2:(List qt)) (i2:Int),qa8 arc a_from a_to index i1 m x2 i2=V o2∧e=[(0,.slice p5 ln3 k5),(2,.int .i64 a_from),(3,.int .i64 a_to),(4,.int .i64 index),(6,.pointer (V ⟨bb1,0,U⟩)),(11,.int .i64 i1),(12,.int .i64 i2)]∧SH w0 w' (Ch.box bb1 (qhc arc p2 p3 k2 k3) 254::Ch.own S3 (x2:List qt) [.slice p5 ln3 k5]::F)) m1 ⟨_,_,_,_,_,_,hF,rfl,h⟩ Z ?_);rintro m2 _ _ ⟨S3,p5,ln3,k5,x2,i2,hF,rfl,h⟩;obtain rfl:=(h.sl 1 Z).2;rcases m2 with _|m2
  ·cases hF
  refine X0 6 Z (qh Z hF ?_ ?_)<;>intro hF
  ·refine X1 19 0 h Z (qh Z hF ?_ ?_)<;>intro hF
   ·obtain⟨KF1,hKF1,_,hF,hK3⟩:=bindE hF;refine qbe (fun e w'=>∃(b1:Bool),KF1 b1=V o2∧e=[(0,.slice p5 x2.length k5),(2,.int .i64 a_from),(3,.int .i64 a_to),(4,.int .i64 index),(6,.pointer (V ⟨bb1,0,U⟩)),(11,.int .i64 i1),(12,.int .i64 i2),(13,.bool b1)]∧SH w0 w' (Ch.box bb1 (qhc arc p2 p3 k2 k3) 254::Ch.own S3 (x2:List qt) [.slice p5 x2.length k5]::F)) ?_ ?_
    ·refine X1 5 0 h Z (qm (t:=29) hF Z ?_ ?_)<;>intro hF
     ·refine X0 10 Z ?_;obtain rfl:=qb hF;exact rG ⟨_,hK3,rfl,h⟩ Z
     refine X1 17 0 h Z ?_;obtain rfl:=qb hF;exact rG ⟨_,hK3,rfl,h⟩ Z
    rintro _ _ ⟨b1,hF,rfl,h⟩;subst hKF1;refine X0 5 Z (qh Z hF ?_ ?_)<;>intro hF
    ·refine X0 7 Z ?_;replace h:=h.pickT 2 [1,0] Z;obtain⟨_,hr1,hF⟩:=qc hF;refine qnO (cB 170 Z) (qgb h hr1) Z Z Z Z fun _ _ _ _ h=>X0 8 Z ?_;replace h:=h.pickT 2 [1,0] Z;exact rK ⟨_,_,_,_,_,_,hF,rfl,h⟩ Z
    exact X0 7 Z (rK ⟨_,_,_,_,_,_,hF,rfl,h⟩ Z)
   refine X0 5 Z (qh Z hF ?_ ?_)<;>intro hF
   ·refine X0 10 Z (qh Z hF ?_ ?_)<;>intro hF
    ·refine X0 7 Z ?_;replace h:=h.pickT 2 [1,0] Z;obtain⟨_,hr2,hF⟩:=qc hF;refine qnO (cB 170 Z) (qgb h hr2) Z Z Z Z fun _ _ _ _ h=>X0 8 Z ?_;replace h:=h.pickT 2 [1,0] Z;exact rK ⟨_,_,_,_,_,_,hF,rfl,h⟩ Z
    exact X0 7 Z (rK ⟨_,_,_,_,_,_,hF,rfl,h⟩ Z)
   refine X0 5 Z (qh Z hF ?_ ?_)<;>intro hF
   ·refine X0 10 Z (qh Z hF ?_ ?_)<;>intro hF
    ·refine X0 7 Z ?_;replace h:=h.pickT 2 [1,0] Z;obtain⟨_,hr3,hF⟩:=qc hF;refine qnO (cB 170 Z) (qgb h hr3) Z Z Z Z fun _ _ _ _ h=>X0 8 Z ?_;replace h:=h.pickT 2 [1,0] Z;exact rK ⟨_,_,_,_,_,_,hF,rfl,h⟩ Z
    exact X0 7 Z (rK ⟨_,_,_,_,_,_,hF,rfl,h⟩ Z)
   exact X0 6 Z (qdi Z Z (X0 7 Z (rK ⟨_,_,_,_,_,_,hF,rfl,h⟩ Z)))
  refine qq Z ?_;obtain rfl:=qb hF;replace hF:=hK2;exact X0 6 Z (rK ⟨_,_,_,_,_,_,hF,rfl,h⟩ Z)
 refine qq Z ?_;obtain rfl:=qb hF;replace hF:=hK1;refine X0 5 Z ?_;obtain rfl:=qb hF;replace h:=h.pickT 2 [1] Z;exact qxQ qa h ⟨rfl,trivial⟩
def qcO (net:Int)(r1:(List Tl05Place)):Nat→Int→Option (Flow Int Int)
 | 0,_=>U
 | n+1,i1=>
  bif decide (i1<(r1.length:Int)) then
   (idx r1 i1).bind fun y1=>
   bif (y1.net==net) then
    (idx r1 i1).bind fun y2=>
    bif y2.drives then V (.ret i1) else
    qcO net r1 n (W64 (i1+1))
   else
    qcO net r1 n (W64 (i1+1))
  else
   V (.nxt i1)
def qiX (n:Nat)(d:qe)(net:Int):Option Int:=
 (qbH n d).bind fun r1=>
 (qcO net r1 n 0).bind fun o=>match o with
 | .ret r=>V r
 | .nxt _=>
  V (-1)
theorem qoF {d:qe}{net:Int}(ha1:Ro w d cs1){r:Int}(F:qiX n d net=V r):RetV prog 169 [GoT.v qe cs1,.int .i64 net] w r:=by
 obtain⟨_,_,_,_,_,_,rfl,_,_,_⟩:=qaD ha1;refine zV 30 func169 Z fun h=>zSR (qx h Z Z fun _ _ h=>X1 5 0 h Z (zcL h F (qbz (h.old ha1)) Z fun r1 _ S1 p4 k4 h F=>X0 7 Z ?_));obtain⟨o1,F,hK1⟩:=qc F;refine qn ?_;replace h:=h.pick [0] Z;refine rL (fun m e w'=>∃(i1:Int),qcO net r1 m i1=V o1∧e=[(1,.int .i64 net),(5,.slice p4 r1.length k4),(6,.int .i64 i1)]∧SH w w' [Ch.own S1 (r1:List Tl05Place) [.slice p4 r1.length k4]]) n ⟨_,F,rfl,h⟩ Z ?_;rintro m1 _ _ ⟨i1,F,rfl,h⟩;rcases m1 with _|m1
 ·cases F
 refine X0 8 Z (qh Z F ?_ ?_)<;>intro F
 ·refine X0 7 Z ?_;obtain⟨_,_,F,he1,_,_,_,_,hp1,hq1,hr2,hc2⟩:=(h.sl 0 Z).1.ix F;obtain rfl:=qbp hr2;refine zx hp1 hq1 ⟨he1.1,qC he1.2.1 (h.sl 0 Z).2⟩ Z (zp1 Z (zc 2 hc2 Z (zp3 Z (qm (t:=22) F Z ?_ ?_))))<;>intro F
  ·refine X0 5 Z ?_;obtain⟨_,_,F,he2,_,_,_,_,hp2,hq2,hr3,hc3⟩:=(h.sl 0 Z).1.ix F;obtain rfl:=qbp hr3;refine zx hp2 hq2 ⟨he2.1,qC he2.2.1 (h.sl 0 Z).2⟩ Z (X0 3 Z (zc 3 hc3 Z (X0 2 Z (qh Z F ?_ ?_))))<;>intro F
   ·refine X0 5 Z ?_;obtain rfl:=qb F;replace F:=hK1;exact ri h F Z
   exact X0 7 Z (rK ⟨_,F,rfl,h⟩ Z)
  exact X0 7 Z (qdi Z Z (X0 7 Z (rK ⟨_,F,rfl,h⟩ Z)))
 refine qq Z ?_;obtain rfl:=qb F;replace F:=hK1;exact X0 4 Z (ri h F Z)
def qcH (a_0:qd)(i1:Int)(y2:qv):Nat→(List qt)→Int→Option ((List qt)×Int)
 | 0,_,_=>U
 | n+1,x2,i2=>
  bif decide (i2<(y2.Ak.length:Int)) then
   (idx y2.Ak i2).bind fun y3=>
   bif decide (y3.Aq≤3) then
    (idx y2.Ak i2).bind fun y4=>
    (idx y2.Ak i2).bind fun y5=>
    (idx y2.Ak i2).bind fun y6=>
    (qgn n (⟨a_0.Aa.Ab,a_0.Aa.Ah,a_0.Aa.Af⟩:qe) i1 y5.Bc).bind fun r1=>
    (qgn n (⟨a_0.Aa.Ab,a_0.Aa.Ah,a_0.Aa.Af⟩:qe) i1 y6.To).bind fun r2=>
    (qlv n x2 y4 r1 r2 i2).bind fun r3=>
    qcH a_0 i1 y2 n r3 (W64 (i2+1))
   else
    qcH a_0 i1 y2 n x2 (W64 (i2+1))
  else
   V (x2,i2)
def qdq (r4:Int)(r5:(List Int)):Nat→(List qt)→Int→Option ((List qt)×Int)
 | 0,_,_=>U
 | n+1,x4,i4=>
  bif decide (i4<(r5.length:Int)) then
   (idx r5 i4).bind fun y7=>
   (qfp n x4 r4 y7 0 0 2 i4).bind fun r6=>
   (idx r5 i4).bind fun y8=>
   (qfp n r6 r4 y8 1 1 2 i4).bind fun r7=>
   qdq r4 r5 n r7 (W64 (i4+1))
  else
   V (x4,i4)
def qdB (a_0:qd):Nat→(List qt)→Int→Option ((List qt)×Int)
 | 0,_,_=>U
 | n+1,x3,i3=>
  bif decide (i3<(a_0.Aa.Ah.length:Int)) then
   (qiX n (⟨a_0.Aa.Ab,a_0.Aa.Ah,a_0.Aa.Af⟩:qe) i3).bind fun r4=>
   (qgQ n (⟨a_0.Aa.Ab,a_0.Aa.Ah,a_0.Aa.Af⟩:qe) i3).bind fun r5=>
   (qdq r4 r5 n x3 0).bind fun o=>match o with
   | (x4,_)=>
    qdB a_0 n x4 (W64 (i3+1))
  else
   V (x3,i3)
def qdr (a_0:qd):Nat→(List qt)→Int→Option ((List qt)×Int)
 | 0,_,_=>U
 | n+1,x1,i1=>
  bif decide (i1<(a_0.Aa.Ab.length:Int)) then
   (idx a_0.Aa.Ab i1).bind fun y1=>
   (idx a_0.Ap.Am y1.Bp).bind fun y2=>
   (qcH a_0 i1 y2 n x1 0).bind fun o=>match o with
   | (x2,_)=>
    qdr a_0 n x2 (W64 (i1+1))
  else
   V (x1,i1)
def qhZ (n:Nat)(a_0:qd):Option (List qt):=
 (qdr a_0 n ([]:List qt) 0).bind fun o=>match o with
 | (x1,_)=>
  (qdB a_0 n x1 0).bind fun o=>match o with
  | (x3,_)=>
   V x3
theorem qma {a_0:qd}(ha1:Ro w a_0 cs1){r:(List qt)}(F:qhZ n a_0=V r):RetV prog 93 [GoT.v qd cs1] w r:=by
 obtain⟨p1,k1,p2,k2,p3,k3,p4,k4,p5,k5,rfl,s1,s2,s3,s4,_⟩:=qM ha1;refine zV 105 func93 Z fun h=>zSR (qx h Z Z fun _ bb1 h=>X0 4 Z (qK qa [] _ ([]:List qt) h Z Z Z Z Z Z Z Z Z trivial Z fun _ _ _ h=>X1 6 1 h Z (qp qa h Z Z Z fun _ bb2 h=>zs 0 h Z fun _ h=>X0 6 Z ?_)));obtain⟨o1,F,hK1⟩:=qc F;refine qn (rL (fun m e w'=>∃(S2:Nat→Prop) (p7:Option Addr) (ln1:Nat) (k6:Nat) (x1:(List qt)) (i1:Int),qdr a_0 m x1 i1=V o1∧e=[(1,.pointer (V ⟨bb1,0,U⟩)),(3,.slice p7 ln1 k6),(4,.pointer (V ⟨bb2,0,U⟩)),(5,.int .i64 i1)]∧SH w w' [Ch.box bb2 (qaQ a_0.Aa p2 p3 p4 k2 k3 k4) 50,Ch.own S2 (x1:List qt) [.slice p7 ln1 k6],Ch.box bb1 (qT a_0 p1 p2 p3 p4 p5 k1 k2 k3 k4 k5) 53]) n ⟨_,_,_,_,_,_,F,rfl,h⟩ Z ?_);rintro m1 _ _ ⟨S2,p7,ln1,k6,x1,i1,F,rfl,h⟩;obtain rfl:=(h.sl 1 Z).2;rcases m1 with _|m1
 ·cases F
 refine X1 9 0 h Z (qh Z F ?_ ?_)<;>intro F
 ·refine X0 4 Z (rD (Y1 3 2 h Z ?_));refine Y1 2 0 h Z ?_;refine zd1 Z ?_;obtain⟨_,_,F,he1,_,_,_,_,hp1,hq1,hr1,hc2⟩:=s2.ix F;obtain⟨_,_,rfl,_⟩:=qF hr1;refine zdxe hp1 hq1 he1 Z (zd1 Z (zdc 1 (hc2.below h.below) Z ?_));obtain⟨y2,_,F,he2,_,_,_,_,hp2,hq2,hr2,hc3⟩:=s1.ix F;obtain⟨_,_,p10,k9,_,_,rfl,_,s8,_⟩:=qO hr2;refine zdxe hp2 hq2 he2 Z (zd1 Z (zdc 3 (hc3.below h.below) Z (zd1 Z (dN h fun _ h=>X0 4 Z ?_))));obtain⟨o2,F,hK2⟩:=qc F;refine qn (rL (fun m e w'=>∃(S3:Nat→Prop) (p12:Option Addr) (ln2:Nat) (k11:Nat) (x2:(List qt)) (i2:Int),qcH a_0 i1 y2 m x2 i2=V o2∧e=[(1,.pointer (V ⟨bb1,0,U⟩)),(3,.slice p12 ln2 k11),(4,.pointer (V ⟨bb2,0,U⟩)),(5,.int .i64 i1),(6,.slice p10 y2.Ak.length k9),(7,.int .i64 i2)]∧SH w w' [Ch.box bb2 (qaQ a_0.Aa p2 p3 p4 k2 k3 k4) 50,Ch.own S3 (x2:List qt) [.slice p12 ln2 k11],Ch.box bb1 (qT a_0 p1 p2 p3 p4 p5 k1 k2 k3 k4 k5) 53]) m1 ⟨_,_,_,_,_,_,F,rfl,h⟩ Z ?_);rintro m2 _ _ ⟨S3,p12,ln2,k11,x2,i2,F,rfl,h⟩;obtain rfl:=(h.sl 1 Z).2;rcases m2 with _|m2
  ·cases F
  refine X0 8 Z (qh Z F ?_ ?_)<;>intro F
  ·refine X0 7 Z ?_;obtain⟨_,_,F,he3,_,_,_,_,hp3,hq3,hr3,hc5⟩:=s8.ix F;obtain⟨_,_,_,_,rfl,_,_⟩:=qX hr3;refine zxe hp3 hq3 he3 Z (zp1 Z (zc 0 (hc5.below h.below) Z (X0 2 Z (qh Z F ?_ ?_))))<;>intro F
   ·refine rA [] [0] h Z fun _ h=>M0 7 [0,1,2] (h.pick [0] Z) Z ?_;obtain⟨y4,_,F,he4,_,_,_,_,hp4,hq4,hr4,hc7⟩:=s8.ix F;obtain⟨_,_,_,_,rfl,s12,s13⟩:=qX hr4;refine Ae 3 15 hp4 hq4 he4 (h.pick [0] Z) Z (Al 4 31 0 hc7 (h.pick [0] Z) Z (M1 511 [5,6,7,8] 0 (h.pick [0] Z) Z ?_));obtain⟨_,_,F,he5,_,_,_,_,hp5,hq5,hr5,hc8⟩:=s8.ix F;obtain⟨_,_,_,_,rfl,_,_⟩:=qX hr5;refine Ae 9 1023 hp5 hq5 he5 (h.pick [0] Z) Z (M0 2047 [10] (h.pick [0] Z) Z (Al 11 4095 1 hc8 (h.pick [0] Z) Z (M1 126975 [13,14,15,16] 0 (h.pick [0] Z) Z ?_)));obtain⟨_,_,F,he6,_,_,_,_,hp6,hq6,hr6,hc9⟩:=s8.ix F;obtain⟨_,_,_,_,rfl,_,_⟩:=qX hr6;refine Ae 17 258047 hp6 hq6 he6 (h.pick [0] Z) Z (M0 520191 [18] (h.pick [0] Z) Z (Al 19 1044479 2 hc9 (h.pick [0] Z) Z (M0 3141631 [21] (h.pick [0] Z) Z (Ao 12 3145727 Z (zcI h F (qii (qao _ (h.oldS s2) (h.oldS s3) (h.oldS s4))) Z fun _ _ h F=>Ag (h.pick [0] Z) (Ao 20 4194303 Z (zcI h F (qii (qao _ (h.oldS s2) (h.oldS s3) (h.oldS s4))) Z fun _ _ h F=>Ag (h.pick [0] Z) (Ao 22 8388607 Z ?_))))))));replace h:=h.pick [1,0,2] Z;obtain⟨_,hr9,F⟩:=qc F;refine qnO (cB 168 Z) (qp5 h (qfo y4 s12 s13) hr9) Z Z Z Z fun _ _ _ _ h=>G0 16777215 [23] (h.pick [1] Z) Z (Ad (X0 6 Z ?_));replace h:=h.pick [1,0,2] Z;exact rK ⟨_,_,_,_,_,_,F,rfl,h⟩ Z
   exact X0 7 Z (rK ⟨_,_,_,_,_,_,F,rfl,h⟩ Z)
  refine qq Z ?_;obtain rfl:=qb F;replace F:=hK2;exact X0 6 Z (rK ⟨_,_,_,_,_,_,F,rfl,h⟩ Z)
 refine qq Z ?_;obtain rfl:=qb F;replace F:=hK1;refine X0 5 Z ?_;obtain⟨o3,F,hK3⟩:=qc F;refine qn ?_;replace h:=h.pick [0,1] Z;refine rL (fun m e w'=>∃(S5:Nat→Prop) (p22:Option Addr) (ln3:Nat) (k21:Nat) (x3:(List qt)) (i3:Int),qdB a_0 m x3 i3=V o3∧e=[(3,.slice p22 ln3 k21),(4,.pointer (V ⟨bb2,0,U⟩)),(8,.int .i64 i3)]∧SH w w' [Ch.box bb2 (qaQ a_0.Aa p2 p3 p4 k2 k3 k4) 50,Ch.own S5 (x3:List qt) [.slice p22 ln3 k21]]) n ⟨_,_,_,_,_,_,F,rfl,h⟩ Z ?_;rintro m3 _ _ ⟨S5,p22,ln3,k21,x3,i3,F,rfl,h⟩;obtain rfl:=(h.sl 1 Z).2;rcases m3 with _|m3
 ·cases F
 refine X1 9 0 h Z (qh Z F ?_ ?_)<;>intro F
 ·refine X1 7 0 h Z (zcI h F (qoF (qao _ (h.oldS s2) (h.oldS s3) (h.oldS s4))) Z fun r4 _ h F=>X1 6 0 h Z (zcL h F (qjr (qao _ (h.oldS s2) (h.oldS s3) (h.oldS s4))) Z fun r5 _ S6 p23 k22 h F=>X0 6 Z ?_));obtain⟨o4,F,hK4⟩:=qc F;refine qn (rL (fun m e w'=>∃(S7:Nat→Prop) (p24:Option Addr) (ln4:Nat) (k23:Nat) (x4:(List qt)) (i4:Int),qdq r4 r5 m x4 i4=V o4∧e=[(3,.slice p24 ln4 k23),(4,.pointer (V ⟨bb2,0,U⟩)),(8,.int .i64 i3),(9,.int .i64 r4),(10,.slice p23 r5.length k22),(11,.int .i64 i4)]∧SH w w' [Ch.own S6 (r5:List Int) [.slice p23 r5.length k22],Ch.box bb2 (qaQ a_0.Aa p2 p3 p4 k2 k3 k4) 50,Ch.own S7 (x4:List qt) [.slice p24 ln4 k23]]) m3 ⟨_,_,_,_,_,_,F,rfl,h⟩ Z ?_);rintro m4 _ _ ⟨S7,p24,ln4,k23,x4,i4,F,rfl,h⟩;obtain rfl:=(h.sl 2 Z).2;rcases m4 with _|m4
  ·cases F
  refine X0 8 Z (qh Z F ?_ ?_)<;>intro F
  ·refine X0 9 Z ?_;obtain⟨_,_,F,he7,_,_,_,_,hp7,hq7,rfl,hc12⟩:=(h.sl 0 Z).1.ix F;refine zx hp7 hq7 ⟨he7.1,qC he7.2.1 (h.sl 0 Z).2⟩ Z (zc 0 hc12 Z (zp1 Z ?_));replace h:=h.pick [2,0,1] Z;obtain⟨_,hr13,F⟩:=qc F;refine qnO (cB 170 Z) (qgb h hr13) Z Z Z Z fun _ _ _ _ h=>X0 7 Z ?_;obtain⟨_,_,F,he8,_,_,_,_,hp8,hq8,rfl,hc13⟩:=(h.sl 1 Z).1.ix F;refine zx hp8 hq8 ⟨he8.1,qC he8.2.1 (h.sl 1 Z).2⟩ Z (zc 0 hc13 Z (zp1 Z ?_));obtain⟨_,hr15,F⟩:=qc F;refine qnO (cB 170 Z) (qgb h hr15) Z Z Z Z fun _ _ _ _ h=>X0 8 Z ?_;replace h:=h.pick [1,2,0] Z;exact rK ⟨_,_,_,_,_,_,F,rfl,h⟩ Z
  refine qq Z ?_;obtain rfl:=qb F;replace F:=hK4;refine X0 6 Z ?_;replace h:=h.pick [1,2] Z;exact rK ⟨_,_,_,_,_,_,F,rfl,h⟩ Z
 refine qq Z ?_;obtain rfl:=qb F;replace F:=hK3;refine X0 5 Z ?_;obtain rfl:=qb F;exact rO 1 h Z ⟨rfl,trivial⟩
def qiR (n:Nat)(b:qd)(broken:(List Int)):Option Int:=
 (qhS n b).bind fun r1=>
 bif (!r1) then V 1 else
 (qhZ n b).bind fun r2=>
 (qi1 n broken (r2.length:Int)).bind fun r3=>
 bif (!r3) then V 2 else
 V 0
theorem qqn {b:qd}{broken:(List Int)}(ha1:Ro w b cs1)(ha2:Ro w broken cs2){r:Int}(F:qiR n b broken=V r):RetV prog 91 [GoT.v qd cs1,GoT.v (List Int) cs2] w r:=by
 obtain⟨_,_,_,_,_,_,_,_,_,_,rfl,_,_,_,_,_⟩:=qM ha1;obtain⟨_,_,rfl,s6⟩:=ha2;refine zV 14 func91 Z fun h=>zSR (qx h Z Z fun _ _ h=>X1 6 0 h Z (zcB h F (qmJ (h.old ha1)) Z fun _ _ h F=>X0 2 Z (qh Z F ?_ ?_)))<;>intro F
 ·exact X0 4 Z (ri h F Z)
 refine X1 6 0 h Z (zcL h F (qma (h.old ha1)) Z fun _ _ _ _ _ h F=>zp1 Z (zcB h F (qoO ⟨_,_,rfl,(h.oldS s6)⟩) Z fun _ _ h F=>X0 2 Z (qh Z F ?_ ?_)))<;>intro F
 ·exact X0 4 Z (ri h F Z)
 exact X0 5 Z (ri h F Z)
def qft (_:Nat)(a:qH):Option (List qV):=
 bif (a.Aq==2) then V ([(⟨0,0⟩:qV),(⟨0,1⟩:qV)]:List qV) else
 bif (a.Aq==3) then V ([(⟨1,0⟩:qV),(⟨1,1⟩:qV)]:List qV) else
 bif (a.Aq != 1) then V [] else
 bif (a.Bn==1) then V ([(⟨0,0⟩:qV),(⟨1,1⟩:qV)]:List qV) else
 bif (a.Bn==2) then V ([(⟨0,1⟩:qV),(⟨1,0⟩:qV)]:List qV) else
 V ([(⟨0,0⟩:qV),(⟨0,1⟩:qV),(⟨1,0⟩:qV),(⟨1,1⟩:qV)]:List qV)
theorem ql4 {a:qH}(ha1:Ro w a cs1){r:(List qV)}(F:qft n a=V r):RetV prog 241 [GoT.v qH cs1] w r:=by
 obtain⟨_,_,_,_,rfl,_,_⟩:=qX ha1;refine zV 44 func241 Z fun h=>zSR (qx h Z Z fun _ _ h=>X0 4 Z (r_v (qgF qa [0,1] [.const (.int .i64 (0)),.const (.int .i64 (0))] Z Z Z Z Z Z Z Z Z) Z (r_v (qgF qa [0,1] [.const (.int .i64 (1)),.const (.int .i64 (1))] Z Z Z Z Z Z Z Z Z) Z (qK qa [.tmp 5,.tmp 6] _ ([(⟨0,0⟩:qV),(⟨1,1⟩:qV)]:List qV) h Z Z Z Z Z Z Z Z Z ⟨(qc9 (⟨0,0⟩:qV)),(qc9 (⟨1,1⟩:qV)),trivial⟩ Z fun _ _ _ h=>X0 4 Z (r_v (qgF qa [0,1] [.const (.int .i64 (0)),.const (.int .i64 (1))] Z Z Z Z Z Z Z Z Z) Z (r_v (qgF qa [0,1] [.const (.int .i64 (1)),.const (.int .i64 (0))] Z Z Z Z Z Z Z Z Z) Z (qK qa [.tmp 8,.tmp 9] _ ([(⟨0,1⟩:qV),(⟨1,0⟩:qV)]:List qV) h Z Z Z Z Z Z Z Z Z ⟨(qc9 (⟨0,1⟩:qV)),(qc9 (⟨1,0⟩:qV)),trivial⟩ Z fun _ _ _ h=>X1 11 2 h Z (qh Z F ?_ ?_))))))))<;>intro F
 ·refine zSR (r_v (qgF qa [0,1] [.const (.int .i64 (0)),.const (.int .i64 (0))] Z Z Z Z Z Z Z Z Z) Z (r_v (qgF qa [0,1] [.const (.int .i64 (0)),.const (.int .i64 (1))] Z Z Z Z Z Z Z Z Z) Z (qK qa [.tmp 15,.tmp 16] _ ([(⟨0,0⟩:qV),(⟨0,1⟩:qV)]:List qV) h Z Z Z Z Z Z Z Z Z ⟨(qc9 (⟨0,0⟩:qV)),(qc9 (⟨0,1⟩:qV)),trivial⟩ Z fun _ _ _ h=>X0 2 Z ?_)));obtain rfl:=qb F;exact rO 0 h Z ⟨rfl,trivial⟩
 refine X1 7 2 h Z (qh Z F ?_ ?_)<;>intro F
 ·refine zSR (r_v (qgF qa [0,1] [.const (.int .i64 (1)),.const (.int .i64 (0))] Z Z Z Z Z Z Z Z Z) Z (r_v (qgF qa [0,1] [.const (.int .i64 (1)),.const (.int .i64 (1))] Z Z Z Z Z Z Z Z Z) Z (qK qa [.tmp 22,.tmp 23] _ ([(⟨1,0⟩:qV),(⟨1,1⟩:qV)]:List qV) h Z Z Z Z Z Z Z Z Z ⟨(qc9 (⟨1,0⟩:qV)),(qc9 (⟨1,1⟩:qV)),trivial⟩ Z fun _ _ _ h=>X0 2 Z ?_)));obtain rfl:=qb F;exact rO 0 h Z ⟨rfl,trivial⟩
 refine X1 7 2 h Z (qh Z F ?_ ?_)<;>intro F
 ·refine X0 4 Z ?_;obtain rfl:=qb F;exact qae qa (ρ:=(List qV)) [GoT.v (List qV) [.slice U 0 0]] h ⟨rfl,trivial⟩ (PV.done h (qaj qb8))
 refine X1 7 2 h Z (qh Z F ?_ ?_)<;>intro F
 ·refine X0 5 Z ?_;obtain rfl:=qb F;exact rO 1 h Z ⟨rfl,trivial⟩
 refine X1 7 2 h Z (qh Z F ?_ ?_)<;>intro F
 ·refine X0 5 Z ?_;obtain rfl:=qb F;exact rO 0 h Z ⟨rfl,trivial⟩
 refine X0 4 Z (r_v (qgF qa [0,1] [.const (.int .i64 (0)),.const (.int .i64 (0))] Z Z Z Z Z Z Z Z Z) Z (r_v (qgF qa [0,1] [.const (.int .i64 (0)),.const (.int .i64 (1))] Z Z Z Z Z Z Z Z Z) Z (r_v (qgF qa [0,1] [.const (.int .i64 (1)),.const (.int .i64 (0))] Z Z Z Z Z Z Z Z Z) Z (r_v (qgF qa [0,1] [.const (.int .i64 (1)),.const (.int .i64 (1))] Z Z Z Z Z Z Z Z Z) Z (qK qa [.tmp 39,.tmp 40,.tmp 41,.tmp 42] _ ([(⟨0,0⟩:qV),(⟨0,1⟩:qV),(⟨1,0⟩:qV),(⟨1,1⟩:qV)]:List qV) h Z Z Z Z Z Z Z Z Z ⟨(qc9 (⟨0,0⟩:qV)),(qc9 (⟨0,1⟩:qV)),(qc9 (⟨1,0⟩:qV)),(qc9 (⟨1,1⟩:qV)),trivial⟩ Z fun _ _ _ h=>X0 2 Z ?_)))));obtain rfl:=qb F;exact rO 0 h Z ⟨rfl,trivial⟩
def qbs (first:Int)(i1:Int)(y2:qH)(r1:(List qV)):Nat→(List qt)→Int→Option ((List qt)×Int)
 | 0,_,_=>U
 | n+1,x2,i2=>
  bif decide (i2<(r1.length:Int)) then
   (idx r1 i2).bind fun y3=>
   (appS x2 ([(⟨W64 ((W64 (2*(W64 (first+y2.Bc))))+y3.e0),W64 ((W64 (2*(W64 (first+y2.To))))+y3.e1),1,i1⟩:qt)]:List qt)).bind fun x3=>
   qbs first i1 y2 r1 n x3 (W64 (i2+1))
  else
   V (x2,i2)
def qbu (first:Int)(y1:qv):Nat→(List qt)→Int→Option ((List qt)×Int)
 | 0,_,_=>U
 | n+1,x1,i1=>
  bif decide (i1<(y1.Ak.length:Int)) then
   (idx y1.Ak i1).bind fun y2=>
   (qft n y2).bind fun r1=>
   (qbs first i1 y2 r1 n x1 0).bind fun o=>match o with
   | (x2,_)=>
    qbu first y1 n x2 (W64 (i1+1))
  else
   V (x1,i1)
def qfA (n:Nat)(b:qd)(x:qk)(first:Int):Option (List qt):=
 (idx b.Ap.Am x.Bp).bind fun y1=>
 (qbu first y1 n ([]:List qt) 0).bind fun o=>match o with
 | (x1,_)=>
  V x1
theorem ql2 {b:qd}{x:qk}{first:Int}(ha1:Ro w b cs1)(ha2:Ro w x cs2){r:(List qt)}(F:qfA n b x first=V r):RetV prog 174 [GoT.v qd cs1,GoT.v qk cs2,.int .i64 first] w r:=by
 obtain⟨_,_,_,_,_,_,_,_,_,_,rfl,s1,_,_,_,_⟩:=qM ha1;obtain⟨_,_,rfl,_⟩:=qF ha2;refine zV 57 func174 Z fun h=>zSR (qx h Z Z fun _ _ h=>qx h Z Z fun _ _ h=>X2 14 1 0 h Z ?_);obtain⟨y1,_,F,he1,_,_,_,_,hp1,hq1,hr1,hc1⟩:=s1.ix F;obtain⟨_,_,p8,k8,_,_,rfl,_,s8,_⟩:=qO hr1;refine zxe hp1 hq1 he1 Z (zp1 Z (zc 3 (hc1.below h.below) Z (X0 3 Z ?_)));replace h:=h.nil (α:=qt);obtain⟨o1,F,hK1⟩:=qc F;refine qn ?_;replace h:=h.pick [0] Z;refine rL (fun m e w'=>∃(S1:Nat→Prop) (p10:Option Addr) (ln1:Nat) (k10:Nat) (x1:(List qt)) (i1:Int),qbu first y1 m x1 i1=V o1∧e=[(2,.int .i64 first),(7,.slice p10 ln1 k10),(19,.slice p8 y1.Ak.length k8),(20,.int .i64 (y1.Ak.length:Int)),(21,.int .i64 i1)]∧SH w w' [Ch.own S1 (x1:List qt) [.slice p10 ln1 k10]]) n ⟨_,_,_,_,_,_,F,rfl,h⟩ Z ?_;rintro m1 _ _ ⟨S1,p10,ln1,k10,x1,i1,F,rfl,h⟩;obtain rfl:=(h.sl 0 Z).2;rcases m1 with _|m1
 ·cases F
 refine X0 5 Z (qh Z F ?_ ?_)<;>intro F
 ·refine X0 6 Z ?_;obtain⟨y2,_,F,he2,_,_,_,_,hp2,hq2,hr2,hc3⟩:=s8.ix F;obtain⟨p11,k11,p12,k12,rfl,s10,s11⟩:=qX hr2;refine zxe hp2 hq2 he2 Z (zc 0 (hc3.below h.below) Z (qp qa h Z Z Z fun _ bb3 h=>zp1 Z (zs 0 h Z fun _ h=>X1 4 0 h Z (zcL h F (ql4 (qfo y2 (h.oldS s10) (h.oldS s11))) Z fun r1 _ S2 p13 k13 h F=>X0 3 Z ?_))));obtain⟨o2,F,hK2⟩:=qc F;refine qn (rL (fun m e w'=>∃(S3:Nat→Prop) (p14:Option Addr) (ln2:Nat) (k14:Nat) (x2:(List qt)) (i2:Int),qbs first i1 y2 r1 m x2 i2=V o2∧e=[(2,.int .i64 first),(7,.slice p14 ln2 k14),(8,.int .i64 i1),(9,.pointer (V ⟨bb3,0,U⟩)),(19,.slice p8 y1.Ak.length k8),(20,.int .i64 (y1.Ak.length:Int)),(21,.int .i64 i1),(27,.slice p13 r1.length k13),(28,.int .i64 (r1.length:Int)),(29,.int .i64 i2)]∧SH w w' [Ch.own S2 (r1:List qV) [.slice p13 r1.length k13],Ch.box bb3 (qhc y2 p11 p12 k11 k12) 254,Ch.own S3 (x2:List qt) [.slice p14 ln2 k14]]) m1 ⟨_,_,_,_,_,_,F,rfl,h⟩ Z ?_);rintro m2 _ _ ⟨S3,p14,ln2,k14,x2,i2,F,rfl,h⟩;obtain rfl:=(h.sl 2 Z).2;rcases m2 with _|m2
  ·cases F
  refine X0 5 Z (qh Z F ?_ ?_)<;>intro F
  ·refine zKSBSR ?_;obtain⟨y3,_,F,he3,_,_,_,_,hp3,hq3,hr4,hc5⟩:=(h.sl 0 Z).1.ix F;obtain rfl:=qs9 hr4;refine zx hp3 hq3 ⟨he3.1,qC he3.2.1 (h.sl 0 Z).2⟩ Z (zc 0 hc5 Z (qp qa h Z Z Z fun _ _ h=>zs 0 h Z fun _ h=>X1 8 2 h Z (r_v (qy3 (iv:=0) qa Z Z (by decide) ⟨rfl,rfl⟩ Z Z) Z (X2 7 0 2 h Z (r_v (qy3 (iv:=1) qa Z Z (by decide) ⟨rfl,rfl⟩ Z Z) Z (X1 3 0 h Z (r_v (qJ qa [0,1,2,3] [.tmp 41,.tmp 49,.const (.int .i64 (1)),.tmp 50] Z Z Z Z Z Z Z Z) Z (qK qa [.tmp 51] _ ([(⟨W64 ((W64 (2*(W64 (first+y2.Bc))))+y3.e0),W64 ((W64 (2*(W64 (first+y2.To))))+y3.e1),1,i1⟩:qt)]:List qt) h Z Z Z Z Z Z Z Z Z ⟨(qcf (⟨W64 ((W64 (2*(W64 (first+y2.Bc))))+y3.e0),W64 ((W64 (2*(W64 (first+y2.To))))+y3.e1),1,i1⟩:qt)),trivial⟩ Z fun _ _ _ h=>?_))))))));obtain⟨_,hx1,F⟩:=qc F;obtain⟨g1,hx1⟩:=qan hx1;refine qbW qa 4 h Z (h.sl 0 Z).1 (h.sl 0 Z).2 Z Z Z Z Z Z Z Z Z g1 hx1 Z fun _ _ _ _ h=>X0 7 Z ?_;replace h:=h.pick [2,3,4] Z;exact rK ⟨_,_,_,_,_,_,F,rfl,h⟩ Z
  refine qq Z ?_;obtain rfl:=qb F;replace F:=hK2;refine X0 5 Z ?_;replace h:=h.pick [2] Z;exact rK ⟨_,_,_,_,_,_,F,rfl,h⟩ Z
 refine qq Z ?_;obtain rfl:=qb F;replace F:=hK1;refine X0 5 Z ?_;obtain rfl:=qb F;exact rO 0 h Z ⟨rfl,trivial⟩
def qin (_:Nat)(s:(List Int)):Option (List Int):=
 appS ([]:List Int) s
theorem qmS {s:(List Int)}(ha1:Ro w s cs1){r:(List Int)}(F:qin n s=V r):RetV prog 242 [GoT.v (List Int) cs1] w r:=by
 obtain⟨p,k,rfl,s1⟩:=ha1;obtain⟨g1,hx⟩:=qan (show appS ([]:List Int) s=V r from F);cases p with
 | none=>
  obtain rfl:=qt2 s1;obtain rfl:[]=r:=hx;exact zV 8 func242 Z fun h=>X0 8 Z (r_v (qtq qa Z Z Z Z Z) Z (qcP (qfQ Z Z (X0 4 Z (qae qa (ρ:=(List Int)) [GoT.v (List Int) [.slice U 0 0]] h ⟨rfl,trivial⟩ (PV.done h (qaj qb8)))))))
 | some a=>
  refine zV 8 func242 Z fun h=>X0 8 Z (r_v (qtq qa Z Z Z Z Z) Z (qcP (qdi Z Z (zKSR (qK qa [] _ ([]:List Int) h Z Z Z Z Z Z Z Z Z trivial Z fun _ _ _ h=>zp1 Z (qze qa 0 h Z (h.oldS s1) Z Z Z Z Z Z Z Z Z Z g1 Z fun _ p2 k2 _ h=>?_))))));rw[hx] at h;exact X0 2 Z (qae qa (ρ:=(List Int)) [GoT.v (List Int) [.slice p2 (([]:List Int).length+s.length) k2]] h ⟨rfl,trivial⟩ (PV.done h (qaj (qaA 0 h Z))))
def qa6 (net:Int)(r1:(List Tplace)):Nat→(List Int)→Int→Option ((List Int)×Int)
 | 0,_,_=>U
 | n+1,x1,i1=>
  bif decide (i1<(r1.length:Int)) then
   (idx r1 i1).bind fun y1=>
   bif (y1.net==net) then
    bif (!y1.drives) then
     (appS x1 ([i1]:List Int)).bind fun x2=>
     qa6 net r1 n x2 (W64 (i1+1))
    else
     qa6 net r1 n x1 (W64 (i1+1))
   else
    qa6 net r1 n x1 (W64 (i1+1))
  else
   V (x1,i1)
def qg1 (n:Nat)(d:qe)(net:Int):Option (List Int):=
 (qcC n d).bind fun r1=>
 (qa6 net r1 n ([]:List Int) 0).bind fun o=>match o with
 | (x1,_)=>
  V x1
theorem qnk {d:qe}{net:Int}(ha1:Ro w d cs1){r:(List Int)}(F:qg1 n d net=V r):RetV prog 243 [GoT.v qe cs1,.int .i64 net] w r:=by
 obtain⟨_,_,_,_,_,_,rfl,_,_,_⟩:=qaD ha1;refine zV 31 func243 Z fun h=>zSR (qx h Z Z fun _ _ h=>X1 10 0 h Z (zcL h F (qe2 (h.old ha1)) Z fun r1 _ S1 p4 k4 h F=>X0 3 Z ?_));replace h:=h.nil (α:=Int);obtain⟨o1,F,hK1⟩:=qc F;refine qn ?_;replace h:=h.pick [0,1] Z;refine rL (fun m e w'=>∃(S2:Nat→Prop) (p5:Option Addr) (ln1:Nat) (k5:Nat) (x1:(List Int)) (i1:Int),qa6 net r1 m x1 i1=V o1∧e=[(1,.int .i64 net),(5,.slice p5 ln1 k5),(9,.slice p4 r1.length k4),(10,.int .i64 (r1.length:Int)),(11,.int .i64 i1)]∧SH w w' [Ch.own S2 (x1:List Int) [.slice p5 ln1 k5],Ch.own S1 (r1:List Tplace) [.slice p4 r1.length k4]]) n ⟨_,_,_,_,_,_,F,rfl,h⟩ Z ?_;rintro m1 _ _ ⟨S2,p5,ln1,k5,x1,i1,F,rfl,h⟩;obtain rfl:=(h.sl 0 Z).2;rcases m1 with _|m1
 ·cases F
 refine X0 5 Z (qh Z F ?_ ?_)<;>intro F
 ·refine X0 6 Z ?_;obtain⟨_,_,F,he1,_,_,_,_,hp1,hq1,hr2,hc2⟩:=(h.sl 1 Z).1.ix F;obtain rfl:=qfk hr2;refine zx hp1 hq1 ⟨he1.1,qC he1.2.1 (h.sl 1 Z).2⟩ Z (zc 0 hc2 Z (qp qa h Z Z Z fun _ _ h=>zp1 Z (zs 0 h Z fun _ h=>X1 8 0 h Z (qm (t:=20) F Z ?_ ?_))))<;>intro F
  ·refine X1 8 0 h Z (qh Z F ?_ ?_)<;>intro F
   ·refine X0 3 Z (qK qa [.tmp 26] _ ([i1]:List Int) h Z Z Z Z Z Z Z Z Z ⟨rfl,trivial⟩ Z fun _ _ _ h=>?_);obtain⟨_,hx1,F⟩:=qc F;obtain⟨g1,hx1⟩:=qan hx1;refine qbW qa 2 h Z (h.sl 0 Z).1 (h.sl 0 Z).2 Z Z Z Z Z Z Z Z Z g1 hx1 Z fun _ _ _ _ h=>X0 7 Z ?_;replace h:=h.pick [2,3] Z;exact rK ⟨_,_,_,_,_,_,F,rfl,h⟩ Z
   refine X0 6 Z ?_;replace h:=h.pick [1,2] Z;exact rK ⟨_,_,_,_,_,_,F,rfl,h⟩ Z
  refine X0 5 Z (qdi Z Z (X0 6 Z ?_));replace h:=h.pick [1,2] Z;exact rK ⟨_,_,_,_,_,_,F,rfl,h⟩ Z
 refine qq Z ?_;obtain rfl:=qb F;replace F:=hK1;refine X0 5 Z ?_;obtain rfl:=qb F;exact rO 0 h Z ⟨rfl,trivial⟩
def qg0 (_:Nat)(d:qe)(l:qr)(p:Tplace):Option Int:=
 bif decide (p.instance_<0) then V 0 else
 (idx d.Ab p.instance_).bind fun y1=>
 (idx l.Am y1.Bp).bind fun y2=>
 (idx y2.As p.pin).bind fun y3=>
 V y3.Br
theorem qmX {d:qe}{l:qr}{p:Tplace}(ha1:Ro w d cs1)(ha2:Ro w l cs2)(ha3:Ro w p cs3){r:Int}(F:qg0 n d l p=V r):RetV prog 244 [GoT.v qe cs1,GoT.v qr cs2,GoT.v Tplace cs3] w r:=by
 obtain⟨_,_,_,_,_,_,rfl,s1,_,_⟩:=qaD ha1;obtain⟨_,_,rfl,s4⟩:=qbN ha2;obtain rfl:=qfk ha3;refine zV 27 func244 Z fun h=>zSR (qx h Z Z fun _ _ h=>qx h Z Z fun _ _ h=>qx h Z Z fun _ _ h=>X1 9 0 h Z (qh Z F ?_ ?_))<;>intro F
 ·exact X0 4 Z (ri h F Z)
 refine zKS (rD (Y1 2 1 h Z ?_));refine Y1 2 2 h Z ?_;refine Y1 2 0 h Z ?_;obtain⟨_,_,F,he1,_,_,_,_,hp1,hq1,hr1,hc2⟩:=s1.ix F;obtain⟨_,_,rfl,_⟩:=qF hr1;refine zdxe hp1 hq1 he1 Z (zd1 Z (zdc 1 (hc2.below h.below) Z ?_));obtain⟨_,_,F,he2,_,_,_,_,hp2,hq2,hr2,hc3⟩:=s4.ix F;obtain⟨_,_,_,_,_,_,rfl,s6,_,_⟩:=qO hr2;refine zdxe hp2 hq2 he2 Z (zd1 Z (zdc 2 (hc3.below h.below) Z (Y1 2 0 h Z ?_)));obtain⟨_,_,F,he3,_,_,_,_,hp3,hq3,hr3,hc4⟩:=s6.ix F;obtain rfl:=qaV hr3;exact zdxe hp3 hq3 he3 Z (zd1 Z (zdc 2 (hc4.below h.below) Z (zd1 Z (dN h fun _ h=>ri h F Z))))
def qby (y1:qG):Nat→(List Int)→Int→Option ((List Int)×Int)
 | 0,_,_=>U
 | n+1,x2,i2=>
  bif decide (i2 > 0) then
   (idx y1.Aj i2).bind fun y7=>
   (idx x2 y7).bind fun y8=>
   (idx x2 i2).bind fun y9=>
   (idx x2 y7).bind fun _=>
   qby y1 n (setS x2 y7 (W64 (y8+y9))) (W64 (i2-1))
  else
   V (x2,i2)
def qbr (a_0:qd)(y1:qG)(r2:(List Tplace))(r3:(List Int)):Nat→(List Int)→Int→Option ((List Int)×Int)
 | 0,_,_=>U
 | n+1,x1,i1=>
  bif decide (i1<(r3.length:Int)) then
   (idx r3 i1).bind fun y2=>
   (idx y1.Bi i1).bind fun y3=>
   (idx x1 y3).bind fun y4=>
   (idx r2 y2).bind fun y5=>
   (qg0 n (⟨a_0.Aa.Ab,a_0.Aa.Ah,a_0.Aa.Af⟩:qe) (⟨a_0.Ap.Am⟩:qr) y5).bind fun r4=>
   (idx x1 y3).bind fun _=>
   qbr a_0 y1 r2 r3 n (setS x1 y3 (W64 (y4+r4))) (W64 (i1+1))
  else
   V (x1,i1)
def qdF (n:Nat)(a_0:qd)(a_1:Int):Option (List Int):=
 (idx a_0.Ac a_1).bind fun y1=>
 (qin n y1.Br).bind fun r1=>
 (qcC n (⟨a_0.Aa.Ab,a_0.Aa.Ah,a_0.Aa.Af⟩:qe)).bind fun r2=>
 (qg1 n (⟨a_0.Aa.Ab,a_0.Aa.Ah,a_0.Aa.Af⟩:qe) a_1).bind fun r3=>
 (qbr a_0 y1 r2 r3 n r1 0).bind fun o=>match o with
 | (x1,_)=>
  (qby y1 n x1 (W64 ((r1.length:Int)-1))).bind fun o=>match o with
  | (x2,_)=>
   V x2
theorem qfZ {a_0:qd}{a_1:Int}(ha1:Ro w a_0 cs1){r:(List Int)}(F:qdF n a_0 a_1=V r):RetV prog 176 [GoT.v qd cs1,.int .i64 a_1] w r:=by
 obtain⟨p1,k1,p2,k2,p3,k3,p4,k4,p5,k5,rfl,s1,s2,s3,s4,s5⟩:=qM ha1;refine zV 74 func176 Z fun h=>zSR (qx h Z Z fun w1 bb1 h=>X1 7 0 h Z ?_);obtain⟨y1,_,F,he1,_,_,_,_,hp1,hq1,hr1,hc1⟩:=s5.ix F;obtain⟨p6,k6,p7,k7,p8,k8,p9,k9,rfl,s6,_,s8,s9⟩:=qaO hr1;refine zxe hp1 hq1 he1 Z (zc 0 (hc1.below h.below) Z (qp qa h Z Z Z fun _ bb2 h=>zs 0 h Z fun _ h=>X1 5 0 h Z (zcL h F (qmS ⟨_,_,rfl,(h.oldS s8)⟩) Z fun r1 _ S1 p10 k10 h F=>X1 6 2 h Z (zcL h F (qe2 (qao _ (h.oldS s2) (h.oldS s3) (h.oldS s4))) Z fun r2 _ S2 p11 k11 h F=>X1 8 3 h Z (zcL h F (qnk (qao _ (h.oldS s2) (h.oldS s3) (h.oldS s4))) Z fun r3 _ S3 p12 k12 h F=>X0 3 Z ?_)))));obtain⟨o1,F,hK1⟩:=qc F;refine qn (rL (fun m e w'=>∃(x1:(List Int)) (i1:Int),qbr a_0 y1 r2 r3 m x1 i1=V o1∧e=[(2,.pointer (V ⟨bb1,0,U⟩)),(5,.pointer (V ⟨bb2,0,U⟩)),(6,.slice p10 r1.length k10),(7,.slice p11 r2.length k11),(25,.slice p12 r3.length k12),(26,.int .i64 (r3.length:Int)),(27,.int .i64 i1)]∧SH w w' [Ch.own S3 (r3:List Int) [.slice p12 r3.length k12],Ch.own S2 (r2:List Tplace) [.slice p11 r2.length k11],Ch.own S1 (x1:List Int) [.slice p10 r1.length k10],Ch.box bb2 (qg5 y1 p6 p7 p8 p9 k6 k7 k8 k9) 210,Ch.box bb1 (qT a_0 p1 p2 p3 p4 p5 k1 k2 k3 k4 k5) 53]) n ⟨_,_,F,rfl,h⟩ Z ?_);rintro m1 _ _ ⟨x1,i1,F,rfl,h⟩;rcases m1 with _|m1
 ·cases F
 refine X0 5 Z (qh Z F ?_ ?_)<;>intro F
 ·refine X0 6 Z ?_;obtain⟨_,_,F,he2,_,_,_,_,hp2,hq2,rfl,hc3⟩:=(h.sl 0 Z).1.ix F;refine zx hp2 hq2 ⟨he2.1,qC he2.2.1 (h.sl 0 Z).2⟩ Z (zc 0 hc3 Z (X0 3 Z (rA [19] [1,2,3,4] h Z fun _ h=>M1 15 [0,1,2,3] 2 (h.pick [1,2,3,4] Z) Z ?_)));obtain⟨_,_,F,he3,_,_,_,_,hp3,hq3,rfl,hc4⟩:=s9.ix F;refine Ae 4 31 hp3 hq3 he3 (h.pick [1,2,3,4] Z) Z (Al 5 63 0 hc4 (h.pick [1,2,3,4] Z) Z ?_);obtain⟨y4,hy4,F,he4,_,_,_,_,hp4,hq4,rfl,_⟩:=(h.sl 2 Z).1.ix F;refine Ax 6 127 hp4 hq4 ⟨he4.1,qC he4.2.1 (h.sl 2 Z).2⟩ (h.pick [1,2,3,4] Z) Z (Aw 7 255 (fun w' hw=>qhX qa (qbY (w1:=w) (S1:=fun _=>False) hw 1 Z hy4 hp4 hq4 Z) (j:=0) Z Z Z) (h.pick [1,2,3,4] Z) Z ?_);refine M2 16383 [8,9,10,11,12,13] 3 3 (h.pick [1,2,3,4] Z) Z ?_;obtain⟨y5,hy5,F,he5,_,_,_,_,hp5,hq5,hr8,_⟩:=(h.sl 1 Z).1.ix F;obtain rfl:=qfk hr8;refine Ax 14 32767 hp5 hq5 ⟨he5.1,qC he5.2.1 (h.sl 1 Z).2⟩ (h.pick [1,2,3,4] Z) Z (Aw 15 65535 (fun w' hw=>qhX qa (qbY hw 0 Z hy5 hp5 hq5 (qms (w:=w) (S:=fun _=>False) y5)) (j:=0) Z Z Z) (h.pick [1,2,3,4] Z) Z ?_);refine Ao 16 131071 Z (zcI h F (qmX (qao _ (h.oldS s2) (h.oldS s3) (h.oldS s4)) (qep _ (h.oldS s1)) (qms y5)) Z fun r4 _ h F=>G0 262143 [17] (h.pick [1,2,3,4] Z) Z ?_);obtain⟨_,hy6,F,he6,_,_,_,_,hp6,hq6,rfl,hc7⟩:=(h.sl 2 Z).1.ix F;exact Ax 18 524287 hp6 hq6 ⟨he6.1,qC he6.2.1 (h.sl 2 Z).2⟩ (h.pick [1,2,3,4] Z) Z (Ao 19 1048575 Z (qay qa 2 0 (W64 (y4+r4)) h Z hy6 hp6 hq6 Z hc7 Z Z Z Z Z Z Z fun _ h=>qbf (fun hs=>absurd (hs 19 (by decide)) (by decide)) (Ad (X0 5 Z (rK ⟨_,_,F,rfl,h⟩ Z)))))
 refine qq Z ?_;obtain rfl:=qb F;replace F:=hK1;refine X0 8 Z ?_;obtain⟨o2,F,hK2⟩:=qc F;refine qn ?_;replace h:=h.pick [2,3] Z;refine rL (fun m e w'=>∃(x2:(List Int)) (i2:Int),qby y1 m x2 i2=V o2∧e=[(5,.pointer (V ⟨bb2,0,U⟩)),(6,.slice p10 r1.length k10),(10,.int .i64 i2)]∧SH w w' [Ch.own S1 (x2:List Int) [.slice p10 r1.length k10],Ch.box bb2 (qg5 y1 p6 p7 p8 p9 k6 k7 k8 k9) 210]) n ⟨_,_,F,rfl,h⟩ Z ?_;rintro m2 _ _ ⟨x2,i2,F,rfl,h⟩;rcases m2 with _|m2
 ·cases F
 refine X0 6 Z (qh Z F ?_ ?_)<;>intro F
 ·refine zKSB (rA [14] [0,1] h Z fun _ h=>M1 15 [0,1,2,3] 1 (h.pick [0,1] Z) Z ?_);obtain⟨_,_,F,he7,_,_,_,_,hp7,hq7,rfl,hc9⟩:=s6.ix F;refine Ae 4 31 hp7 hq7 he7 (h.pick [0,1] Z) Z (Al 5 63 0 hc9 (h.pick [0,1] Z) Z ?_);obtain⟨y8,hy8,F,he8,_,_,_,_,hp8,hq8,rfl,_⟩:=(h.sl 0 Z).1.ix F;refine Ax 6 127 hp8 hq8 ⟨he8.1,qC he8.2.1 (h.sl 0 Z).2⟩ (h.pick [0,1] Z) Z (Aw 7 255 (fun w' hw=>qhX qa (qbY (w1:=w) (S1:=fun _=>False) hw 0 Z hy8 hp8 hq8 Z) (j:=0) Z Z Z) (h.pick [0,1] Z) Z ?_);refine M0 1023 [8,9] (h.pick [0,1] Z) Z ?_;obtain⟨y9,hy9,F,he9,_,_,_,_,hp9,hq9,rfl,_⟩:=(h.sl 0 Z).1.ix F;refine Ax 10 2047 hp9 hq9 ⟨he9.1,qC he9.2.1 (h.sl 0 Z).2⟩ (h.pick [0,1] Z) Z (Aw 11 4095 (fun w' hw=>qhX qa (qbY (w1:=w) (S1:=fun _=>False) hw 0 Z hy9 hp9 hq9 Z) (j:=0) Z Z Z) (h.pick [0,1] Z) Z ?_);refine M0 8191 [12] (h.pick [0,1] Z) Z ?_;obtain⟨_,hy10,F,he10,_,_,_,_,hp10,hq10,rfl,hc12⟩:=(h.sl 0 Z).1.ix F;exact Ax 13 16383 hp10 hq10 ⟨he10.1,qC he10.2.1 (h.sl 0 Z).2⟩ (h.pick [0,1] Z) Z (Ao 14 32767 Z (qay qa 0 0 (W64 (y8+y9)) h Z hy10 hp10 hq10 Z hc12 Z Z Z Z Z Z Z fun _ h=>qbf (fun hs=>absurd (hs 14 (by decide)) (by decide)) (Ad (X0 6 Z (rK ⟨_,_,F,rfl,h⟩ Z)))))
 refine qq Z ?_;obtain rfl:=qb F;replace F:=hK2;refine X0 5 Z ?_;obtain rfl:=qb F;exact rO 0 h Z ⟨rfl,trivial⟩
def qbO (y1:qG)(r1:(List Int))(x1:(List Int)):Nat→(List Int)→Int→Option ((List Int)×Int)
 | 0,_,_=>U
 | n+1,x2,i1=>
  bif decide (i1<(x1.length:Int)) then
   (idx y1.Aj i1).bind fun y2=>
   (idx x2 y2).bind fun y3=>
   (idx y1.Bv i1).bind fun y4=>
   (idx r1 i1).bind fun y5=>
   (idx x2 i1).bind fun _=>
   qbO y1 r1 x1 n (setS x2 i1 (W64 (y3+(W64 (y4*y5))))) (W64 (i1+1))
  else
   V (x2,i1)
def qe0 (n:Nat)(b:qd)(net:Int):Option (List Int):=
 (idx b.Ac net).bind fun y1=>
 (qdF n b net).bind fun r1=>
 (mkS (r1.length:Int) (0:Int)).bind fun x1=>
 (qbO y1 r1 x1 n x1 1).bind fun o=>match o with
 | (x2,_)=>
  V x2
theorem qlO {b:qd}{net:Int}(ha1:Ro w b cs1){r:(List Int)}(F:qe0 n b net=V r):RetV prog 245 [GoT.v qd cs1,.int .i64 net] w r:=by
 obtain⟨p1,k1,p2,k2,p3,k3,p4,k4,p5,k5,rfl,_,_,_,_,s5⟩:=qM ha1;refine zV 49 func245 Z fun h=>zSR (qx h Z Z fun w1 bb1 h=>X0 3 Z (rA [] [0] h Z fun _ h=>M1 7 [0,1,2] 0 (h.pick [0] Z) Z ?_));obtain⟨y1,_,F,he1,_,_,_,_,hp1,hq1,hr1,hc1⟩:=s5.ix F;obtain⟨p6,k6,p7,k7,p8,k8,p9,k9,rfl,s6,s7,_,_⟩:=qaO hr1;refine Ae 3 15 hp1 hq1 he1 (h.pick [0] Z) Z (Al 4 31 0 hc1 (h.pick [0] Z) Z (M1 127 [5,6] 0 (h.pick [0] Z) Z ?_));obtain⟨r1,hr2,F⟩:=qc F;refine qnx (fun e w'=>∃(bb6:Nat) (S5:Nat→Prop) (p14:Option Addr) (k14:Nat),e=[(5,.pointer (V ⟨bb6,0,U⟩)),(6,.slice p14 r1.length k14)]∧SH w w' [Ch.box bb6 (qg5 y1 p6 p7 p8 p9 k6 k7 k8 k9) 210,Ch.own S5 (r1:List Int) [.slice p14 r1.length k14],Ch.box bb1 (qT b p1 p2 p3 p4 p5 k1 k2 k3 k4 k5) 53]) 0 (bits 11 2047) ?_ ?_
 ·intro K;refine At 7 8 255 383 Z ?_ ?_
  ·exact qhC r1 h (cB 176 Z) (qfZ (h.old ha1) hr2) Z Z Z Z fun w10 S4 p13 k13 h=>Ag (h.pick [1] Z) (Ao 8 511 Z (qp qa h Z Z Z fun w11 bb5 h=>Ag (h.pick [2] Z) (Ao 9 1023 Z (zs 0 h Z fun w12 h=>G0 2047 [10] (h.pick [2] Z) Z (qfK [(5,_),(6,_)] ⟨rfl,rfl,trivial⟩ (K _ _ ⟨_,_,_,_,rfl,h⟩))))))
  refine qp qa h Z Z Z fun w10 bb5 h=>Ag (h.pick [1] Z) (Ao 7 511 Z (qhC r1 h (cB 176 Z) (qfZ (h.old ha1) hr2) Z Z Z Z fun w11 S4 p13 k13 h=>Ag (h.pick [2] Z) (Ao 9 1023 Z (zs 1 h Z fun w12 h=>G0 2047 [10] (h.pick [2] Z) Z ?_))));replace h:=h.pick [1,0,2] Z;exact qfK [(5,_),(6,_)] ⟨rfl,rfl,trivial⟩ (K _ _ ⟨_,_,_,_,rfl,h⟩)
 rintro _ _ ⟨bb6,S5,p14,k14,rfl,h⟩;refine Ad (X0 4 Z ?_);obtain⟨x1,hx1,F⟩:=qc F;obtain⟨g1,g2,hx1⟩:=qac hx1;refine qaw qa Int h Z Z Z Z Z Z Z Z Z g1 g2 hx1 Z fun _ S6 p15 h=>X0 7 Z ?_;obtain⟨o1,F,hK1⟩:=qc F;refine qn ?_;replace h:=h.pick [0,1,2] Z;refine rL (fun m e w'=>∃(x2:(List Int)) (i1:Int),qbO y1 r1 x1 m x2 i1=V o1∧e=[(5,.pointer (V ⟨bb6,0,U⟩)),(6,.slice p14 r1.length k14),(7,.slice p15 x1.length x1.length),(8,.int .i64 i1)]∧SH w w' [Ch.own S6 (x2:List Int) [.slice p15 x1.length x1.length],Ch.box bb6 (qg5 y1 p6 p7 p8 p9 k6 k7 k8 k9) 210,Ch.own S5 (r1:List Int) [.slice p14 r1.length k14]]) n ⟨_,_,F,rfl,h⟩ Z ?_;rintro m1 _ _ ⟨x2,i1,F,rfl,h⟩;rcases m1 with _|m1
 ·cases F
 refine X0 8 Z (qh Z F ?_ ?_)<;>intro F
 ·refine zKSB (rA [22] [0,1,2] h Z fun _ h=>M1 63 [0,1,2,3,4,5] 1 (h.pick [0,1,2] Z) Z ?_);obtain⟨_,_,F,he2,_,_,_,_,hp2,hq2,rfl,hc3⟩:=s6.ix F;refine Ae 6 127 hp2 hq2 he2 (h.pick [0,1,2] Z) Z (Al 7 255 0 hc3 (h.pick [0,1,2] Z) Z ?_);obtain⟨y3,hy3,F,he3,_,_,_,_,hp3,hq3,rfl,_⟩:=(h.sl 0 Z).1.ix F;refine Ax 8 511 hp3 hq3 ⟨he3.1,qC he3.2.1 (h.sl 0 Z).2⟩ (h.pick [0,1,2] Z) Z (Aw 9 1023 (fun w' hw=>qhX qa (qbY (w1:=w) (S1:=fun _=>False) hw 0 Z hy3 hp3 hq3 Z) (j:=0) Z Z Z) (h.pick [0,1,2] Z) Z ?_);refine M1 8191 [10,11,12] 1 (h.pick [0,1,2] Z) Z ?_;obtain⟨y4,_,F,he4,_,_,_,_,hp4,hq4,rfl,hc5⟩:=s7.ix F;refine Ae 13 16383 hp4 hq4 he4 (h.pick [0,1,2] Z) Z (Al 14 32767 0 hc5 (h.pick [0,1,2] Z) Z (M0 131071 [15,16] (h.pick [0,1,2] Z) Z ?_));obtain⟨y5,hy5,F,he5,_,_,_,_,hp5,hq5,rfl,_⟩:=(h.sl 2 Z).1.ix F;refine Ax 17 262143 hp5 hq5 ⟨he5.1,qC he5.2.1 (h.sl 2 Z).2⟩ (h.pick [0,1,2] Z) Z (Aw 18 524287 (fun w' hw=>qhX qa (qbY (w1:=w) (S1:=fun _=>False) hw 2 Z hy5 hp5 hq5 Z) (j:=0) Z Z Z) (h.pick [0,1,2] Z) Z ?_);refine M0 2097151 [19,20] (h.pick [0,1,2] Z) Z ?_;obtain⟨_,hy6,F,he6,_,_,_,_,hp6,hq6,rfl,hc7⟩:=(h.sl 0 Z).1.ix F;exact Ax 21 4194303 hp6 hq6 ⟨he6.1,qC he6.2.1 (h.sl 0 Z).2⟩ (h.pick [0,1,2] Z) Z (Ao 22 8388607 Z (qay qa 0 0 (W64 (y3+(W64 (y4*y5)))) h Z hy6 hp6 hq6 Z hc7 Z Z Z Z Z Z Z fun _ h=>qbf (fun hs=>absurd (hs 22 (by decide)) (by decide)) (Ad (X0 6 Z (rK ⟨_,_,F,rfl,h⟩ Z)))))
 refine qq Z ?_;obtain rfl:=qb F;replace F:=hK1;refine X0 5 Z ?_;obtain rfl:=qb F;exact rO 0 h Z ⟨rfl,trivial⟩
def qa4 (r1:(List Int))(y1:qG):Nat→(List Int)→Int→Option ((List Int)×Int)
 | 0,_,_=>U
 | n+1,x1,i1=>
  bif decide (i1<(y1.Bi.length:Int)) then
   (idx y1.Bi i1).bind fun y2=>
   (idx r1 y2).bind fun y3=>
   (appS x1 ([y3]:List Int)).bind fun x2=>
   qa4 r1 y1 n x2 (W64 (i1+1))
  else
   V (x1,i1)
def qeo (n:Nat)(b:qd)(net:Int):Option (List Int):=
 (qe0 n b net).bind fun r1=>
 (idx b.Ac net).bind fun y1=>
 (qa4 r1 y1 n ([]:List Int) 0).bind fun o=>match o with
 | (x1,_)=>
  V x1
theorem qli {b:qd}{net:Int}(ha1:Ro w b cs1){r:(List Int)}(F:qeo n b net=V r):RetV prog 177 [GoT.v qd cs1,.int .i64 net] w r:=by
 obtain⟨_,_,_,_,_,_,_,_,_,_,rfl,_,_,_,_,s5⟩:=qM ha1;refine zV 32 func177 Z fun h=>zSR (qx h Z Z fun _ _ h=>X1 6 0 h Z (zcL h F (qlO (h.old ha1)) Z fun r1 _ S1 p6 k6 h F=>X1 12 1 h Z ?_));obtain⟨y1,_,F,he1,_,_,_,_,hp1,hq1,hr2,hc1⟩:=s5.ix F;obtain⟨_,_,_,_,_,_,p10,k10,rfl,_,_,_,s9⟩:=qaO hr2;refine zxe hp1 hq1 he1 Z (zp1 Z (zc 3 (hc1.below h.below) Z (X0 3 Z ?_)));replace h:=h.nil (α:=Int);obtain⟨o1,F,hK1⟩:=qc F;refine qn ?_;replace h:=h.pick [0,1] Z;refine rL (fun m e w'=>∃(S2:Nat→Prop) (p11:Option Addr) (ln1:Nat) (k11:Nat) (x1:(List Int)) (i1:Int),qa4 r1 y1 m x1 i1=V o1∧e=[(5,.slice p6 r1.length k6),(6,.slice p11 ln1 k11),(17,.slice p10 y1.Bi.length k10),(18,.int .i64 (y1.Bi.length:Int)),(19,.int .i64 i1)]∧SH w w' [Ch.own S2 (x1:List Int) [.slice p11 ln1 k11],Ch.own S1 (r1:List Int) [.slice p6 r1.length k6]]) n ⟨_,_,_,_,_,_,F,rfl,h⟩ Z ?_;rintro m1 _ _ ⟨S2,p11,ln1,k11,x1,i1,F,rfl,h⟩;obtain rfl:=(h.sl 0 Z).2;rcases m1 with _|m1
 ·cases F
 refine X0 5 Z (qh Z F ?_ ?_)<;>intro F
 ·refine zKSBSR ?_;obtain⟨_,_,F,he2,_,_,_,_,hp2,hq2,rfl,hc3⟩:=s9.ix F;refine zxe hp2 hq2 he2 Z (zc 0 (hc3.below h.below) Z (X0 6 Z ?_));obtain⟨y3,_,F,he3,_,_,_,_,hp3,hq3,rfl,hc4⟩:=(h.sl 1 Z).1.ix F;refine zx hp3 hq3 ⟨he3.1,qC he3.2.1 (h.sl 1 Z).2⟩ Z (zc 0 hc4 Z (qK qa [.tmp 27] _ ([y3]:List Int) h Z Z Z Z Z Z Z Z Z ⟨rfl,trivial⟩ Z fun _ _ _ h=>?_));obtain⟨_,hx1,F⟩:=qc F;obtain⟨g1,hx1⟩:=qan hx1;refine qbW qa 1 h Z (h.sl 0 Z).1 (h.sl 0 Z).2 Z Z Z Z Z Z Z Z Z g1 hx1 Z fun _ _ _ _ h=>X0 7 Z ?_;replace h:=h.pick [1,2] Z;exact rK ⟨_,_,_,_,_,_,F,rfl,h⟩ Z
 refine qq Z ?_;obtain rfl:=qb F;replace F:=hK1;refine X0 5 Z ?_;obtain rfl:=qb F;exact rO 0 h Z ⟨rfl,trivial⟩
end Go.Fw


namespace Go.Fw
open Go Go.Proofs Go.Proofs.Tryz
open Go.RowKit (Below)
set_option maxRecDepth 100000
set_option maxHeartbeats 1600000
variable {n:Nat}{w:World}{cs1 cs2 cs3 cs4 cs5 cs6 cs7 cs8 cs9:List Value}
def qd2 (x6:(List Int))(i4:Int)(i5:Int)(y7:Int):Nat→(List qt)→Int→Option ((List qt)×Int)
 | 0,_,_=>U
 | n+1,x14,i6=>
  bif decide (i6<2) then
   (idx x6 i4).bind fun y8=>
   (appS x14 ([(⟨W64 ((W64 (2*y8))+i6),W64 ((W64 (2*y7))+i6),2,i5⟩:qt)]:List qt)).bind fun x15=>
   qd2 x6 i4 i5 y7 n x15 (W64 (i6+1))
  else
   V (x14,i6)
def qd6 (x6:(List Int))(i4:Int)(y6:(List Int)):Nat→(List qt)→Int→Option ((List qt)×Int)
 | 0,_,_=>U
 | n+1,x13,i5=>
  bif decide (i5<(y6.length:Int)) then
   (idx y6 i5).bind fun y7=>
   (qd2 x6 i4 i5 y7 n x13 0).bind fun o=>match o with
   | (x14,_)=>
    qd6 x6 i4 y6 n x14 (W64 (i5+1))
  else
   V (x13,i5)
def qd7 (a_0:qd)(x5:(List (List Int)))(x6:(List Int)):Nat→(List (List Int))→(List Int)→(List qt)→Int→Option ((List (List Int))×(List Int)×(List qt)×Int)
 | 0,_,_,_,_=>U
 | n+1,x8,x9,x10,i4=>
  bif decide (i4<(a_0.Ac.length:Int)) then
   (qdF n a_0 i4).bind fun r4=>
   (idx r4 0).bind fun y5=>
   (appS x9 ([y5]:List Int)).bind fun x11=>
   (qeo n a_0 i4).bind fun r5=>
   (appS x8 ([r5]:List (List Int))).bind fun x12=>
   (idx x5 i4).bind fun y6=>
   (qd6 x6 i4 y6 n x10 0).bind fun o=>match o with
   | (x13,_)=>
    qd7 a_0 x5 x6 n x12 x11 x13 (W64 (i4+1))
  else
   V (x8,x9,x10,i4)
def qdc (r1:(List Tplace)):Nat→(List (List Int))→(List Int)→Int→Option ((List (List Int))×(List Int)×Int)
 | 0,_,_,_=>U
 | n+1,x5,x6,i3=>
  bif decide (i3<(r1.length:Int)) then
   (idx r1 i3).bind fun y2=>
   bif y2.drives then
    (idx x6 y2.net).bind fun _=>
    qdc r1 n x5 (setS x6 y2.net i3) (W64 (i3+1))
   else
    (idx x5 y2.net).bind fun y4=>
    (appS y4 ([i3]:List Int)).bind fun x7=>
    qdc r1 n (setS x5 y2.net x7) x6 (W64 (i3+1))
  else
   V (x5,x6,i3)
def qd5 (a_0:qd):Nat→(List qt)→Int→Int→Option ((List qt)×Int×Int)
 | 0,_,_,_=>U
 | n+1,x1,i1,i2=>
  bif decide (i2<(a_0.Aa.Ab.length:Int)) then
   (idx a_0.Aa.Ab i2).bind fun y1=>
   (qfA n a_0 y1 i1).bind fun r2=>
   (appS x1 r2).bind fun x2=>
   (qaL n y1.Ah).bind fun r3=>
   qd5 a_0 n x2 (W64 (i1+r3)) (W64 (i2+1))
  else
   V (x1,i1,i2)
def qkk (n:Nat)(a_0:qd):Option (Option Tview):=
 (qcC n (⟨a_0.Aa.Ab,a_0.Aa.Ah,a_0.Aa.Af⟩:qe)).bind fun r1=>
 (qd5 a_0 n ([]:List qt) 0 0).bind fun o=>match o with
 | (x1,_,_)=>
  (mkS (a_0.Ac.length:Int) (0:Int)).bind fun x3=>
  (mkS (a_0.Ac.length:Int) ([]:(List Int))).bind fun x4=>
  (qdc r1 n x4 x3 0).bind fun o=>match o with
  | (x5,x6,_)=>
   (qd7 a_0 x5 x6 n ([]:List (List Int)) ([]:List Int) x1 0).bind fun o=>match o with
   | (x8,x9,x10,_)=>
    V (V (⟨(⟨(⟨a_0.Ap.Am⟩:qr),(⟨a_0.Aa.Ab,a_0.Aa.Ah,a_0.Aa.Af⟩:qe),a_0.Ac⟩:qd),r1,x10,x9,x8,[]⟩:Tview))
theorem qpL {n:Nat}{w:World}{a_0:qd}{cs1:List Value}(ha1:Ro w a_0 cs1){r:(Option Tview)}(F:qkk n a_0=V r):RetZ prog 101 [GoT.v qd cs1] w (fun us L=>∃(uS1:Nat→Prop) (up2:Option Addr) (uln3:Nat) (uk4:Nat) (ux5:List (List Int)) (uS6:Nat→Prop) (up7:Option Addr) (uln8:Nat) (uk9:Nat) (ux10:List Int) (uS11:Nat→Prop) (up12:Option Addr) (uln13:Nat) (uk14:Nat) (ux15:List qt) (ubb16:Nat) (uS17:Nat→Prop) (up18:Option Addr) (uln19:Nat) (uk20:Nat) (ux21:List Tplace),r=(V (⟨a_0,ux21,ux15,ux10,ux5,[]⟩:Tview))∧us=[GoT.v (Option Tview) [.pointer (V ⟨ubb16,0,U⟩)]]∧L=[Ch.own uS1 (ux5:List (List Int)) [.slice up2 uln3 uk4],Ch.own uS6 (ux10:List Int) [.slice up7 uln8 uk9],Ch.own uS11 (ux15:List qt) [.slice up12 uln13 uk14],Ch.box ubb16 (cs1++[.slice up18 uln19 uk20,.slice up12 uln13 uk14,.slice up7 uln8 uk9,.slice up2 uln3 uk4,.slice U 0 0]) 155,Ch.own uS17 (ux21:List Tplace) [.slice up18 uln19 uk20]]):=by
 obtain⟨p1,k1,p2,k2,p3,k3,p4,k4,p5,k5,rfl,_,s2,s3,s4,_⟩:=qM ha1;refine qpR func101 Z (m:=156) Z Z (fun h=>?_);refine zSR (qx h Z Z fun w1 bb1 h=>X0 3 Z (rA [] [0] h Z fun _ h=>M2 7 [0,1,2] 0 0 (h.pick [0] Z) Z (Ao 3 15 Z (zcL h F (qe2 (qao _ (h.oldS s2) (h.oldS s3) (h.oldS s4))) Z fun r1 _ S1 p6 k6 h F=>Ag (h.pick [1] Z) (Aw 4 31 (fun w' hw=>qJ qa [0,1] [.tmp 15,.tmp 18] Z Z Z Z Z Z Z Z) (h.pick [1] Z) Z ?_)))));refine Ao 5 63 Z (qx h Z Z fun _ bb2 h=>G0 127 [6] (h.pick [2] Z) Z (Ad (X1 13 2 h Z ?_)));replace h:=h.nil (α:=qt);obtain⟨o1,F,hK1⟩:=qc F;refine qn (rL (fun m e w'=>∃(S2:Nat→Prop) (p7:Option Addr) (ln1:Nat) (k7:Nat) (x1:(List qt)) (i1:Int) (i2:Int),qd5 a_0 m x1 i1 i2=V o1∧e=[(1,.pointer (V ⟨bb1,0,U⟩)),(3,.pointer (V ⟨bb2,0,U⟩)),(4,.int .i64 i1),(23,.slice p2 a_0.Aa.Ab.length k2),(24,.int .i64 (a_0.Aa.Ab.length:Int)),(25,.int .i64 i2)]∧SH w w' [Ch.own S2 (x1:List qt) [.slice p7 ln1 k7],Ch.box bb2 [.slice p1 a_0.Ap.Am.length k1,.slice p2 a_0.Aa.Ab.length k2,.slice p3 a_0.Aa.Ah.length k3,.slice p4 a_0.Aa.Af.length k4,.slice p5 a_0.Ac.length k5,.slice p6 r1.length k6,.slice p7 ln1 k7,.slice U 0 0,.slice U 0 0,.slice U 0 0] 155,Ch.own S1 (r1:List Tplace) [.slice p6 r1.length k6],Ch.box bb1 (qT a_0 p1 p2 p3 p4 p5 k1 k2 k3 k4 k5) 53]) n ⟨_,_,_,_,_,_,_,F,rfl,h⟩ Z ?_);rintro m1 _ _ ⟨S2,p7,ln1,k7,x1,i1,i2,F,rfl,h⟩;obtain rfl:=(h.sl 0 Z).2;rcases m1 with _|m1
 ·cases F
 refine X0 5 Z (qh Z F ?_ ?_)<;>intro F
 ·refine zKSBSR ?_;obtain⟨y1,_,F,he1,_,_,_,_,hp1,hq1,hr2,hc2⟩:=s2.ix F;obtain⟨_,_,rfl,s6⟩:=qF hr2;refine zxe hp1 hq1 he1 Z (zc 0 (hc2.below h.below) Z (qp qa h Z Z Z fun _ _ h=>zs 0 h Z fun _ h=>zNS (rA [12] [0,2,4] h Z fun _ h=>M3 255 [0,1,2,3,4,5,6,7] 1 2 0 (h.pick [0,2,4] Z) Z (Ao 8 511 Z (zcL h F (ql2 (h.old ha1) (qgT y1 (h.oldS s6))) Z fun _ _ _ _ _ h F=>Ag (h.pick [1,3,5] Z) (Ao 9 1023 Z ?_))))));obtain⟨_,hx1,F⟩:=qc F;obtain⟨g1,hx1⟩:=qan hx1;refine qbW qa 2 h Z (h.sl 0 Z).1 (h.sl 0 Z).2 Z Z Z Z Z Z Z Z Z g1 hx1 Z fun _ _ _ _ h=>Ag (h.pick [1,3,5] Z) (Ao 10 2047 Z (zp1 Z (G0 4095 [11] (h.pick [1,3,5] Z) Z (Ao 12 8191 Z (zs 3 h Z fun _ h=>qbf (fun hs=>absurd (hs 12 (by decide)) (by decide)) (Ad (X1 4 1 h Z (zcI h F (qbD ⟨_,_,rfl,(h.oldS s6)⟩) Z fun _ _ h F=>X0 8 Z ?_))))))));replace h:=h.pick [2,3,4,5] Z;exact rK ⟨_,_,_,_,_,_,_,F,rfl,h⟩ Z
 refine qq Z ?_;obtain rfl:=qb F;replace F:=hK1;refine X1 5 3 h Z ?_;obtain⟨x3,hx2,F⟩:=qc F;obtain⟨g2,g3,hx2⟩:=qac hx2;refine qaw qa Int h Z Z Z Z Z Z Z Z Z g2 g3 hx2 Z fun _ S5 p11 h=>X1 7 4 h Z ?_;obtain⟨x4,hx3,F⟩:=qc F;obtain⟨g4,g5,hx3⟩:=qac hx3;refine qaw qa (List Int) h Z Z Z Z Z Z Z Z Z g4 g5 hx3 Z fun _ _ p12 h=>X1 12 3 h Z ?_;obtain⟨o2,F,hK2⟩:=qc F;refine qn (rL (fun m e w'=>∃(S7:Nat→Prop) (x5:(List (List Int))) (x6:(List Int)) (i3:Int),qdc r1 m x5 x6 i3=V o2∧e=[(1,.pointer (V ⟨bb1,0,U⟩)),(3,.pointer (V ⟨bb2,0,U⟩)),(7,.slice p11 x3.length x3.length),(8,.slice p12 x4.length x4.length),(58,.slice p6 r1.length k6),(59,.int .i64 (r1.length:Int)),(60,.int .i64 i3)]∧SH w w' [Ch.own S7 (x5:List (List Int)) [.slice p12 x4.length x4.length],Ch.own S5 (x6:List Int) [.slice p11 x3.length x3.length],Ch.own S2 (x1:List qt) [.slice p7 x1.length k7],Ch.box bb2 [.slice p1 a_0.Ap.Am.length k1,.slice p2 a_0.Aa.Ab.length k2,.slice p3 a_0.Aa.Ah.length k3,.slice p4 a_0.Aa.Af.length k4,.slice p5 a_0.Ac.length k5,.slice p6 r1.length k6,.slice p7 x1.length k7,.slice U 0 0,.slice U 0 0,.slice U 0 0] 155,Ch.own S1 (r1:List Tplace) [.slice p6 r1.length k6],Ch.box bb1 (qT a_0 p1 p2 p3 p4 p5 k1 k2 k3 k4 k5) 53]) n ⟨_,_,_,_,F,rfl,h⟩ Z ?_);rintro m2 _ _ ⟨S7,x5,x6,i3,F,rfl,h⟩;rcases m2 with _|m2
 ·cases F
 refine X0 5 Z (qh Z F ?_ ?_)<;>intro F
 ·refine X0 6 Z ?_;obtain⟨y2,_,F,he2,_,_,_,_,hp2,hq2,hr5,hc4⟩:=(h.sl 4 Z).1.ix F;obtain rfl:=qfk hr5;refine zx hp2 hq2 ⟨he2.1,qC he2.2.1 (h.sl 4 Z).2⟩ Z (zc 0 hc4 Z (qp qa h Z Z Z fun _ bb4 h=>zp1 Z (zs 0 h Z fun _ h=>X1 6 0 h Z (qh Z F ?_ ?_))))<;>intro F
  ·refine X1 5 0 h Z ?_;obtain⟨_,hy3,F,he3,_,_,_,_,hp3,hq3,rfl,hc6⟩:=(h.sl 2 Z).1.ix F;refine zx hp3 hq3 ⟨he3.1,qC he3.2.1 (h.sl 2 Z).2⟩ Z (qay qa 2 0 i3 h Z hy3 hp3 hq3 Z hc6 Z Z Z Z Z Z Z fun _ h=>X0 6 Z ?_);replace h:=h.pick [1,2,3,4,5,6] Z;exact rK ⟨_,_,_,_,F,rfl,h⟩ Z
  obtain⟨_,hy4,F⟩:=qc F;have he4:=qcT hy4;replace h:=h.pick [1,0,2,3,4,5,6] Z;obtain⟨_,S9,_,h⟩:=h.take hy4;obtain⟨_,_,rfl,-⟩:=h.own 0 Z;refine rA [12] [1,2] h Z fun _ h=>M2 63 [0,1,2,3,4,5] 1 1 (h.pick [1,2] Z) Z ?_;obtain⟨_,hp4,-,-,hl2⟩:=h.holeAt 1 Z;obtain⟨q4,hq4⟩:∃ q,q=0+(y2.net).toNat*GoT.k (List Int):=⟨_,rfl⟩;refine Ax 6 127 hp4 hq4 ⟨he4.1,qC he4.2.1 hl2⟩ (h.pick [1,2] Z) Z (Aw 7 255 (fun w' hw=>qhX qa (qcU hw 0 Z hp4 hq4) (j:=0) Z Z Z) (h.pick [1,2] Z) Z ?_);refine M0 511 [8] (h.pick [1,2] Z) Z (Ao 9 1023 Z (qK qa [.tmp 80] _ ([i3]:List Int) h Z Z Z Z Z Z Z Z Z ⟨rfl,trivial⟩ Z fun _ p14 S10 h=>Ag (h.pick [2,3] Z) (Ao 10 2047 Z ?_)));obtain⟨x7,hx4,F⟩:=qc F;obtain⟨g6,hx4⟩:=qan hx4;refine qbW qa 1 h Z (h.sl 0 Z).1 (h.sl 0 Z).2 Z Z Z Z Z Z Z Z Z g6 hx4 Z fun _ p15 k12 S11 h=>Ag (h.pick [2,3] Z) ?_;obtain⟨_,hp5,-,-,hl4⟩:=h.holeAt 2 Z;obtain⟨q5,hq5⟩:∃ q,q=0+(y2.net).toNat*GoT.k (List Int):=⟨_,rfl⟩;refine Ax 11 4095 hp5 hq5 ⟨he4.1,qC he4.2.1 hl4⟩ (h.pick [2,3] Z) Z (Ao 12 8191 Z (qhy qa 2 0 h Z hp5 hq5 Z Z Z Z Z Z fun _ h=>?_));replace h:SH _ _ [Ch.own S10 (([i3]:List Int):List Int) [.slice p14 1 1],Ch.own S11 (x7:List Int) [.slice p15 x7.length k12],Ch.hole S9 (x5:List (List Int)) p12 x4.length x4.length (y2.net).toNat [.slice p15 x7.length k12],Ch.box bb4 (qqI y2) 244,Ch.own S5 (x6:List Int) [.slice p11 x3.length x3.length],Ch.own S2 (x1:List qt) [.slice p7 x1.length k7],Ch.box bb2 [.slice p1 a_0.Ap.Am.length k1,.slice p2 a_0.Aa.Ab.length k2,.slice p3 a_0.Aa.Ah.length k3,.slice p4 a_0.Aa.Af.length k4,.slice p5 a_0.Ac.length k5,.slice p6 r1.length k6,.slice p7 x1.length k7,.slice U 0 0,.slice U 0 0,.slice U 0 0] 155,Ch.own S1 (r1:List Tplace) [.slice p6 r1.length k6],Ch.box bb1 (qT a_0 p1 p2 p3 p4 p5 k1 k2 k3 k4 k5) 53]:=h;refine qbf (fun hs=>absurd (hs 12 (by decide)) (by decide)) (Ad (X0 5 Z ?_));replace h:=h.pick [1,2,0,3,4,5,6,7,8] Z;replace h:=h.put;obtain⟨_,h⟩:=qpz (S:=_) h;replace h:=h.pick [0,3,4,5,6,7] Z;exact rK ⟨_,_,_,_,F,rfl,h⟩ Z
 refine qq Z ?_;obtain rfl:=qb F;replace F:=hK2;refine X1 8 5 h Z ?_;replace h:=h.nil (α:=Int);replace h:=h.nil (α:=(List Int));obtain⟨o3,F,hK3⟩:=qc F;refine qn (rL (fun m e w'=>∃(S13:Nat→Prop) (p16:Option Addr) (ln2:Nat) (k13:Nat) (x8:(List (List Int))) (S14:Nat→Prop) (p17:Option Addr) (ln3:Nat) (k14:Nat) (x9:(List Int)) (S15:Nat→Prop) (p18:Option Addr) (ln4:Nat) (k15:Nat) (x10:(List qt)) (i4:Int),qd7 a_0 x5 x6 m x8 x9 x10 i4=V o3∧e=[(1,.pointer (V ⟨bb1,0,U⟩)),(3,.pointer (V ⟨bb2,0,U⟩)),(7,.slice p11 x3.length x3.length),(8,.slice p12 x4.length x4.length),(87,.int .i64 (a_0.Ac.length:Int)),(88,.int .i64 i4)]∧SH w w' [Ch.own S13 (x8:List (List Int)) [.slice p16 ln2 k13],Ch.own S14 (x9:List Int) [.slice p17 ln3 k14],Ch.own S7 (x5:List (List Int)) [.slice p12 x4.length x4.length],Ch.own S5 (x6:List Int) [.slice p11 x3.length x3.length],Ch.own S15 (x10:List qt) [.slice p18 ln4 k15],Ch.box bb2 [.slice p1 a_0.Ap.Am.length k1,.slice p2 a_0.Aa.Ab.length k2,.slice p3 a_0.Aa.Ah.length k3,.slice p4 a_0.Aa.Af.length k4,.slice p5 a_0.Ac.length k5,.slice p6 r1.length k6,.slice p18 ln4 k15,.slice p17 ln3 k14,.slice p16 ln2 k13,.slice U 0 0] 155,Ch.own S1 (r1:List Tplace) [.slice p6 r1.length k6],Ch.box bb1 (qT a_0 p1 p2 p3 p4 p5 k1 k2 k3 k4 k5) 53]) n ⟨_,_,_,_,_,_,_,_,_,_,_,_,_,_,_,_,F,rfl,h⟩ Z ?_);rintro m3 _ _ ⟨S13,p16,ln2,k13,x8,S14,p17,ln3,k14,x9,S15,p18,ln4,k15,x10,i4,F,rfl,h⟩;obtain rfl:=(h.sl 0 Z).2;obtain rfl:=(h.sl 1 Z).2;obtain rfl:=(h.sl 4 Z).2;rcases m3 with _|m3
 ·cases F
 refine X0 5 Z (qh Z F ?_ ?_)<;>intro F
 ·refine X0 9 Z (rA [14] [5,7] h Z fun _ h=>M2 127 [0,1,2,3,4,5,6] 0 1 (h.pick [5,7] Z) Z (Ao 7 255 Z (zcL h F (qfZ (h.old ha1)) Z fun _ _ _ _ _ h F=>Ag (h.pick [6,8] Z) ?_)));obtain⟨y5,_,F,he5,_,_,_,_,hp6,hq6,rfl,hc8⟩:=(h.sl 0 Z).1.ix F;refine Ax 8 511 hp6 hq6 ⟨he5.1,qC he5.2.1 (h.sl 0 Z).2⟩ (h.pick [6,8] Z) Z (Ao 9 1023 Z (zc 0 hc8 Z (Ag (h.pick [6,8] Z) (Ao 10 2047 Z (qK qa [.tmp 100] _ ([y5]:List Int) h Z Z Z Z Z Z Z Z Z ⟨rfl,trivial⟩ Z fun _ _ _ h=>Ag (h.pick [7,9] Z) (Ao 11 4095 Z ?_))))));obtain⟨x11,hx5,F⟩:=qc F;obtain⟨g7,hx5⟩:=qan hx5;refine qbW qa 3 h Z (h.sl 0 Z).1 (h.sl 0 Z).2 Z Z Z Z Z Z Z Z Z g7 hx5 Z fun _ p21 k17 S18 h=>Ag (h.pick [7,9] Z) (Ao 12 8191 Z (zp1 Z (G0 16383 [13] (h.pick [7,9] Z) Z (Ao 14 32767 Z (zs 7 h Z fun _ h=>qbf (fun hs=>absurd (hs 14 (by decide)) (by decide)) (Ad (qcQ (rA [12] [7,9] h Z fun _ h=>M2 127 [0,1,2,3,4,5,6] 0 1 (h.pick [7,9] Z) Z (Ao 7 255 Z (zcL h F (qli (h.old ha1)) Z fun r5 _ _ _ _ h F=>Ag (h.pick [8,10] Z) (Ao 8 511 Z (qvQ qa [.tmp 112] _ ([r5]:List (List Int)) [1,2,3,4,5,6,7,8,9,10] h Z Z Z Z Z Z Z Z Z (qxz (qaA 0 h Z) qyb Z) Z Z fun _ _ _ h=>Ag (h.pick [8,10] Z) (Ao 9 1023 Z ?_)))))))))))));obtain⟨x12,hx6,F⟩:=qc F;obtain⟨g8,hx6⟩:=qan hx6;replace h:=h.pick [0,3,1,2,4,5,6,7,8,9,10] Z;refine qx6 qa h Z Z Z Z Z Z Z Z Z g8 hx6 Z fun _ p24 k19 S21 h=>Ag (h.pick [7,9] Z) (Ao 10 2047 Z (zp1 Z (G0 4095 [11] (h.pick [7,9] Z) Z (Ao 12 8191 Z (zs 7 h Z fun _ h=>qbf (fun hs=>absurd (hs 12 (by decide)) (by decide)) (Ad (X0 4 Z ?_)))))));obtain⟨y6,hy6,F⟩:=qc F;have he6:=qcT hy6;replace h:=h.lrn0 4 Z;obtain⟨_,o_5,_,_,hp7,hq7,-,hr10,hc9⟩:=(qlr (h.lrnO 4 Z)).1.at hy6;have hr11:=hr10;obtain⟨p25,k20,rfl,_⟩:=hr10;replace h:=h.lrnAdd 4 Z hr11;refine zx hp7 hq7 ⟨he6.1,qC he6.2.1 (qlr (h.lrnO 4 Z)).2⟩ Z (zc 0 hc9 Z (X0 3 Z ?_));obtain⟨o4,F,hK4⟩:=qc F;refine qn ?_;replace h:=h.pick [0,3,4,5,6,7,8,9] Z;refine rL (fun m e w'=>∃(S22:Nat→Prop) (p26:Option Addr) (ln5:Nat) (k21:Nat) (x13:(List qt)) (i5:Int),qd6 x6 i4 y6 m x13 i5=V o4∧e=[(1,.pointer (V ⟨bb1,0,U⟩)),(3,.pointer (V ⟨bb2,0,U⟩)),(7,.slice p11 x3.length x3.length),(8,.slice p12 x4.length x4.length),(11,.int .i64 i4),(87,.int .i64 (a_0.Ac.length:Int)),(88,.int .i64 i4),(120,.slice p25 y6.length k20),(121,.int .i64 (y6.length:Int)),(122,.int .i64 i5)]∧SH w w' [Ch.own S21 (x12:List (List Int)) [.slice p24 x12.length k19],Ch.own S18 (x11:List Int) [.slice p21 x11.length k17],Ch.lrn S7 (x5:List (List Int)) [.slice p12 x4.length x4.length] [fct (y6:(List Int)) [.slice p25 y6.length k20]],Ch.own S5 (x6:List Int) [.slice p11 x3.length x3.length],Ch.own S22 (x13:List qt) [.slice p26 ln5 k21],Ch.box bb2 [.slice p1 a_0.Ap.Am.length k1,.slice p2 a_0.Aa.Ab.length k2,.slice p3 a_0.Aa.Ah.length k3,.slice p4 a_0.Aa.Af.length k4,.slice p5 a_0.Ac.length k5,.slice p6 r1.length k6,.slice p26 ln5 k21,.slice p21 x11.length k17,.slice p24 x12.length k19,.slice U 0 0] 155,Ch.own S1 (r1:List Tplace) [.slice p6 r1.length k6],Ch.box bb1 (qT a_0 p1 p2 p3 p4 p5 k1 k2 k3 k4 k5) 53]) m3 ⟨_,_,_,_,_,_,F,rfl,h⟩ Z ?_;rintro m4 _ _ ⟨S22,p26,ln5,k21,x13,i5,F,rfl,h⟩;obtain rfl:=(h.sl 4 Z).2;rcases m4 with _|m4
  ·cases F
  refine X0 5 Z (qh Z F ?_ ?_)<;>intro F
  ·refine X0 6 Z ?_;obtain⟨y7,_,F,he7,_,_,_,_,hp8,hq8,rfl,hc11⟩:=(qlr (GoT.mono (h.lrnS 2 0 Z Z) (h.lrnB 2 Z))).1.ix F;refine zx hp8 hq8 ⟨he7.1,qC he7.2.1 (qlr (GoT.mono (h.lrnS 2 0 Z Z) (h.lrnB 2 Z))).2⟩ Z (zc 0 hc11 Z (X0 7 Z ?_));obtain⟨o5,F,hK5⟩:=qc F;refine qn (rL (fun m e w'=>∃(S23:Nat→Prop) (p27:Option Addr) (ln6:Nat) (k22:Nat) (x14:(List qt)) (i6:Int),qd2 x6 i4 i5 y7 m x14 i6=V o5∧e=[(1,.pointer (V ⟨bb1,0,U⟩)),(3,.pointer (V ⟨bb2,0,U⟩)),(7,.slice p11 x3.length x3.length),(8,.slice p12 x4.length x4.length),(11,.int .i64 i4),(12,.int .i64 i5),(13,.int .i64 y7),(87,.int .i64 (a_0.Ac.length:Int)),(88,.int .i64 i4),(120,.slice p25 y6.length k20),(121,.int .i64 (y6.length:Int)),(122,.int .i64 i5),(127,.int .i64 i6)]∧SH w w' [Ch.own S21 (x12:List (List Int)) [.slice p24 x12.length k19],Ch.own S18 (x11:List Int) [.slice p21 x11.length k17],Ch.lrn S7 (x5:List (List Int)) [.slice p12 x4.length x4.length] [fct (y6:(List Int)) [.slice p25 y6.length k20]],Ch.own S5 (x6:List Int) [.slice p11 x3.length x3.length],Ch.own S23 (x14:List qt) [.slice p27 ln6 k22],Ch.box bb2 [.slice p1 a_0.Ap.Am.length k1,.slice p2 a_0.Aa.Ab.length k2,.slice p3 a_0.Aa.Ah.length k3,.slice p4 a_0.Aa.Af.length k4,.slice p5 a_0.Ac.length k5,.slice p6 r1.length k6,.slice p27 ln6 k22,.slice p21 x11.length k17,.slice p24 x12.length k19,.slice U 0 0] 155,Ch.own S1 (r1:List Tplace) [.slice p6 r1.length k6],Ch.box bb1 (qT a_0 p1 p2 p3 p4 p5 k1 k2 k3 k4 k5) 53]) m4 ⟨_,_,_,_,_,_,F,rfl,h⟩ Z ?_);rintro m5 _ _ ⟨S23,p27,ln6,k22,x14,i6,F,rfl,h⟩;obtain rfl:=(h.sl 4 Z).2;rcases m5 with _|m5
   ·cases F
   refine X0 5 Z (qh Z F ?_ ?_)<;>intro F
   ·refine X0 8 Z (rA [22] [3,5] h Z fun _ h=>M1 127 [0,1,2,3,4,5,6] 1 (h.pick [3,5] Z) Z ?_);obtain⟨y8,hy8,F,he8,_,_,_,_,hp9,hq9,rfl,_⟩:=(h.sl 3 Z).1.ix F;refine Ax 7 255 hp9 hq9 ⟨he8.1,qC he8.2.1 (h.sl 3 Z).2⟩ (h.pick [3,5] Z) Z (Aw 8 511 (fun w' hw=>qhX qa (qbY (w1:=w) (S1:=fun _=>False) hw 0 Z hy8 hp9 hq9 Z) (j:=0) Z Z Z) (h.pick [3,5] Z) Z ?_);refine M0 131071 [9,10,11,12,13,14,15,16] (h.pick [3,5] Z) Z (Aw 17 262143 (fun w' hw=>qJ qa [0,1,2,3] [.tmp 141,.tmp 145,.const (.int .i64 (2)),.tmp 146] Z Z Z Z Z Z Z Z) (h.pick [3,5] Z) Z ?_);refine Ao 18 524287 Z (qK qa [.tmp 147] _ ([(⟨W64 ((W64 (2*y8))+i6),W64 ((W64 (2*y7))+i6),2,i5⟩:qt)]:List qt) h Z Z Z Z Z Z Z Z Z ⟨(qcf (⟨W64 ((W64 (2*y8))+i6),W64 ((W64 (2*y7))+i6),2,i5⟩:qt)),trivial⟩ Z fun _ _ _ h=>Ag (h.pick [4,6] Z) (Ao 19 1048575 Z ?_));obtain⟨_,hx7,F⟩:=qc F;obtain⟨g9,hx7⟩:=qan hx7;refine qbW qa 5 h Z (h.sl 0 Z).1 (h.sl 0 Z).2 Z Z Z Z Z Z Z Z Z g9 hx7 Z fun _ _ _ _ h=>Ag (h.pick [4,6] Z) (Ao 20 2097151 Z (zp1 Z (G0 4194303 [21] (h.pick [4,6] Z) Z (Ao 22 8388607 Z (zs 6 h Z fun _ h=>qbf (fun hs=>absurd (hs 22 (by decide)) (by decide)) (Ad (X0 5 Z ?_)))))));replace h:=h.pick [1,2,3,4,5,6,7,8] Z;exact rK ⟨_,_,_,_,_,_,F,rfl,h⟩ Z
   refine qq Z ?_;obtain rfl:=qb F;replace F:=hK5;exact X0 5 Z (rK ⟨_,_,_,_,_,_,F,rfl,h⟩ Z)
  refine qq Z ?_;obtain rfl:=qb F;replace F:=hK4;refine X0 5 Z ?_;replace h:=h.unlrn 2 Z;exact rK ⟨_,_,_,_,_,_,_,_,_,_,_,_,_,_,_,_,F,rfl,h⟩ Z
 refine qq Z ?_;obtain rfl:=qb F;replace F:=hK3;refine X0 5 Z ?_;obtain rfl:=qb F;replace h:=h.pick [0,1,4,5,6] Z;exact qxC qa [GoT.v (Option Tview) [.pointer (V ⟨bb2,0,U⟩)]] h ⟨rfl,trivial⟩ ⟨S13,p16,x8.length,k13,x8,S14,p17,x9.length,k14,x9,S15,p18,x10.length,k15,x10,bb2,S1,p6,r1.length,k6,r1,rfl,rfl,rfl⟩
def qci (c:qy):Nat→Int→Option (Flow Bool Int)
 | 0,_=>U
 | n+1,i1=>
  bif decide (i1<((4:Nat):Int)) then
   (idx ([c.Be,c.Bh,c.Bf,c.Bj]:List Int) i1).bind fun y1=>
   (qaq n y1 100 5000).bind fun r1=>
   bif (!r1) then V (.ret false) else
   qci c n (W64 (i1+1))
  else
   V (.nxt i1)
def qh5 (n:Nat)(c:qy):Option Bool:=
 (qci c n 0).bind fun o=>match o with
 | .ret r=>V r
 | .nxt _=>
  (qgi n c.Au).bind fun r2=>
  bif r2 then
   bif decide (c.Be≤c.Bh) then V (decide (c.Bf≤c.Bj)) else
   V false
  else
   V false
theorem qpH {c:qy}(ha1:Ro w c cs1){r:Bool}(F:qh5 n c=V r):RetV prog 70 [GoT.v qy cs1] w r:=by
 obtain rfl:=qag ha1;refine zV 43 func70 Z fun h=>zSR (qx h Z Z fun _ bb1 h=>X4 12 0 0 0 0 h Z (qK qa [.tmp 6,.tmp 8,.tmp 10,.tmp 12] _ ([c.Be,c.Bh,c.Bf,c.Bj]:List Int) h Z Z Z Z Z Z Z Z Z ⟨rfl,rfl,rfl,rfl,trivial⟩ Z fun _ p1 S1 h=>X0 7 Z ?_));obtain⟨o1,F,hK1⟩:=qc F;refine qn (rL (fun m e w'=>∃(i1:Int),qci c m i1=V o1∧e=[(1,.pointer (V ⟨bb1,0,U⟩)),(3,.slice p1 4 4),(4,.int .i64 i1)]∧SH w w' [Ch.own S1 (([c.Be,c.Bh,c.Bf,c.Bj]:List Int):List Int) [.slice p1 4 4],Ch.box bb1 (qad c) 77]) n ⟨_,F,rfl,h⟩ Z ?_);rintro m1 _ _ ⟨i1,F,rfl,h⟩;rcases m1 with _|m1
 ·cases F
 refine X0 8 Z (qh Z F ?_ ?_)<;>intro F
 ·refine X0 7 Z ?_;obtain⟨_,_,F,he1,_,_,_,_,hp1,hq1,rfl,hc2⟩:=(h.sl 0 Z).1.ix F;refine zx hp1 hq1 ⟨he1.1,qC he1.2.1 (h.sl 0 Z).2⟩ Z (zc 0 hc2 Z (zcB h F qai Z fun _ _ h F=>X0 2 Z (qh Z F ?_ ?_)))<;>intro F
  ·refine X0 4 Z ?_;obtain rfl:=qb F;replace F:=hK1;exact rb h F Z
  exact X0 7 Z (rK ⟨_,F,rfl,h⟩ Z)
 refine qq Z ?_;obtain rfl:=qb F;replace F:=hK1;refine X1 4 1 h Z (zcB h F qif Z fun _ _ h F=>zp1 Z (qm (t:=29) F Z ?_ ?_))<;>intro F
 ·refine X2 12 1 1 h Z (qm (t:=36) F Z ?_ ?_)<;>intro F
  ·exact X2 13 1 1 h Z (rb h F Z)
  exact X0 8 Z (rb h F Z)
 exact X0 15 Z (rb h F Z)
def qgI (_:Nat)(early:Int)(late:Int):Option Bool:=
 bif decide (early ≥ 100) then
  bif decide (early≤late) then V (decide (late≤5000)) else
  V false
 else
  V false
theorem qk5 {early:Int}{late:Int}  {r:Bool}(F:qgI n early late=V r):RetV prog 165 [.int .i64 early,.int .i64 late] w r:=by
 refine zV 16 func165 Z fun h=>X0 9 Z (qm (t:=7) F Z ?_ ?_)<;>intro F
 ·refine X0 8 Z (qm (t:=12) F Z ?_ ?_)<;>intro F
  ·exact X0 7 Z (rb h F Z)
  exact X0 5 Z (rb h F Z)
 exact X0 10 Z (rb h F Z)
def qh0 (n:Nat)(c:qy):Option Bool:=
 (qiA n c.Au).bind fun r1=>
 bif r1 then
  (qgI n c.Be c.Bh).bind fun r2=>
  bif r2 then
   (qgI n c.Bf c.Bj).bind fun r3=>
   V r3
  else
   V false
 else
  V false
theorem qpo {c:qy}(ha1:Ro w c cs1){r:Bool}(F:qh0 n c=V r):RetV prog 86 [GoT.v qy cs1] w r:=by
 obtain rfl:=qag ha1;refine zV 20 func86 Z fun h=>zSR (qx h Z Z fun _ _ h=>X1 6 0 h Z (zcB h F qkN Z fun _ _ h F=>zp1 Z (qm (t:=6) F Z ?_ ?_)))<;>intro F
 ·refine X2 9 0 0 h Z (zcB h F qk5 Z fun _ _ h F=>zp2 Z (qm (t:=13) F Z ?_ ?_))<;>intro F
  ·exact X2 9 0 0 h Z (zcB h F qk5 Z fun _ _ h F=>X0 3 Z (rb h F Z))
  exact X0 8 Z (rb h F Z)
 exact X0 15 Z (rb h F Z)
def qjG (_:Nat)(a:qy)(left:Int):Option Int:=
 bif decide ((W64 (left-(a.Au.size:Int)))<0) then V (-1) else
 V (W64 (left-(a.Au.size:Int)))
theorem qpE {a:qy}{left:Int}(ha1:Ro w a cs1){r:Int}(F:qjG n a left=V r):RetV prog 24 [GoT.v qy cs1,.int .i64 left] w r:=by
 obtain rfl:=qag ha1;refine zV 13 func24 Z fun h=>zSR (qx h Z Z fun _ _ h=>X1 17 0 h Z (qh Z F ?_ ?_))<;>intro F
 ·exact X0 4 Z (ri h F Z)
 exact X0 6 Z (ri h F Z)
def qgS (_:Nat)(a:qy):Option qy:=
 V (⟨a.Au,a.Be,a.Bh,a.Bf,a.Bj⟩:qy)
theorem qcJ {a:qy}(ha1:Ro w a cs1){r:qy}(F:qgS n a=V r):RetV prog 27 [GoT.v qy cs1] w r:=by
 obtain rfl:=qag ha1;refine zV 20 func27 Z fun h=>zSR (qx h Z Z fun _ _ h=>qp qa h Z Z Z fun _ _ h=>zNSR (qp qa h Z Z Z fun _ _ h=>X1 6 2 h Z (zs 0 h Z fun _ h=>X1 6 2 h Z (zs 0 h Z fun _ h=>X1 6 2 h Z (zs 0 h Z fun _ h=>X1 6 2 h Z (zs 0 h Z fun _ h=>X1 6 2 h Z (zs 0 h Z fun _ h=>X1 4 0 h Z (zs 1 h Z fun _ h=>qcP ?_))))))));obtain rfl:=qb F;exact qae qa (ρ:=qy) [GoT.v qy (qad a)] h ⟨⟨_,_,_,rfl,rfl,h.box 1 Z,rfl⟩,trivial⟩ (PV.done h (qaj (qA (S:=fun _=>False) (qlA (⟨a.Au,a.Be,a.Bh,a.Bf,a.Bj⟩:qy)))))
end Go.Fw


namespace Go.Fw
open Go Go.Proofs Go.Proofs.Tryz
open Go.RowKit (Below)
set_option maxRecDepth 100000
set_option maxHeartbeats 1600000
variable {n:Nat}{w:World}{cs1 cs2 cs3 cs4 cs5 cs6 cs7 cs8 cs9:List Value}
def qik (_:Nat)(x:Int):Option Bool:=
 V (x != x)
theorem qlc {x:Int}  {r:Bool}(F:qik n x=V r):RetV prog 206 [.int .i64 x] w r:=by
 exact zV 6 func206 Z fun h=>X0 11 Z (rb h F Z)
end Go.Fw


namespace Go.Fw
open Go
set_option maxRecDepth 100000
instance:Inhabited qjp:=⟨⟨0,0,0⟩⟩
end Go.Fw


namespace Go.Fw
open Go
set_option maxRecDepth 100000
def off (d:qe)(i:Nat):Nat:=(plI d i).length
def place1 (d:qe)(i k:Nat):Tplace:=⟨(i:Int),(k:Int),at0 (gt d.Ab i).Ah k,decide (k+1=(gt d.Ab i).Ah.length)⟩
def place2 (d:qe)(i:Nat):Tplace:=⟨-1,(i:Int),(gt d.Af i).Bx,(gt d.Af i).Bu==1⟩
theorem qjW {d:qe}{i:Nat}:off d (i+1)=off d i+(gt d.Ab i).Ah.length:=by
 unfold off;rw[qmY,jh,qqD]
theorem qs7 {d:qe}{i j:Nat}(h:i≤j):off d i≤off d j:=by
 induction j with
 | zero=>
  obtain rfl:i=0:=by omega
  exact je _
 | succ j ih=>
  rcases Nat.lt_or_eq_of_le h with h|rfl
  ·rw[qjW];have:=ih (by omega);omega
  ·exact je _
theorem qgh {d:qe}:(places d).length=off d d.Ab.length+d.Af.length:=by
 unfold places off;rw[jh,qqB]
theorem qzK {d:qe}{n i k:Nat}(hi:i<n)(hk:k<(gt d.Ab i).Ah.length):off d i+k<off d n∧gt (plI d n) (off d i+k)=place1 d i k:=by
 induction n with
 | zero=>omega
 | succ n ih=>
  rw[qmY,qmb];rcases Nat.lt_succ_iff_lt_or_eq.1 hi with h|rfl
  ·obtain⟨h1,h2⟩:=ih h;refine⟨by rw[qjW];omega,?_⟩;rw[if_pos (show off d i+k<(plI d n).length from h1),h2]
  ·refine⟨by rw[qjW];omega,?_⟩;rw[if_neg (by unfold off;omega),show off d i+k-(plI d i).length=k by unfold off;omega];exact qq9 hk
theorem qiH {d:qe}{i k:Nat}(hi:i<d.Ab.length)(hk:k<(gt d.Ab i).Ah.length):off d i+k<(places d).length∧gt (places d) (off d i+k)=place1 d i k:=by
 obtain⟨h1,h2⟩:=qzK hi hk;refine⟨by rw[qgh];omega,?_⟩;unfold places;rw[qmb,if_pos (show off d i+k<(plI d d.Ab.length).length from h1),h2]
theorem qsg {d:qe}{i:Nat}(hi:i<d.Af.length):off d d.Ab.length+i<(places d).length∧gt (places d) (off d d.Ab.length+i)=place2 d i:=by
 refine⟨by rw[qgh];omega,?_⟩;unfold places;rw[qmb,if_neg (by unfold off;omega),show off d d.Ab.length+i-(plI d d.Ab.length).length=i by unfold off;omega];exact qq9 hi
theorem qvT {d:qe}{n j:Nat}(hj:j<off d n):∃ i k,i<n∧k<(gt d.Ab i).Ah.length∧j=off d i+k:=by
 induction n with
 | zero=>exact absurd hj (Nat.not_lt_zero _)
 | succ n ih=>
  by_cases h:j<off d n
  ·obtain⟨i,k,h1,h2,h3⟩:=ih h;exact⟨i,k,by omega,h2,h3⟩
  ·rw[qjW] at hj;exact⟨n,j-off d n,by omega,by omega,by omega⟩
theorem qlF {d:qe}{j:Nat}(hj:j<(places d).length) :
  (∃ i k,i<d.Ab.length∧k<(gt d.Ab i).Ah.length∧j=off d i+k∧gt (places d) j=place1 d i k) ∨
  (∃ i,i<d.Af.length∧j=off d d.Ab.length+i∧gt (places d) j=place2 d i):=by
 rw[qgh] at hj;by_cases h:j<off d d.Ab.length
 ·obtain⟨i,k,h1,h2,rfl⟩:=qvT h;exact .inl ⟨i,k,h1,h2,rfl,(qiH h1 h2).2⟩
 ·refine .inr ⟨j-off d d.Ab.length,by omega,by omega,?_⟩;have:=(qsg (d:=d) (i:=j-off d d.Ab.length) (by omega)).2;rwa [show off d d.Ab.length+(j-off d d.Ab.length)=j by omega] at this
def drvQ (d:qe)(k:Int)(j:Nat):Bool:=((gt (places d) j).net==k)&&(gt (places d) j).drives
theorem qtY {q:Nat→Bool}{m n:Nat}:cntP q (m+n)=cntP q m+cntP (fun j=>q (m+j)) n:=by
 induction n with
 | zero=>rfl
 | succ n ih=>
  show cntP q (m+n)+(bif q (m+n) then 1 else 0)=cntP q m+(cntP (fun j=>q (m+j)) n+(bif q (m+n) then 1 else 0));rw[ih];omega
theorem qwn {q:Nat→Bool}{n:Nat}{b:Bool}(h:1≤n)(h1:∀ j,j+1<n→q j=false)(h2:q (n-1)=b):cntP q n=bif b then 1 else 0:=by
 obtain⟨m,rfl⟩:∃ m,n=m+1:=⟨n-1,by omega⟩;show cntP q m+(bif q m then 1 else 0)=_;rw[qnB.2 (fun j hj=>h1 j (by omega)),show m=m+1-1 by omega,h2,Jg]
theorem quq {d:qe}{k:Nat}(hs:smallD d):cntP (drvQ d (k:Int)) (places d).length=drvI d k d.Ab.length+drvP d k d.Af.length:=by
 rw[qgh,qtY]
 congr 1
 ·have:∀ n,n≤d.Ab.length→cntP (drvQ d (k:Int)) (off d n)=drvI d k n:=by
   intro n
   induction n with
   | zero=>intro _;rfl
   | succ n ih=>
    intro hn;rw[qjW,qtY,ih (by omega),qps]
    congr 1
    have h2:=(hs.nx n (by omega)).1;refine qwn (by omega) (fun j hj=>?_) ?_
    ·show drvQ d _ (off d n+j)=false;unfold drvQ;rw[(qiH (by omega) (by omega)).2];unfold place1;simp;omega
    ·show drvQ d _ (off d n+_)=_;unfold drvQ;rw[(qiH (by omega) (by omega)).2];unfold place1 lastN;simp;omega
  exact this _ (je _)
 ·refine qqP (fun j hj=>?_);show drvQ d _ (off d _+j)=_;unfold drvQ;rw[(qsg hj).2];unfold place2;exact Bool.and_comm _ _
theorem qvr {l:qr}{d:qe}(h:designB l d=true){k:Nat}(hk:k<d.Ah.length):cntP (drvQ d (k:Int)) (places d).length=1:=by
 rw[quq (qU h)];unfold designB drvB at h;simp only[jf] at h;have:=qaF.1 h.2.2.2 k hk;rw[beq_iff_eq] at this;omega
theorem qui {l:qr}{d:qe}(h:designB l d=true){i j:Nat}(hi:i<(places d).length)(hj:j<(places d).length)(he:(gt (places d) i).net=(gt (places d) j).net)(h1:(gt (places d) i).drives=true)(h2:(gt (places d) j).drives=true):i=j:=by
 obtain⟨n0,n1⟩:=qmr h hi;have e:=qhh n0;have:=qvr h (k:=(gt (places d) i).net.toNat) (by omega);refine qts (Nat.le_of_eq this) hi hj ?_ ?_
 ·unfold drvQ;rw[←e,h1];simp
 ·unfold drvQ;rw[←e,h2,he];simp
theorem qzi {l:qr}{d:qe}(h:designB l d=true){k:Int}(h0:0≤k)(h1:k<d.Ah.length):∃ j,j<(places d).length∧(gt (places d) j).net=k∧(gt (places d) j).drives=true:=by
 have e:=qhh h0;have:=qvr h (k:=k.toNat) (by omega);have hp:decide (0<cntP (drvQ d ((k.toNat:Nat):Int)) (places d).length)=true:=by rw[this];rfl
 rw[qtB,jD,qmz] at hp;obtain⟨j,hj,hq⟩:=hp;rw[Bool.not_eq_false',←e] at hq;unfold drvQ at hq;simp only[jf,beq_iff_eq] at hq;exact⟨j,hj,hq.1,hq.2⟩
def cellAt (b:qd)(i:Int):qv:=gt b.Ap.Am (gt b.Aa.Ab i.toNat).Bp.toNat
theorem qgW {l:qr}{d:qe}(h:designB l d=true){i:Nat}(hi:i<d.Ab.length) :
  (0≤(gt d.Ab i).Bp∧(gt d.Ab i).Bp<l.Am.length)∧(gt d.Ab i).Ah.length=(gt l.Am (gt d.Ab i).Bp.toNat).As.length∧cellB (gt l.Am (gt d.Ab i).Bp.toNat)=true:=by
 unfold designB libB at h;simp only[jf] at h;obtain⟨⟨⟨hc,_⟩,_⟩,hI,_⟩:=h;rw[qiZ,qaF] at hI hc;have:=hI i hi;unfold instB at this;simp only[jf,qbA,beq_iff_eq] at this;exact⟨⟨this.1.1,by omega⟩,by omega,hc _ (by omega)⟩
theorem qiI {c:qv}(h:cellB c=true){j:Nat}(hj:j<c.Ak.length):(1≤(gt c.Ak j).Aq∧(gt c.Ak j).Aq≤5)∧(0≤(gt c.Ak j).Bc∧(gt c.Ak j).Bc<(c.As.length:Int)-1)∧(0≤(gt c.Ak j).To∧(gt c.Ak j).To≤(c.As.length:Int)-1)∧arcS c.As (gt c.Ak j)=true:=by
 unfold cellB at h;simp only[jf] at h;obtain⟨_,hp,⟨ha,_⟩,_,_,hk⟩:=h;have:=qaF.1 ha j hj;rw[jf,qw3 hp (qrW hk)] at this;have h1:=this.1;refine⟨qr9 h1,?_⟩;have h2:=h1;unfold arcS at h2;simp only[jf,qbA] at h2;refine⟨⟨h2.1.1.1,by omega⟩,h2.1.2,h1⟩
theorem qjm {c:qv}(h:cellB c=true):c.Ak.length≤8:=by
 unfold cellB at h;simp only[jf,decide_eq_true_eq] at h;exact h.2.2.1.2
theorem qar {b:qd}(h:blockB b=true):designB b.Ap b.Aa=true:=by
 unfold blockB at h;simp only[jf] at h;exact h.1.1
end Go.Fw


namespace Go.Fw
open Go
set_option maxRecDepth 100000
theorem qvW {d:qe}{k:Int}{n i:Nat}(hi:i<(sinksL d k n).length):∃ y:Nat,y<n∧idx (sinksL d k n) (i:Int)=V (y:Int)∧snkQ d k y=true:=by
 rw[qgq hi];have hm:(sinksL d k n)[i] ∈ sinksL d k n:=jo hi;generalize (sinksL d k n)[i]=z at hm;unfold sinksL at hm;obtain⟨y,hy,rfl⟩:=List.mem_map.1 hm;obtain⟨h1,h2⟩:=List.mem_filter.1 hy;exact⟨y,List.mem_range.1 h1,rfl,h2⟩
theorem qrv {d:qe}{k:Int}(h:smallD d):Ev (fun n=>qg1 n d k) (sinksL d k (places d).length):=by
 have hl:=qbc h;have hL:Ev (fun n=>qa6 k (places d) n ([]:List Int) 0) (sinksL d k (places d).length,((places d).length:Int)):=by
  refine loopF (Lf:=qa6 k (places d)) (S:=fun j=>sinksL d k j) (len:=(places d).length) (fun n=>?_) (fun j hj X hX=>?_)
  ·simp only[qa6,ql (je _),cond_false]
  ·have hc:(sinksL d k j).length+[(j:Int)].length≤2147483648:=by
    rw[qju];have:cntP (snkQ d k) j≤j:=qgz;simp;omega
   simp only[qa6,qj hj,cond_true,qz hj,jd,wS j];rw[qjS] at hX;unfold snkQ at hX;cases h1:((gt (places d) j).net==k)
   ·rw[h1] at hX;simp only[Bool.false_and,cond_false,jX] at hX ⊢;exact hX
   ·cases h2:(gt (places d) j).drives
    ·rw[h1,h2] at hX;simp only[Bool.not_false,Bool.and_self,cond_true,qb0 hc,jd] at hX ⊢;exact hX
    ·rw[h1,h2] at hX;simp only[jW,Bool.and_false,cond_false,jX,cond_true] at hX ⊢;exact hX
 unfold qg1;exact Ev.bind (qnK h) (Ev.bind hL .done)
structure wireOk (b:qd)(i:Nat):Prop where
 lo:1≤(gt b.Ac i).Aj.length
 hi:(gt b.Ac i).Aj.length≤8
 res:(gt b.Ac i).Bv.length=(gt b.Ac i).Aj.length
 cap:(gt b.Ac i).Br.length=(gt b.Ac i).Aj.length
 par:∀ j,0<j→j<(gt b.Ac i).Aj.length→0≤at0 (gt b.Ac i).Aj j∧at0 (gt b.Ac i).Aj j<j
 snk:(gt b.Ac i).Bi.length=(sinksL b.Aa (i:Int) (places b.Aa).length).length
 sin:∀ j,j<(gt b.Ac i).Bi.length→0≤at0 (gt b.Ac i).Bi j∧at0 (gt b.Ac i).Bi j<(gt b.Ac i).Aj.length
theorem qbE {b:qd}(h:blockB b=true){i:Nat}(hi:i<b.Ac.length):wireOk b i:=by
 unfold blockB at h;rw[jf,qaF] at h;have:=h.2 i hi;unfold wireB lenB at this;simp only[jf,decide_eq_true_eq,beq_iff_eq] at this;obtain⟨⟨h1,h2⟩,h3,h4,h5,_,_,h6,h7⟩:=this;refine⟨h1,h2,by omega,by omega,fun j hj0 hj=>?_,?_,fun j hj=>?_⟩
 ·have:=qaF.1 h5 j hj;unfold treeB at this;rw[show decide (j=0)=false by simp;omega] at this;simp only[cond_false,qbA] at this;omega
 ·rw[qju];unfold snkN at h6;omega
 ·rw[qhu (d:=0),qaF] at h7;have:=h7 j hj;rw[qbA] at this;unfold at0;omega
theorem qmk {b:qd}(h:blockB b=true):b.Ac.length=b.Aa.Ah.length:=by
 unfold blockB at h;simp only[jf,beq_iff_eq] at h;omega
end Go.Fw


namespace Go.Fw
open Go
set_option maxRecDepth 100000
instance:Inhabited qt:=⟨⟨0,0,0,0⟩⟩
instance:Inhabited qV:=⟨⟨0,0⟩⟩
theorem qnJ {α:Type}{m:Nat}{z:α}(h:m≤2147483648):mkS (m:Int) z=V (List.replicate m z):=by
 unfold mkS big;rw[if_pos ⟨by omega,by omega⟩,jq]
theorem qr3 {α:Type}[Inhabited α]{xs:List α}{a k:Nat}{y:α}(h:k ≠ a):gt (xs.set a y) k=gt xs k:=by
 unfold gt;rw[jC,List.getElem?_set_ne (by omega),←jC]
theorem qpP {α:Type}[Inhabited α]{xs:List α}{a:Nat}{y:α}(h:a<xs.length):gt (xs.set a y) a=y:=by
 rw[qdW (by rw[List.length_set];exact h),List.getElem_set_self]
end Go.Fw


namespace Go.Fw
open Go
set_option maxRecDepth 100000
def sumZ (f:Nat→Int):Nat→Int
 | 0=>0
 | n+1=>sumZ f n+f n
theorem qur {f g:Nat→Int}{n:Nat}(h:∀ u,u<n→f u=g u):sumZ f n=sumZ g n:=by
 induction n with
 | zero=>rfl
 | succ n ih=>unfold sumZ;rw[ih (fun u hu=>h u (by omega)),h n (by omega)]
theorem qt9 {f g:Nat→Int}{a n:Nat}(ha:a<n)(h:∀ u,u<n→u ≠ a→f u=g u):sumZ f n=sumZ g n+(f a-g a):=by
 induction n with
 | zero=>omega
 | succ n ih=>
  unfold sumZ;by_cases hn:a=n
  ·subst hn;rw[qur (fun u hu=>h u (by omega) (by omega))];omega
  ·rw[ih (by omega) (fun u hu=>h u (by omega)),h n (by omega) (by omega)];omega
theorem qyM {f:Nat→Int}{n:Nat}(h:∀ u,u<n→0≤f u):0≤sumZ f n:=by
 induction n with
 | zero=>exact jY _
 | succ n ih=>unfold sumZ;have:=ih (fun u hu=>h u (by omega));have:=h n (by omega);omega
theorem qsP {f:Nat→Int}{a n:Nat}(h:∀ u,u<n→0≤f u)(ha:a<n):f a≤sumZ f n:=by
 induction n with
 | zero=>omega
 | succ n ih=>
  unfold sumZ;by_cases hn:a=n
  ·subst hn;have:=qyM (fun u (hu:u<a)=>h u (by omega));omega
  ·have:=ih (fun u hu=>h u (by omega)) (by omega);have:=h n (by omega);omega
theorem qyV {f:Nat→Int}{n:Nat}{c:Int}(h:∀ u,u<n→f u≤c):sumZ f n≤n*c:=by
 induction n with
 | zero=>simp[sumZ]
 | succ n ih=>
  unfold sumZ;have:=ih (fun u hu=>h u (by omega));have:=h n (by omega);rw[Int.natCast_succ,Int.add_mul];omega
def pinCap (b:qd)(p:Tplace):Int:=bif decide (p.instance_<0) then 0 else(gt (cellAt b p.instance_).As p.pin.toNat).Br
def capJ (b:qd)(j:Nat):Int:=pinCap b (gt (places b.Aa) j)
theorem qwJ {b:qd}(h:blockB b=true){j:Nat}(hj:j<(places b.Aa).length){n:Nat}:qg0 n b.Aa b.Ap (gt (places b.Aa) j)=V (capJ b j):=by
 have hd:=qar h;unfold capJ pinCap;rcases qlF hj with⟨i,k,hi,hk,_,e⟩|⟨i,hi,_,e⟩
 ·rw[e];obtain⟨⟨c0,c1⟩,hn,_⟩:=qgW hd hi;unfold place1 cellAt;simp only[qg0,show decide ((i:Int)<0)=false by simp,cond_false,qz hi,jd,qd4 c0 c1,jq,qz (show k<(gt b.Ap.Am (gt b.Aa.Ab i).Bp.toNat).As.length by omega)]
 ·rw[e];rfl
theorem qwX {b:qd}(h:blockB b=true){j:Nat}(hj:j<(places b.Aa).length):0≤capJ b j∧capJ b j≤500:=by
 have hd:=qar h;unfold capJ pinCap;rcases qlF hj with⟨i,k,hi,hk,_,e⟩|⟨i,hi,_,e⟩
 ·rw[e];obtain⟨⟨c0,c1⟩,hn,hc⟩:=qgW hd hi;unfold place1 cellAt;simp only[show decide ((i:Int)<0)=false by simp,cond_false,jq];have hp:=qhr hc;unfold pinsB at hp;rw[jf,qaF] at hp;have:=hp.1 k (by omega);unfold pinB at this;cases hl:decide (k+1=(gt b.Ap.Am (gt b.Aa.Ab i).Bp.toNat).As.length)
  ·rw[hl] at this;simp only[cond_false,jf,qbA] at this;exact this.2
  ·rw[hl] at this;simp only[cond_true,jf,beq_iff_eq] at this;omega
 ·rw[e];exact⟨jY _,show(0:Int)≤500 by omega⟩
def skL (b:qd)(i:Nat):List Int:=sinksL b.Aa (i:Int) (places b.Aa).length
def addSink (b:qd)(w:qG)(sk:List Int)(t:List Int)(j:Nat):List Int:=setS t (at0 w.Bi j) (W64 (gt t (at0 w.Bi j).toNat+capJ b (at0 sk j).toNat))
def ldA (b:qd)(w:qG)(sk:List Int):Nat→List Int
 | 0=>w.Br
 | j+1=>addSink b w sk (ldA b w sk j) j
def addUp (w:qG)(t:List Int)(j:Nat):List Int:=setS t (at0 w.Aj j) (W64 (gt t (at0 w.Aj j).toNat+gt t j))
def ldB (w:qG):Nat→List Int→List Int
 | 0,t=>t
 | j+1,t=>ldB w j (addUp w t (j+1))
def loadsL (b:qd)(i:Nat):List Int:=ldB (gt b.Ac i) ((gt b.Ac i).Aj.length-1) (ldA b (gt b.Ac i) (skL b i) (skL b i).length)
theorem qoY {b:qd}{w:qG}{sk:List Int}{j:Nat}:(ldA b w sk j).length=w.Br.length:=by
 induction j with
 | zero=>rfl
 | succ j ih=>unfold ldA addSink;rw[qfs,ih]
theorem qyl {w:qG}{j:Nat}{t:List Int}:(ldB w j t).length=t.length:=by
 induction j generalizing t with
 | zero=>rfl
 | succ j ih=>unfold ldB addUp;rw[ih,qfs]
theorem qml {b:qd}(h:blockB b=true){i:Nat}(hi:i<b.Ac.length):(loadsL b i).length=(gt b.Ac i).Aj.length:=by
 unfold loadsL;rw[qyl,qoY,(qbE h hi).cap]
theorem qhB {b:qd}(h:blockB b=true){i:Nat}:(skL b i).length≤78:=by
 have hl:=qbc (qU (qar h));unfold skL;rw[qju];have:cntP (snkQ b.Aa (i:Int)) (places b.Aa).length≤(places b.Aa).length:=qgz;omega
theorem qpt {b:qd}{i j:Nat}(hj:j<(skL b i).length):∃ y:Nat,y<(places b.Aa).length∧at0 (skL b i) j=(y:Int)∧snkQ b.Aa (i:Int) y=true:=by
 obtain⟨y,h1,h2,h3⟩:=qvW hj;exact⟨y,h1,by have:=h2;rw[show(sinksL b.Aa (i:Int) (places b.Aa).length)=skL b i from rfl,qaz hj] at this;exact Option.some.inj this,h3⟩
theorem qoP {b:qd}(h:blockB b=true){i:Nat}(hi:i<b.Ac.length):Ev (fun n=>qdF n b (i:Int)) (loadsL b i):=by
 have hw:=qbE h hi;have hs:=qU (qar h);have hlo:=hw.lo;have hhi:=hw.hi;have hcap:=hw.cap;have hsm:=qhB h (i:=i);have e1:Ev (fun n=>qbr b (gt b.Ac i) (places b.Aa) (skL b i) n (gt b.Ac i).Br 0) (ldA b (gt b.Ac i) (skL b i) (skL b i).length,((skL b i).length:Int)):=by
  refine loopF (Lf:=qbr b (gt b.Ac i) (places b.Aa) (skL b i)) (S:=ldA b (gt b.Ac i) (skL b i)) (len:=(skL b i).length) (fun n=>?_) (fun j hj X hX=>?_)
  ·simp only[qbr,ql (je _),cond_false]
  ·obtain⟨y,hy,ey,_⟩:=qpt hj;have hjs:j<(gt b.Ac i).Bi.length:=by rw[hw.snk];exact hj
   have hsn:=hw.sin j hjs;have hln:=qoY (b:=b) (w:=gt b.Ac i) (sk:=skL b i) (j:=j);simp only[qbr,qj hj,cond_true,qaz hj,ey,jd,qaz hjs,qd4 hsn.1 (show at0 (gt b.Ac i).Bi j<((ldA b (gt b.Ac i) (skL b i) j).length:Int) by omega),qz hy,qwJ h hy,wS j];have:ldA b (gt b.Ac i) (skL b i) (j+1)=setS (ldA b (gt b.Ac i) (skL b i) j) (at0 (gt b.Ac i).Bi j) (W64 (gt (ldA b (gt b.Ac i) (skL b i) j) (at0 (gt b.Ac i).Bi j).toNat+capJ b y)):=by
    show addSink _ _ _ _ _=_;unfold addSink;rw[ey,jq]
   rw[this] at hX;exact hX
 have e2:∀ j t,t.length=(gt b.Ac i).Aj.length→j<(gt b.Ac i).Aj.length→Ev (fun n=>qby (gt b.Ac i) n t (j:Int)) (ldB (gt b.Ac i) j t,0):=by
  intro j
  induction j with
  | zero=>
   intro t _ _;refine Ev.succ ?_;show Ev (fun n=>qby (gt b.Ac i) (n+1) t 0) _;unfold qby;exact Ev.ff Z .done
  | succ j ih=>
   intro t ht hj;have hp:=hw.par (j+1) (by omega) hj;refine Ev.succ ?_;simp only[qby,show decide (((j+1:Nat):Int) > 0)=true from decide_eq_true (by omega),cond_true,qaz hj,jd,qd4 hp.1 (show at0 (gt b.Ac i).Aj (j+1)<(t.length:Int) by omega),qz (show j+1<t.length by omega),show((j+1:Nat):Int)-1=(j:Int) by omega,qI (show -9223372036854775808≤(j:Int) by omega) (by omega)];exact ih _ (by rw[qfs];exact ht) (by omega)
 unfold qdF qin;rw[qz hi];simp only[jd,qb0 (show([]:List Int).length+(gt b.Ac i).Br.length≤2147483648 by simp;omega),List.nil_append];refine Ev.bind (qnK hs) (Ev.bind (qrv hs) (Ev.bind e1 ?_));rw[qfh (show(gt b.Ac i).Br.length≤9223372036854775807 by omega),show((gt b.Ac i).Br.length:Int)-1=(((gt b.Ac i).Aj.length-1:Nat):Int) by omega];exact Ev.bind (e2 _ _ (by rw[qoY];exact hcap) (by omega)) .done
structure LdOk (t:List Int)(L:Nat)(S:Int):Prop where
 len:t.length=L
 nn:∀ k,k<L→0≤gt t k
 sum:sumZ (gt t) L≤S
theorem qmi {t:List Int}{a:Nat}{y:Int}{k:Nat}(ha:a<t.length):gt (setS t (a:Int) y) k=if k=a then y else gt t k:=by
 unfold setS;rw[jq];by_cases h:k=a
 ·subst h;rw[if_pos Z,qpP ha]
 ·rw[if_neg h,qr3 h]
theorem qzh {b:qd}(h:blockB b=true){i:Nat}(hi:i<b.Ac.length)(hcp:∀ k,k<(gt b.Ac i).Br.length→0≤gt (gt b.Ac i).Br k∧gt (gt b.Ac i).Br k≤500) :
  ∀ j,j≤(skL b i).length→LdOk (ldA b (gt b.Ac i) (skL b i) j) (gt b.Ac i).Aj.length (4000+500*j):=by
 have hw:=qbE h hi;have hhi:=hw.hi;have hcap:=hw.cap;have hsm:=qhB h (i:=i);intro j
 induction j with
 | zero=>
  intro _;refine⟨hcap,fun k hk=>(hcp k (by omega)).1,?_⟩;have:=qyV (f:=gt (gt b.Ac i).Br) (n:=(gt b.Ac i).Aj.length) (c:=500) (fun u hu=>(hcp u (by omega)).2);show sumZ (gt (gt b.Ac i).Br) _≤_;omega
 | succ j ih=>
  intro hj;obtain⟨l1,n1,s1⟩:=ih (by omega);obtain⟨y,hy,ey,_⟩:=qpt (show j<(skL b i).length by omega);have hc:=qwX h hy;have hsn:=hw.sin j (by rw[hw.snk];exact(show j<(skL b i).length by omega));obtain⟨a,ha⟩:∃ a:Nat,at0 (gt b.Ac i).Bi j=(a:Int):=⟨_,qhh hsn.1⟩;rw[ha] at hsn;have hal:a<(gt b.Ac i).Aj.length:=by omega
  have hge:=qsP n1 hal;have hn:=n1 a hal;have e:ldA b (gt b.Ac i) (skL b i) (j+1)=setS (ldA b (gt b.Ac i) (skL b i) j) (a:Int) (gt (ldA b (gt b.Ac i) (skL b i) j) a+capJ b y):=by
   show addSink _ _ _ _ _=_;unfold addSink;rw[ey,ha,jq,jq,qI (by omega) (by omega)]
  rw[e];refine⟨by rw[qfs];exact l1,fun k hk=>?_,?_⟩
  ·rw[qmi (by omega)];split
   ·omega
   ·exact n1 k hk
  ·rw[qt9 (g:=gt (ldA b (gt b.Ac i) (skL b i) j)) hal (fun u _ hne=>by rw[qmi (by omega),if_neg hne]),qmi (by omega),if_pos Z];omega
theorem qzy {b:qd}(h:blockB b=true){i:Nat}(hi:i<b.Ac.length){S:Int}(hS:S≤1000000000):∀ j t,j<(gt b.Ac i).Aj.length→t.length=(gt b.Ac i).Aj.length→(∀ k,k<t.length→0≤gt t k∧gt t k≤S)→sumZ (gt t) (j+1)≤S →
  ∀ k,k<t.length→0≤gt (ldB (gt b.Ac i) j t) k∧gt (ldB (gt b.Ac i) j t) k≤S:=by
 have hw:=qbE h hi;intro j
 induction j with
 | zero=>intro t _ _ hk _;exact hk
 | succ j ih=>
  intro t hj ht hk hsum;have hp:=hw.par (j+1) (by omega) hj;obtain⟨a,ha⟩:∃ a:Nat,at0 (gt b.Ac i).Aj (j+1)=(a:Int):=⟨_,qhh hp.1⟩;rw[ha] at hp;have h1:=hk a (by omega);have h2:=hk (j+1) (by omega);have e:addUp (gt b.Ac i) t (j+1)=setS t (a:Int) (gt t a+gt t (j+1)):=by
   unfold addUp;rw[ha,jq,qI (by omega) (by omega)]
  have hs2:sumZ (gt (setS t (a:Int) (gt t a+gt t (j+1)))) (j+1)≤S:=by
   rw[qt9 (g:=gt t) (a:=a) (by omega) (fun u _ hne=>by rw[qmi (by omega),if_neg hne]),qmi (by omega),if_pos Z];have:sumZ (gt t) (j+1+1)=sumZ (gt t) (j+1)+gt t (j+1):=rfl;omega
  unfold ldB;rw[e];have:=ih (setS t (a:Int) (gt t a+gt t (j+1))) (by omega) (by rw[qfs];exact ht) (fun k hk'=>by
   rw[qfs] at hk';have hnn:∀ u,u<j+1→0≤gt (setS t (a:Int) (gt t a+gt t (j+1))) u:=fun u hu=>by
    rw[qmi (by omega)];split
    ·omega
    ·exact(hk u (by omega)).1
   have hge:=qsP hnn (show a<j+1 by omega);rw[qmi (by omega)] at hge ⊢;rw[if_pos Z] at hge;split
   ·omega
   ·exact hk k hk') hs2
  rw[qfs] at this;exact this
theorem qpT {b:qd}(h:blockB b=true){i:Nat}(hi:i<b.Ac.length):(∀ k,k<(gt b.Ac i).Br.length→0≤gt (gt b.Ac i).Br k∧gt (gt b.Ac i).Br k≤500)∧(∀ k,k<(gt b.Ac i).Bv.length→0≤at0 (gt b.Ac i).Bv k∧at0 (gt b.Ac i).Bv k≤1000):=by
 unfold blockB at h;rw[jf,qaF] at h;have:=h.2 i hi;unfold wireB lenB at this;simp only[jf,decide_eq_true_eq,beq_iff_eq] at this;obtain⟨_,_,_,_,hr,hc,_⟩:=this;rw[qhu (d:=0),qaF] at hr hc;exact⟨fun k hk=>by have:=hc k hk;rw[qbA] at this;exact this,fun k hk=>by have:=hr k hk;rw[qbA] at this;exact this⟩
theorem quO {b:qd}(h:blockB b=true){i:Nat}(hi:i<b.Ac.length){k:Nat}(hk:k<(gt b.Ac i).Aj.length):0≤gt (loadsL b i) k∧gt (loadsL b i) k≤43000:=by
 have hw:=qbE h hi;have hlo:=hw.lo;have hsm:=qhB h (i:=i);obtain⟨l1,n1,s1⟩:=qzh h hi (qpT h hi).1 (skL b i).length (je _);have:=qzy h hi (S:=43000) (by omega) ((gt b.Ac i).Aj.length-1) (ldA b (gt b.Ac i) (skL b i) (skL b i).length) (by omega) l1 (fun k hk=>by
  have h1:=n1 k (by omega);have h2:=qsP n1 (show k<(gt b.Ac i).Aj.length by omega);exact⟨h1,by omega⟩) (by rw[show(gt b.Ac i).Aj.length-1+1=(gt b.Ac i).Aj.length by omega];omega) k (by omega)
 exact this
def dlL (w:qG)(ld:List Int):Nat→List Int
 | 0=>[0]
 | k+1=>dlL w ld k++[W64 (gt (dlL w ld k) (at0 w.Aj (k+1)).toNat+W64 (at0 w.Bv (k+1)*gt ld (k+1)))]
theorem qox {w:qG}{ld:List Int}{k:Nat}:(dlL w ld k).length=k+1:=by
 induction k with
 | zero=>rfl
 | succ k ih=>unfold dlL;rw[jh,ih];rfl
def delaysL (b:qd)(i:Nat):List Int:=dlL (gt b.Ac i) (loadsL b i) ((gt b.Ac i).Aj.length-1)
def exactL (b:qd)(i:Nat):List Int:=(gt b.Ac i).Bi.map fun s=>gt (delaysL b i) s.toNat
theorem qnl {b:qd}(h:blockB b=true){i:Nat}(hi:i<b.Ac.length):(delaysL b i).length=(gt b.Ac i).Aj.length:=by
 unfold delaysL;rw[qox];have:=(qbE h hi).lo;omega
theorem qyw {w:qG}{ld:List Int}{k m:Nat}(hm:k+1<m)(hp:at0 w.Aj (k+1)<((k+1:Nat):Int))(_:0≤at0 w.Aj (k+1)) :
  setS (dlL w ld k++List.replicate (m-(k+1)) 0) ((k+1:Nat):Int) (W64 (gt (dlL w ld k++List.replicate (m-(k+1)) 0) (at0 w.Aj (k+1)).toNat+W64 (at0 w.Bv (k+1)*gt ld (k+1))))=dlL w ld (k+1)++List.replicate (m-(k+1+1)) 0:=by
 have hlen:=qox (w:=w) (ld:=ld) (k:=k);have e1:gt (dlL w ld k++List.replicate (m-(k+1)) 0) (at0 w.Aj (k+1)).toNat=gt (dlL w ld k) (at0 w.Aj (k+1)).toNat:=by
  rw[qmb,if_pos (by omega)]
 rw[e1];unfold setS;rw[jq,List.set_append,if_neg (by omega),hlen,Nat.sub_self,show m-(k+1)=(m-(k+1+1))+1 by omega,List.replicate_succ,List.set_cons_zero];show _=(dlL w ld k++[_])++_;rw[jp]
 rfl
theorem qrQ {b:qd}(h:blockB b=true){i:Nat}(hi:i<b.Ac.length):Ev (fun n=>qe0 n b (i:Int)) (delaysL b i):=by
 have hw:=qbE h hi;have hlo:=hw.lo;have hhi:=hw.hi;have hres:=hw.res;have l1:=qml h hi;have hmk:mkS ((loadsL b i).length:Int) (0:Int)=V (List.replicate (loadsL b i).length 0):=qjD (by omega);have main:∀ d k,k+1+d=(gt b.Ac i).Aj.length→Ev (fun n=>qbO (gt b.Ac i) (loadsL b i) (List.replicate (loadsL b i).length 0) n (dlL (gt b.Ac i) (loadsL b i) k++List.replicate ((gt b.Ac i).Aj.length-(k+1)) 0) ((k+1:Nat):Int)) (delaysL b i,((loadsL b i).length:Int)):=by
  intro d
  induction d with
  | zero=>
   intro k hk;refine Ev.succ ?_;simp only[qbO,jQ,ql (show(loadsL b i).length≤k+1 by omega),cond_false];refine Ev.now ?_;rw[show(gt b.Ac i).Aj.length-(k+1)=0 by omega,List.replicate_zero,jX,l1,←hk];unfold delaysL;rw[←hk]
   rfl
  | succ d ih=>
   intro k hk;have hp:=hw.par (k+1) (by omega) (by omega);have hlen:=qox (w:=gt b.Ac i) (ld:=loadsL b i) (k:=k);have hll:(dlL (gt b.Ac i) (loadsL b i) k++List.replicate ((gt b.Ac i).Aj.length-(k+1)) 0).length=(gt b.Ac i).Aj.length:=by rw[jh,jQ,hlen];omega
   refine Ev.succ ?_;simp only[qbO,jQ,qj (show k+1<(loadsL b i).length by omega),cond_true,qaz (show k+1<(gt b.Ac i).Aj.length by omega),jd,qd4 hp.1 (show at0 (gt b.Ac i).Aj (k+1)<((dlL (gt b.Ac i) (loadsL b i) k++List.replicate ((gt b.Ac i).Aj.length-(k+1)) 0).length:Int) by omega),
    qaz (show k+1<(gt b.Ac i).Bv.length by omega),qz (show k+1<(loadsL b i).length by omega),qz (show k+1<(dlL (gt b.Ac i) (loadsL b i) k++List.replicate ((gt b.Ac i).Aj.length-(k+1)) 0).length by omega),qdM (show k+1<9223372036854775807 by omega)]
   rw[qyw (by omega) hp.2 hp.1];exact ih (k+1) (by omega)
 unfold qe0;rw[qz hi];simp only[jd];refine Ev.bind (qoP h hi) ?_;rw[hmk];simp only[jd];have:=main ((gt b.Ac i).Aj.length-1) 0 (by omega);have e0:dlL (gt b.Ac i) (loadsL b i) 0++List.replicate ((gt b.Ac i).Aj.length-(0+1)) 0=List.replicate (loadsL b i).length 0:=by
  rw[l1];show[(0:Int)]++_=_;rw[show(gt b.Ac i).Aj.length=((gt b.Ac i).Aj.length-(0+1))+1 by omega,List.replicate_succ]
  rfl
 rw[e0] at this;exact Ev.bind this .done
theorem qrh {b:qd}(h:blockB b=true){i:Nat}(hi:i<b.Ac.length):Ev (fun n=>qeo n b (i:Int)) (exactL b i):=by
 have hw:=qbE h hi;have hsl:(gt b.Ac i).Bi.length≤78:=by rw[hw.snk];exact qhB h
 have hdl:=qnl h hi;have e3:Ev (fun n=>qa4 (delaysL b i) (gt b.Ac i) n ([]:List Int) 0) (exactL b i,((gt b.Ac i).Bi.length:Int)):=by
  refine loopF (Lf:=qa4 (delaysL b i) (gt b.Ac i)) (S:=fun j=>((gt b.Ac i).Bi.take j).map fun s=>gt (delaysL b i) s.toNat) (len:=(gt b.Ac i).Bi.length) (fun n=>?_) (fun j hj X hX=>?_)
  ·simp only[qa4,ql (je _),cond_false,jH];rfl
  ·have hsn:=hw.sin j hj;simp only[qa4,qj hj,cond_true,qaz hj,jd,qd4 hsn.1 (show at0 (gt b.Ac i).Bi j<((delaysL b i).length:Int) by omega),wS j];rw[qb0 (by rw[ju,Jf,jt];omega)];have:((gt b.Ac i).Bi.take j).map (fun s=>gt (delaysL b i) s.toNat)++[gt (delaysL b i) (at0 (gt b.Ac i).Bi j).toNat]=((gt b.Ac i).Bi.take (j+1)).map fun s=>gt (delaysL b i) s.toNat:=by
    rw[jy hj,jF,qna hj];rfl
   rw[this];exact hX
 unfold qeo;refine Ev.bind (qrQ h hi) ?_;rw[qz hi];simp only[jd];exact Ev.bind e3 .done
theorem qt3 {b:qd}(h:blockB b=true){i:Nat}(hi:i<b.Ac.length):∀ k,k<(gt b.Ac i).Aj.length→∀ m,m≤k→0≤gt (dlL (gt b.Ac i) (loadsL b i) k) m∧gt (dlL (gt b.Ac i) (loadsL b i) k) m≤43000000*k:=by
 have hw:=qbE h hi;have hhi:=hw.hi;have hres:=hw.res;intro k
 induction k with
 | zero=>
  intro _ m hm;have hm0:m=0:=by omega
  subst hm0;exact⟨jY _,jY _⟩
 | succ k ih=>
  intro hk m hm;have hlen:=qox (w:=gt b.Ac i) (ld:=loadsL b i) (k:=k);unfold dlL;rw[qmb];split
  ·have:=ih (by omega) m (by omega);omega
  ·have hm1:m=k+1:=by omega
   subst hm1;rw[hlen,Nat.sub_self];show 0≤W64 _∧W64 _≤_;have hp:=hw.par (k+1) (by omega) hk;obtain⟨a,ha⟩:∃ a:Nat,at0 (gt b.Ac i).Aj (k+1)=(a:Int):=⟨_,qhh hp.1⟩;rw[ha] at hp ⊢;rw[jq];have h1:=ih (by omega) a (by omega);have h2:=(qpT h hi).2 (k+1) (by omega);have h3:=quO h hi hk;have h4:at0 (gt b.Ac i).Bv (k+1)*gt (loadsL b i) (k+1)≤1000*43000:=Jd h2.2 h3.2 h3.1 (by omega);have h5:0≤at0 (gt b.Ac i).Bv (k+1)*gt (loadsL b i) (k+1):=jU h2.1 h3.1;rw[wO (at0 (gt b.Ac i).Bv (k+1)*gt (loadsL b i) (k+1)),qI (by omega) (by omega)];omega
theorem qqS {b:qd}(h:blockB b=true){i:Nat}(hi:i<b.Ac.length){j:Nat}(hj:j<(gt b.Ac i).Bi.length):0≤gt (exactL b i) j∧gt (exactL b i) j≤344000000:=by
 have hw:=qbE h hi;have hhi:=hw.hi;have hsn:=hw.sin j hj;have e:gt (exactL b i) j=gt (delaysL b i) (at0 (gt b.Ac i).Bi j).toNat:=by
  unfold exactL;rw[qdW (by rw[ju];exact hj),List.getElem_map,qna hj]
 rw[e];have:=qt3 h hi ((gt b.Ac i).Aj.length-1) (by omega) (at0 (gt b.Ac i).Bi j).toNat (by omega);show 0≤gt (dlL _ _ _) _∧gt (dlL _ _ _) _≤_;omega
end Go.Fw


namespace Go.Fw
open Go
set_option maxRecDepth 100000
def pre {α:Type}(f:Nat→α)(j:Nat):List α:=(List.range j).map f
theorem qjE {α:Type}{f:Nat→α}{j:Nat}:(pre f j).length=j:=by simp[pre]
theorem qxd {α:Type}{f:Nat→α}{j:Nat}:pre f j++[f j]=pre f (j+1):=by unfold pre;rw[Je,jF];rfl
theorem qoT {α:Type}{f:Nat→α}{j:Nat}(h:j≤1048576):appS (pre f j) [f j]=V (pre f (j+1)):=by
 rw[qb0 (by rw[qjE,jt];omega),qxd]
theorem qux {α:Type}[Inhabited α]{f:Nat→α}{n j:Nat}(h:j<n):gt (pre f n) j=f j:=qq9 h
theorem qiO {α:Type}[Inhabited α]{f:Nat→α}{n j:Nat}(h:j<n):idx (pre f n) (j:Int)=V (f j):=by rw[qz (by rw[qjE];exact h),qux h]
theorem qe6 {α:Type}{f g:Nat→α}{n:Nat}(h:∀ k,k<n→f k=g k):pre f n=pre g n:=List.map_congr_left fun k hk=>h k (List.mem_range.1 hk)
theorem qnz {α:Type}{f:Nat→α}{n k:Nat}{v:α}:setS (pre f n) (k:Int) v=pre (fun i=>if i=k then v else f i) n:=by
 unfold setS pre;rw[jq];refine jZ (by simp) fun i h1 h2=>?_;rw[List.getElem_set];by_cases h:k=i
 ·subst h;simp
 ·rw[if_neg h];simp[show ¬ i=k from fun e=>h e.symm]
def fm {α:Type}(f:Nat→List α)(j:Nat):List α:=(List.range j).flatMap f
theorem qko {α:Type}{f:Nat→List α}{j:Nat}:fm f (j+1)=fm f j++f j:=by unfold fm;rw[Je,List.flatMap_append];simp
theorem qpr {α:Type}{f:Nat→List α}{j c:Nat}(h:∀ i,i<j→(f i).length≤c):(fm f j).length≤c*j:=by
 induction j with
 | zero=>exact je _
 | succ j ih=>rw[qko,jh];have:=ih (fun i hi=>h i (by omega));have:=h j (by omega);rw[Nat.mul_succ];omega
def transL (a:qH):List qV:=
 bif (a.Aq==2) then[⟨0,0⟩,⟨0,1⟩] else bif (a.Aq==3) then[⟨1,0⟩,⟨1,1⟩] else bif (a.Aq != 1) then[] else
 bif (a.Bn==1) then[⟨0,0⟩,⟨1,1⟩] else bif (a.Bn==2) then[⟨0,1⟩,⟨1,0⟩] else[⟨0,0⟩,⟨0,1⟩,⟨1,0⟩,⟨1,1⟩]
theorem qv0 {a:qH}{n:Nat}:qft n a=V (transL a):=by
 unfold qft transL;cases (a.Aq==2)
 ·cases (a.Aq==3)
  ·cases (a.Aq != 1)
   ·cases (a.Bn==1)
    ·cases (a.Bn==2)<;>rfl
    ·rfl
   ·rfl
  ·rfl
 ·rfl
theorem qqT {a:qH}:(transL a).length≤4:=by
 unfold transL;cases (a.Aq==2)
 ·cases (a.Aq==3)
  ·cases (a.Aq != 1)
   ·cases (a.Bn==1)
    ·cases (a.Bn==2)<;>simp
    ·simp
   ·simp
  ·simp
 ·simp
def b01 (x:Int):Prop:=x=0∨x=1
theorem qsc {a:qH}{t:qV}(h:t ∈ transL a):b01 t.e0∧b01 t.e1:=by
 have main:∀ t ∈ [(⟨0,0⟩:qV),⟨0,1⟩,⟨1,0⟩,⟨1,1⟩],b01 t.e0∧b01 t.e1:=by
  intro t ht;simp only[Jb,jO,or_false] at ht;rcases ht with rfl|rfl|rfl|rfl<;>simp[b01]
 refine main t ?_;unfold transL at h;revert h;cases (a.Aq==2)
 ·cases (a.Aq==3)
  ·cases (a.Aq != 1)
   ·cases (a.Bn==1)
    ·cases (a.Bn==2)
     ·exact fun h=>h
     ·intro h;simp at h;rcases h with rfl|rfl<;>simp
    ·intro h;simp at h;rcases h with rfl|rfl<;>simp
   ·intro h;simp at h
  ·intro h;simp at h;rcases h with rfl|rfl<;>simp
 ·intro h;simp at h;rcases h with rfl|rfl<;>simp
def al1 (first:Int)(k:Nat)(a:qH)(t:qV):qt:=⟨2*(first+a.Bc)+t.e0,2*(first+a.To)+t.e1,1,(k:Int)⟩
def arcLs (first:Int)(k:Nat)(a:qH):List qt:=(transL a).map (al1 first k a)
def cellLs (c:qv)(first:Int)(j:Nat):List qt:=fm (fun k=>arcLs first k (gt c.Ak k)) j
def instLs (b:qd)(j:Nat):List qt:=fm (fun i=>cellLs (cellAt b (i:Int)) (off b.Aa i:Int) (cellAt b (i:Int)).Ak.length) j
theorem qpc {first:Int}{k:Nat}{a:qH}:(arcLs first k a).length≤4:=by unfold arcLs;rw[ju];exact qqT
theorem qsU {b:qd}(h:blockB b=true){i:Nat}(hi:i<b.Aa.Ab.length):Ev (fun n=>qfA n b (gt b.Aa.Ab i) (off b.Aa i:Int)) (cellLs (cellAt b (i:Int)) (off b.Aa i:Int) (cellAt b (i:Int)).Ak.length):=by
 have hd:=qar h;have hs:=qU hd;obtain⟨⟨c0,c1⟩,hnl,hcb⟩:=qgW hd hi;have ha:=qjm hcb;have hpb:=(qfD (qhr hcb)).1;have hoff:off b.Aa i≤78:=by
  have:=qbc hs;rw[qgh] at this;have:=qs7 (d:=b.Aa) (show i≤b.Aa.Ab.length by omega);omega
 show Ev _ (cellLs (gt b.Ap.Am (gt b.Aa.Ab i).Bp.toNat) (off b.Aa i:Int) (gt b.Ap.Am (gt b.Aa.Ab i).Bp.toNat).Ak.length);generalize hc:gt b.Ap.Am (gt b.Aa.Ab i).Bp.toNat=c at hnl hcb ha hpb ⊢;have hL:Ev (fun n=>qbu (off b.Aa i:Int) c n ([]:List qt) 0) (cellLs c (off b.Aa i:Int) c.Ak.length,(c.Ak.length:Int)):=by
  refine loopF (Lf:=qbu (off b.Aa i:Int) c) (S:=cellLs c (off b.Aa i:Int)) (len:=c.Ak.length) (fun n=>?_) (fun j hj X hX=>?_)
  ·simp only[qbu,ql (je _),cond_false]
  ·have hk:=qiI hcb hj;have hcl:(cellLs c (off b.Aa i:Int) j).length≤4*j:=qpr fun _ _=>qpc;simp only[qbu,qj hj,cond_true,qz hj,jd,qv0,wS j];have hL2:Ev (fun n=>qbs (off b.Aa i:Int) (j:Int) (gt c.Ak j) (transL (gt c.Ak j)) n (cellLs c (off b.Aa i:Int) j) 0) (cellLs c (off b.Aa i:Int) (j+1),((transL (gt c.Ak j)).length:Int)):=by
    have h4:=qqT (a:=gt c.Ak j);have:=loopF (Lf:=qbs (off b.Aa i:Int) (j:Int) (gt c.Ak j) (transL (gt c.Ak j))) (S:=fun k=>cellLs c (off b.Aa i:Int) j++((transL (gt c.Ak j)).take k).map (al1 (off b.Aa i:Int) j (gt c.Ak j))) (len:=(transL (gt c.Ak j)).length) (fin:=(cellLs c (off b.Aa i:Int) (j+1),((transL (gt c.Ak j)).length:Int))) (fun n=>by
      simp only[qbs,ql (je _),cond_false,jH];show V (cellLs c _ j++arcLs _ j _,_)=V (fm _ (j+1),_);rw[qko];rfl)
     (fun k hk2 X hX=>by
      have ht:=qsc (a:=gt c.Ak j) (t:=gt (transL (gt c.Ak j)) k) (by rw[qdW hk2];exact jo hk2);have e0:W64 (W64 (2*W64 ((off b.Aa i:Int)+(gt c.Ak j).Bc))+(gt (transL (gt c.Ak j)) k).e0)=2*((off b.Aa i:Int)+(gt c.Ak j).Bc)+(gt (transL (gt c.Ak j)) k).e0:=by
       rcases ht.1 with e|e<;>rw[e,wO ((off b.Aa i:Int)+(gt c.Ak j).Bc),qI (x:=2*((off b.Aa i:Int)+(gt c.Ak j).Bc)) (by omega) (by omega),qI (by omega) (by omega)]
      have e1:W64 (W64 (2*W64 ((off b.Aa i:Int)+(gt c.Ak j).To))+(gt (transL (gt c.Ak j)) k).e1)=2*((off b.Aa i:Int)+(gt c.Ak j).To)+(gt (transL (gt c.Ak j)) k).e1:=by
       rcases ht.2 with e|e<;>rw[e,wO ((off b.Aa i:Int)+(gt c.Ak j).To),qI (x:=2*((off b.Aa i:Int)+(gt c.Ak j).To)) (by omega) (by omega),qI (by omega) (by omega)]
      simp only[qbs,qj hk2,cond_true,qz hk2,jd,e0,e1,wS k];rw[qb0 (by rw[jh,ju,Jf,jt];omega),jp];have:((transL (gt c.Ak j)).take k).map (al1 (off b.Aa i:Int) j (gt c.Ak j))++[al1 (off b.Aa i:Int) j (gt c.Ak j) (gt (transL (gt c.Ak j)) k)]=((transL (gt c.Ak j)).take (k+1)).map (al1 (off b.Aa i:Int) j (gt c.Ak j)):=qgk hk2;have this2:((transL (gt c.Ak j)).take k).map (al1 (off b.Aa i:Int) j (gt c.Ak j))++[(⟨2*((off b.Aa i:Int)+(gt c.Ak j).Bc)+(gt (transL (gt c.Ak j)) k).e0,2*((off b.Aa i:Int)+(gt c.Ak j).To)+(gt (transL (gt c.Ak j)) k).e1,1,(j:Int)⟩:qt)]=((transL (gt c.Ak j)).take (k+1)).map (al1 (off b.Aa i:Int) j (gt c.Ak j)):=this;rw[this2];exact hX)
    simpa using this
   exact Ev.bind hL2 hX
 unfold qfA;rw[qd4 c0 c1,hc];simp only[jd];exact Ev.bind hL .done
def dvN (d:qe)(k:Nat):Nat:=((List.range (places d).length).find? fun j=>drvQ d (k:Int) j).getD 0
theorem qj4 {l:qr}{d:qe}(h:designB l d=true){k:Nat}(hk:k<d.Ah.length):dvN d k<(places d).length∧drvQ d (k:Int) (dvN d k)=true:=by
 obtain⟨j,hj,hn,hdr⟩:=qzi h (k:=(k:Int)) (by omega) (by omega);unfold dvN;cases hf:(List.range (places d).length).find? fun j=>drvQ d (k:Int) j with
 | none=>
  have:=List.find?_eq_none.1 hf j (List.mem_range.2 hj);exact absurd (by unfold drvQ;rw[hn,hdr];simp) this
 | some i=>exact⟨List.mem_range.1 (List.mem_of_find?_eq_some hf),by have:=List.find?_some hf;exact this⟩
theorem qoE {d:qe}{k:Int}{j:Nat}:drvQ d k j=true↔(gt (places d) j).net=k∧(gt (places d) j).drives=true:=by unfold drvQ;simp
theorem qxi {l:qr}{d:qe}(h:designB l d=true){k:Nat}(hk:k<d.Ah.length){j:Nat}(hj:j<(places d).length)(hn:(gt (places d) j).net=(k:Int))(hd:(gt (places d) j).drives=true):dvN d k=j:=by
 obtain⟨h1,h2⟩:=qj4 h hk;obtain⟨h3,h4⟩:=qoE.1 h2;exact qui h h1 hj (by rw[h3,hn]) h4 hd
def wl1 (dv:Nat)(s:Int)(k:Nat):List qt:=[⟨2*(dv:Int),2*s,2,(k:Int)⟩,⟨2*(dv:Int)+1,2*s+1,2,(k:Int)⟩]
def wlN (b:qd)(i j:Nat):List qt:=fm (fun k=>wl1 (dvN b.Aa i) (at0 (skL b i) k) k) j
def wireLs (b:qd)(j:Nat):List qt:=fm (fun i=>wlN b i (skL b i).length) j
def linksL (b:qd):List qt:=instLs b b.Aa.Ab.length++wireLs b b.Ac.length
def load0 (b:qd)(i:Nat):Int:=gt (loadsL b i) 0
def viewE (b:qd)(ex:List Int):Tview:=⟨b,places b.Aa,linksL b,pre (load0 b) b.Ac.length,pre (exactL b) b.Ac.length,ex⟩
def viewV (b:qd):Tview:=viewE b []
theorem qjs {b:qd}(h:blockB b=true){j:Nat}(hj:j≤b.Aa.Ab.length):(instLs b j).length≤32*j:=by
 refine qpr fun i hi=>?_;obtain⟨_,_,hcb⟩:=qgW (qar h) (show i<b.Aa.Ab.length by omega);have ha:=qjm hcb;have:(cellLs (cellAt b (i:Int)) (off b.Aa i:Int) (cellAt b (i:Int)).Ak.length).length≤4*(cellAt b (i:Int)).Ak.length:=qpr fun _ _=>qpc;have e:(cellAt b (i:Int)).Ak.length≤8:=ha;omega
theorem qsW {b:qd}{i j:Nat}:(wlN b i j).length≤2*j:=qpr fun _ _=>je _
theorem qol {b:qd}(h:blockB b=true){j:Nat}:(wireLs b j).length≤156*j:=by
 refine qpr fun i _=>?_;have:=qsW (b:=b) (i:=i) (j:=(skL b i).length);have:=qhB h (i:=i);omega
theorem qoa {b:qd}(h:blockB b=true):(linksL b).length≤10000:=by
 have hs:=qU (qar h);have h1:=hs.ni;have h2:=hs.nn;have h3:=qmk h;have h4:=qjs h (je _);have h5:=qol h (j:=b.Ac.length);unfold linksL;rw[jh];omega
theorem qu5 {b:qd}(h:blockB b=true):Ev (fun n=>qkk n b) (V (viewV b)):=by
 have hd:=qar h;have hs:=qU hd;have hl:=qbc hs;have hni:=hs.ni;have hnn:=hs.nn;have hwl:=qmk h;have e1:Ev (fun n=>qd5 b n ([]:List qt) 0 0) (instLs b b.Aa.Ab.length,(off b.Aa b.Aa.Ab.length:Int),(b.Aa.Ab.length:Int)):=by
  have:=loopF (τ:=List qt×Int) (Lf:=fun n t j=>qd5 b n t.1 t.2 j) (S:=fun j=>(instLs b j,(off b.Aa j:Int))) (len:=b.Aa.Ab.length) (fin:=(instLs b b.Aa.Ab.length,(off b.Aa b.Aa.Ab.length:Int),(b.Aa.Ab.length:Int))) (fun n=>by simp only[qd5,ql (je _),cond_false])
   (fun j hj X hX=>by
    have hil:=qjs h (show j≤b.Aa.Ab.length by omega);have hil1:=qjs h (show j+1≤b.Aa.Ab.length by omega);have hoff:=qjW (d:=b.Aa) (i:=j);have hof:off b.Aa (j+1)≤78:=by
     rw[qgh] at hl;have:=qs7 (d:=b.Aa) (show j+1≤b.Aa.Ab.length by omega);omega
    simp only[qd5,qj hj,cond_true,qz hj,jd,qaL,wS j];refine Ev.bind (qsU h hj) ?_;have e:instLs b j++cellLs (cellAt b (j:Int)) (off b.Aa j:Int) (cellAt b (j:Int)).Ak.length=instLs b (j+1):=qko.symm;rw[qb0 (by rw[←jh,e];omega),e,qI (by omega) (by omega),show(off b.Aa j:Int)+((gt b.Aa.Ab j).Ah.length:Int)=((off b.Aa (j+1):Nat):Int) by omega];exact hX)
  exact this
 have hm1:mkS (b.Ac.length:Int) (0:Int)=V (vecI (fun _=>0) b.Ac.length):=qsf (by omega);have hm2:mkS (b.Ac.length:Int) ([]:List Int)=V (pre (fun _=>[]) b.Ac.length):=by
  rw[qnJ (by omega)]
  congr 1
  refine jZ (by simp[pre]) fun i h1 h2=>?_;simp[pre]
 have e2:Ev (fun n=>qdc (places b.Aa) n (pre (fun _=>[]) b.Ac.length) (vecI (fun _=>0) b.Ac.length) 0) (pre (fun i=>skL b i) b.Ac.length,vecI (fun k=>(dvN b.Aa k:Int)) b.Ac.length,((places b.Aa).length:Int)):=by
  have hdv:∀ k,k<b.Ac.length→dvN b.Aa k<(places b.Aa).length:=fun k hk=>(qj4 hd (by omega)).1;have:=loopF (τ:=List (List Int)×List Int) (Lf:=fun n t j=>qdc (places b.Aa) n t.1 t.2 j) (S:=fun j=>(pre (fun i=>sinksL b.Aa (i:Int) j) b.Ac.length,vecI (fun k=>if dvN b.Aa k<j then(dvN b.Aa k:Int) else 0) b.Ac.length)) (len:=(places b.Aa).length)
   (fin:=(pre (fun i=>skL b i) b.Ac.length,vecI (fun k=>(dvN b.Aa k:Int)) b.Ac.length,((places b.Aa).length:Int))) (fun n=>by
    simp only[qdc,ql (je _),cond_false];rw[qfF (g:=fun k=>(dvN b.Aa k:Int)) (fun k hk=>if_pos (hdv k hk))]
    rfl)
   (fun j hj X hX=>by
    obtain⟨n0,n1⟩:=qmr hd hj;obtain⟨k0,hk0⟩:∃ k0:Nat,(gt (places b.Aa) j).net=(k0:Int):=⟨_,qhh n0⟩;have hkl:k0<b.Ac.length:=by omega
    simp only[qdc,qj hj,cond_true,qz hj,jd,hk0,wS j,qmW hkl,qiO (f:=fun i=>sinksL b.Aa (i:Int) j) hkl];cases hdr:(gt (places b.Aa) j).drives
    ·have e5:pre (fun i=>sinksL b.Aa (i:Int) (j+1)) b.Ac.length=setS (pre (fun i=>sinksL b.Aa (i:Int) j) b.Ac.length) (k0:Int) (sinksL b.Aa (k0:Int) j++[(j:Int)]):=by
      rw[qnz];refine qe6 fun k hk=>?_;rw[qjS];unfold snkQ;rw[hk0,hdr];by_cases hkk:k=k0
      ·subst hkk;rw[if_pos Z];simp
      ·rw[if_neg hkk,show(((k0:Int)==(k:Int))&&!false)=false by simp;omega];simp
     have e6:vecI (fun k=>if dvN b.Aa k<j+1 then(dvN b.Aa k:Int) else 0) b.Ac.length=vecI (fun k=>if dvN b.Aa k<j then(dvN b.Aa k:Int) else 0) b.Ac.length:=by
      refine qfF fun k hk=>?_;have hne:dvN b.Aa k ≠ j:=fun e=>by
       have:=(qoE.1 (qj4 hd (k:=k) (by omega)).2).2;rw[e,hdr] at this;cases this
      by_cases h1:dvN b.Aa k<j
      ·rw[if_pos h1,if_pos (by omega)]
      ·rw[if_neg h1,if_neg (by omega)]
     rw[e5,e6] at hX;simp only[cond_false];have hsl:(sinksL b.Aa (k0:Int) j).length≤j:=by rw[qju];exact qgz
     rw[qb0 (by rw[jt];omega)];exact hX
    ·have e5:pre (fun i=>sinksL b.Aa (i:Int) (j+1)) b.Ac.length=pre (fun i=>sinksL b.Aa (i:Int) j) b.Ac.length:=by
      refine qe6 fun k hk=>?_;rw[qjS];unfold snkQ;rw[hdr];simp
     have hj0:=qxi hd (show k0<b.Aa.Ah.length by omega) hj hk0 hdr;have e6:vecI (fun k=>if dvN b.Aa k<j+1 then(dvN b.Aa k:Int) else 0) b.Ac.length=setS (vecI (fun k=>if dvN b.Aa k<j then(dvN b.Aa k:Int) else 0) b.Ac.length) (k0:Int) (j:Int):=by
      rw[qqO];refine qfF fun k hk=>?_;by_cases hkk:k=k0
      ·subst hkk;rw[if_pos Z,hj0,if_pos (by omega)]
      ·rw[if_neg hkk];have hne:dvN b.Aa k ≠ j:=fun e=>by
        have:=(qoE.1 (qj4 hd (k:=k) (by omega)).2).1;rw[e,hk0] at this;omega
       by_cases h1:dvN b.Aa k<j
       ·rw[if_pos h1,if_pos (by omega)]
       ·rw[if_neg h1,if_neg (by omega)]
     rw[e5,e6] at hX;exact hX)
  simpa [sinksL,pre,vecI] using this
 have hL5:∀ (i k:Nat) (s:Int) (t:List qt),i<b.Ac.length→0≤s→s≤78→t.length≤1000000→Ev (fun n=>qd2 (vecI (fun k=>(dvN b.Aa k:Int)) b.Ac.length) (i:Int) (k:Int) s n t 0) (t++wl1 (dvN b.Aa i) s k,2):=by
  intro i k s t hi hs0 hs1 ht;have hdv:=(qj4 hd (k:=i) (by omega)).1;have hy:idx (vecI (fun k=>(dvN b.Aa k:Int)) b.Ac.length) (i:Int)=V (dvN b.Aa i:Int):=qmW hi;refine Ev.succ ?_;simp only[qd2,hy,jd];refine Ev.tt Z ?_;rw[wO (2*(dvN b.Aa i:Int)),wO (2*s),wO (2*(dvN b.Aa i:Int)+0),wO (2*s+0),qb0 (by rw[jt];omega)];simp only[jd];refine Ev.succ ?_;simp only[qd2,hy,jd];refine Ev.tt Z ?_;rw[show W64 (0+1)=1 from rfl,wO (2*(dvN b.Aa i:Int)),wO (2*s),wO (2*(dvN b.Aa i:Int)+1),wO (2*s+1),qb0 (by rw[jh,jt,jt];omega)];simp only[jd];refine Ev.succ ?_;simp only[qd2];refine Ev.ff Z (Ev.now ?_);unfold wl1;rw[jp,Int.add_zero,Int.add_zero]
  rfl
 have hL4:∀ (i:Nat) (t:List qt),i<b.Ac.length→t.length≤900000→Ev (fun n=>qd6 (vecI (fun k=>(dvN b.Aa k:Int)) b.Ac.length) (i:Int) (skL b i) n t 0) (t++wlN b i (skL b i).length,((skL b i).length:Int)):=by
  intro i t hi ht;have hsm:=qhB h (i:=i);have:=loopF (Lf:=qd6 (vecI (fun k=>(dvN b.Aa k:Int)) b.Ac.length) (i:Int) (skL b i)) (S:=fun k=>t++wlN b i k) (len:=(skL b i).length) (fin:=(t++wlN b i (skL b i).length,((skL b i).length:Int))) (fun n=>by simp only[qd6,ql (je _),cond_false])
   (fun k hk X hX=>by
    obtain⟨y,hy,ey,_⟩:=qpt hk;have hwn:=qsW (b:=b) (i:=i) (j:=k);simp only[qd6,qj hk,cond_true,qaz hk,jd,wS k];refine Ev.bind (hL5 i k (at0 (skL b i) k) (t++wlN b i k) hi (by omega) (by omega) (by rw[jh];omega)) ?_;rw[jp,show wlN b i k++wl1 (dvN b.Aa i) (at0 (skL b i) k) k=wlN b i (k+1) from qko.symm];exact hX)
  simpa [wlN,fm] using this
 have e3:Ev (fun n=>qd7 b (pre (fun i=>skL b i) b.Ac.length) (vecI (fun k=>(dvN b.Aa k:Int)) b.Ac.length) n ([]:List (List Int)) ([]:List Int) (instLs b b.Aa.Ab.length) 0) (pre (exactL b) b.Ac.length,pre (load0 b) b.Ac.length,linksL b,(b.Ac.length:Int)):=by
  have hil:=qjs h (je _);have:=loopF (τ:=List (List Int)×List Int×List qt) (Lf:=fun n t j=>qd7 b (pre (fun i=>skL b i) b.Ac.length) (vecI (fun k=>(dvN b.Aa k:Int)) b.Ac.length) n t.1 t.2.1 t.2.2 j) (S:=fun j=>(pre (exactL b) j,pre (load0 b) j,instLs b b.Aa.Ab.length++wireLs b j)) (len:=b.Ac.length)
   (fin:=(pre (exactL b) b.Ac.length,pre (load0 b) b.Ac.length,linksL b,(b.Ac.length:Int))) (fun n=>by simp only[qd7,ql (je _),cond_false];rfl)
   (fun j hj X hX=>by
    have hw:=qbE h hj;have hlo:=hw.lo;have hll:=qml h hj;have hwl2:=qol h (j:=j);simp only[qd7,qj hj,cond_true,wS j];refine Ev.bind (qoP h hj) ?_;rw[show idx (loadsL b j) (0:Int)=V (load0 b j) from qz (j:=0) (by omega)];simp only[jd];rw[qoT (by omega)];simp only[jd];refine Ev.bind (qrh h hj) ?_;rw[qoT (by omega),qiO (f:=fun i=>skL b i) hj];simp only[jd];refine Ev.bind (hL4 j _ hj (by rw[jh];omega)) ?_;rw[jp,show wireLs b j++wlN b j (skL b j).length=wireLs b (j+1) from qko.symm];exact hX)
  simpa [wireLs,fm,pre] using this
 unfold qkk;refine Ev.bind (qnK hs) (Ev.bind e1 ?_);rw[hm1,hm2];simp only[jd];exact Ev.bind e2 (Ev.bind e3 .done)
end Go.Fw


namespace Go.Fw
open Go Go.Proofs Go.Proofs.Tryz
open Go.RowKit (Below)
set_option maxRecDepth 100000
set_option maxHeartbeats 1600000
variable {n:Nat}{w:World}{cs1 cs2 cs3 cs4 cs5 cs6 cs7 cs8 cs9:List Value}
def qh2 (n:Nat)(b:qd):Option Int:=
 (qbH n (⟨b.Aa.Ab,b.Aa.Ah,b.Aa.Af⟩:qe)).bind fun r1=>
 V (W64 (2*(r1.length:Int)))
theorem ql6 {b:qd}(ha1:Ro w b cs1){r:Int}(F:qh2 n b=V r):RetV prog 96 [GoT.v qd cs1] w r:=by
 obtain⟨_,_,_,_,_,_,_,_,_,_,rfl,_,s2,s3,s4,_⟩:=qM ha1;exact zV 8 func96 Z fun h=>zSR (qx h Z Z fun _ _ h=>X1 6 0 h Z (zcL h F (qbz (qao _ (h.oldS s2) (h.oldS s3) (h.oldS s4))) Z fun _ _ _ _ _ h F=>X0 4 Z (ri h F Z)))
def qlC (n:Nat)(s:qi):Option Bool:=
 (qaq n s.Ar (-1000000000) 1000000000).bind fun r1=>
 bif r1 then
  (qaq n s.Ay (-1000000000) 1000000000).bind fun r2=>
  bif r2 then V (decide (s.Ar≤s.Ay)) else
  V false
 else
  V false
theorem qrp {s:qi}(ha1:Ro w s cs1){r:Bool}(F:qlC n s=V r):RetV prog 153 [GoT.v qi cs1] w r:=by
 obtain rfl:=qD ha1;refine zV 18 func153 Z fun h=>zSR (qx h Z Z fun _ _ h=>X1 6 0 h Z (zcB h F qai Z fun _ _ h F=>zp1 Z (qm (t:=6) F Z ?_ ?_)))<;>intro F
 ·refine X1 5 0 h Z (zcB h F qai Z fun _ _ h F=>zp2 Z (qm (t:=11) F Z ?_ ?_))<;>intro F
  ·exact X2 13 0 0 h Z (rb h F Z)
  exact X0 8 Z (rb h F Z)
 exact X0 13 Z (rb h F Z)
def qll (n:Nat)(t:Int):Option Bool:=
 (qaY n t (-1000000000) 1000000000).bind fun r1=>
 V r1
theorem qng {t:Int}  {r:Bool}(F:qll n t=V r):RetV prog 226 [.int .i64 t] w r:=by
 exact zV 5 func226 Z fun h=>X0 7 Z (zcB h F qaN Z fun _ _ h F=>X0 2 Z (rb h F Z))
def qlu (n:Nat)(s:qi):Option Bool:=
 (qll n s.Ar).bind fun r1=>
 bif r1 then
  (qll n s.Ay).bind fun r2=>
  bif r2 then V (decide (s.Ar≤s.Ay)) else
  V false
 else
  V false
theorem qrl {s:qi}(ha1:Ro w s cs1){r:Bool}(F:qlu n s=V r):RetV prog 158 [GoT.v qi cs1] w r:=by
 obtain rfl:=qD ha1;refine zV 18 func158 Z fun h=>zSR (qx h Z Z fun _ _ h=>X1 6 0 h Z (zcB h F qng Z fun _ _ h F=>zp1 Z (qm (t:=6) F Z ?_ ?_)))<;>intro F
 ·refine X1 5 0 h Z (zcB h F qng Z fun _ _ h F=>zp2 Z (qm (t:=11) F Z ?_ ?_))<;>intro F
  ·exact X2 13 0 0 h Z (rb h F Z)
  exact X0 8 Z (rb h F Z)
 exact X0 13 Z (rb h F Z)
def qem (_:Nat)(list:(List Tplace)):Option Int:=
 V (list.length:Int)
theorem qlg {list:(List Tplace)}(ha1:Ro w list cs1){r:Int}(F:qem n list=V r):RetV prog 246 [GoT.v (List Tplace) cs1] w r:=by
 obtain⟨_,_,rfl,_⟩:=ha1;exact zV 5 func246 Z fun h=>X0 10 Z (ri h F Z)
def qe9 (n:Nat)(v:(Option Tview)):Option Int:=
 (v).bind fun y1=>
 (qem n y1.places).bind fun r1=>
 V (W64 (2*r1))
theorem qkX {v:(Option Tview)}(ha1:Ro w v cs1){r:Int}(F:qe9 n v=V r):RetV prog 183 [GoT.v (Option Tview) cs1] w r:=by
 obtain⟨_,rfl,s1⟩:=qct ha1;refine zV 9 func183 Z fun h=>X0 7 Z ?_;obtain⟨_,hy1,F⟩:=qc F;obtain⟨_,o_1,_,rfl,-,hr1,hc1⟩:=PtR.get s1 hy1;obtain⟨_,_,_,_,_,_,_,_,_,_,_,_,_,_,_,_,_,_,_,_,rfl,_,_,_,_,_,s7,_,_,_,_⟩:=qb3 hr1;exact zp2 Z (zc 5 (hc1.below h.below) Z (zcI h F (qlg ⟨_,_,rfl,(h.oldS s7)⟩) Z fun _ _ h F=>X0 3 Z (ri h F Z)))
def qgX (_:Nat)(list:(List qt)):Option Int:=
 V (list.length:Int)
theorem qlP {list:(List qt)}(ha1:Ro w list cs1){r:Int}(F:qgX n list=V r):RetV prog 178 [GoT.v (List qt) cs1] w r:=by
 obtain⟨_,_,rfl,_⟩:=ha1;exact zV 5 func178 Z fun h=>X0 10 Z (ri h F Z)
def qeR (n:Nat)(v:(Option Tview))(list:(List Int)):Option Bool:=
 (v).bind fun y1=>
 (qgX n y1.links).bind fun r1=>
 (qcq n list 0 (W64 (r1-1))).bind fun r2=>
 bif r2 then
  (qfm n list).bind fun r3=>
  V r3
 else
  V false
theorem qmQ {v:(Option Tview)}{list:(List Int)}(ha1:Ro w v cs1)(ha2:Ro w list cs2){r:Bool}(F:qeR n v list=V r):RetV prog 102 [GoT.v (Option Tview) cs1,GoT.v (List Int) cs2] w r:=by
 obtain⟨_,rfl,s1⟩:=qct ha1;obtain⟨_,_,rfl,s2⟩:=ha2;refine zV 17 func102 Z fun h=>X0 8 Z ?_;obtain⟨_,hy1,F⟩:=qc F;obtain⟨_,o_1,_,rfl,-,hr1,hc1⟩:=PtR.get s1 hy1;obtain⟨_,_,_,_,_,_,_,_,_,_,_,_,_,_,_,_,_,_,_,_,rfl,_,_,_,_,_,_,s9,_,_,_⟩:=qb3 hr1;refine zp2 Z (zc 6 (hc1.below h.below) Z (zcI h F (qlP ⟨_,_,rfl,(h.oldS s9)⟩) Z fun _ _ h F=>zp1 Z (zcB h F (qcW ⟨_,_,rfl,(h.oldS s2)⟩) Z fun _ _ h F=>zp1 Z (qm (t:=13) F Z ?_ ?_))))<;>intro F
 ·exact X0 3 Z (zcB h F (qj8 ⟨_,_,rfl,(h.oldS s2)⟩) Z fun _ _ h F=>X0 3 Z (rb h F Z))
 exact X0 5 Z (rb h F Z)
def qb6 (broken:(List Int)):Nat→(List Bool)→Int→Option ((List Bool)×Int)
 | 0,_,_=>U
 | n+1,x3,i2=>
  bif decide (i2<(broken.length:Int)) then
   (idx broken i2).bind fun y3=>
   (idx x3 y3).bind fun _=>
   qb6 broken n (setS x3 y3 false) (W64 (i2+1))
  else
   V (x3,i2)
def qb7 (x1:(List Bool)):Nat→(List Bool)→Int→Option ((List Bool)×Int)
 | 0,_,_=>U
 | n+1,x2,i1=>
  bif decide (i1<(x1.length:Int)) then
   (idx x2 i1).bind fun _=>
   qb7 x1 n (setS x2 i1 true) (W64 (i1+1))
  else
   V (x2,i1)
def qg4 (n:Nat)(v:(Option Tview))(broken:(List Int)):Option (Option Tgraph):=
 (v).bind fun y1=>
 (mkS (y1.links.length:Int) (false:Bool)).bind fun x1=>
 (qb7 x1 n x1 0).bind fun o=>match o with
 | (x2,_)=>
  (qb6 broken n x2 0).bind fun o=>match o with
  | (x3,_)=>
   V (V (⟨v,x3⟩:Tgraph))
theorem qmP {n:Nat}{w:World}{v:(Option Tview)}{broken:(List Int)}{cs1:List Value}(ha1:Ro w v cs1){cs2:List Value}(ha2:Ro w broken cs2){r:(Option Tgraph)}(F:qg4 n v broken=V r):RetZ prog 105 [GoT.v (Option Tview) cs1,GoT.v (List Int) cs2] w (fun us L=>∃(ubb1:Nat) (uS2:Nat→Prop) (up3:Option Addr) (uln4:Nat) (uk5:Nat) (ux6:List Bool),r=(V (⟨v,ux6⟩:Tgraph))∧us=[GoT.v (Option Tgraph) [.pointer (V ⟨ubb1,0,U⟩)]]∧L=[Ch.box ubb1 (cs1++[.slice up3 uln4 uk5]) 150,Ch.own uS2 (ux6:List Bool) [.slice up3 uln4 uk5]]):=by
 obtain⟨_,rfl,s1⟩:=qct ha1;obtain⟨p2,k1,rfl,s2⟩:=ha2;refine qpR func105 Z (m:=47) Z Z (fun h=>?_);refine X0 8 Z ?_;obtain⟨_,hy1,F⟩:=qc F;obtain⟨b1,o_1,_,rfl,-,hr1,hc1⟩:=PtR.get s1 hy1;obtain⟨_,_,_,_,_,_,_,_,_,_,_,_,_,_,_,_,_,_,_,_,rfl,_,_,_,_,_,_,_,_,_,_⟩:=qb3 hr1;refine zp2 Z (zc 6 (hc1.below h.below) Z (zp1 Z ?_));obtain⟨x1,hx1,F⟩:=qc F;obtain⟨g1,g2,hx1⟩:=qac hx1;refine qaw qa Bool h Z Z Z Z Z Z Z Z Z g1 g2 hx1 Z fun _ S1 p13 h=>r_v (qJ qa [0,1] [.tmp 9,.tmp 15] Z Z Z Z Z Z Z Z) Z (qx h Z Z fun _ bb1 h=>X1 12 0 h Z ?_);obtain⟨o1,F,hK1⟩:=qc F;refine qn (rL (fun m e w'=>∃(x2:(List Bool)) (i1:Int),qb7 x1 m x2 i1=V o1∧e=[(1,.slice p2 broken.length k1),(5,.pointer (V ⟨bb1,0,U⟩)),(22,.int .i64 (x1.length:Int)),(23,.int .i64 i1)]∧SH w w' [Ch.box bb1 [.pointer (V ⟨b1,o_1,U⟩),.slice p13 x1.length x1.length] 150,Ch.own S1 (x2:List Bool) [.slice p13 x1.length x1.length]]) n ⟨_,_,F,rfl,h⟩ Z ?_);rintro m1 _ _ ⟨x2,i1,F,rfl,h⟩;rcases m1 with _|m1
 ·cases F
 refine X0 5 Z (qh Z F ?_ ?_)<;>intro F
 ·refine X1 14 0 h Z ?_;obtain⟨_,hy2,F,he1,_,_,_,_,hp1,hq1,rfl,hc3⟩:=(h.sl 1 Z).1.ix F;exact zx hp1 hq1 ⟨he1.1,qC he1.2.1 (h.sl 1 Z).2⟩ Z (qay qa 1 0 true h Z hy2 hp1 hq1 Z hc3 Z Z Z Z Z Z Z fun _ h=>X0 6 Z (rK ⟨_,_,F,rfl,h⟩ Z))
 refine qq Z ?_;obtain rfl:=qb F;replace F:=hK1;refine X0 7 Z ?_;obtain⟨o2,F,hK2⟩:=qc F;refine qn (rL (fun m e w'=>∃(x3:(List Bool)) (i2:Int),qb6 broken m x3 i2=V o2∧e=[(5,.pointer (V ⟨bb1,0,U⟩)),(33,.slice p2 broken.length k1),(34,.int .i64 (broken.length:Int)),(35,.int .i64 i2)]∧SH w w' [Ch.box bb1 [.pointer (V ⟨b1,o_1,U⟩),.slice p13 x1.length x1.length] 150,Ch.own S1 (x3:List Bool) [.slice p13 x1.length x1.length]]) n ⟨_,_,F,rfl,h⟩ Z ?_);rintro m2 _ _ ⟨x3,i2,F,rfl,h⟩;rcases m2 with _|m2
 ·cases F
 refine X0 5 Z (qh Z F ?_ ?_)<;>intro F
 ·refine zKSBSR ?_;obtain⟨_,_,F,he2,_,_,_,_,hp2,hq2,rfl,hc5⟩:=s2.ix F;refine zxe hp2 hq2 he2 Z (zc 0 (hc5.below h.below) Z (X1 8 0 h Z ?_));obtain⟨_,hy4,F,he3,_,_,_,_,hp3,hq3,rfl,hc6⟩:=(h.sl 1 Z).1.ix F;exact zx hp3 hq3 ⟨he3.1,qC he3.2.1 (h.sl 1 Z).2⟩ Z (qay qa 1 0 false h Z hy4 hp3 hq3 Z hc6 Z Z Z Z Z Z Z fun _ h=>X0 6 Z (rK ⟨_,_,F,rfl,h⟩ Z))
 refine qq Z ?_;obtain rfl:=qb F;replace F:=hK2;refine X0 5 Z ?_;obtain rfl:=qb F;exact qxC qa [GoT.v (Option Tgraph) [.pointer (V ⟨bb1,0,U⟩)]] h ⟨rfl,trivial⟩ ⟨bb1,S1,p13,x1.length,x1.length,x3,rfl,rfl,rfl⟩
def qc5 (s:(List Int))(v:Int):Nat→Int→Option (Flow Int Int)
 | 0,_=>U
 | n+1,i1=>
  bif decide (i1<(s.length:Int)) then
   (idx s i1).bind fun y1=>
   bif (v==y1) then V (.ret i1) else
   qc5 s v n (W64 (i1+1))
  else
   V (.nxt i1)
def qhE (n:Nat)(s:(List Int))(v:Int):Option Int:=
 (qc5 s v n 0).bind fun o=>match o with
 | .ret r=>V r
 | .nxt _=>
  V (-1)
theorem qnV {s:(List Int)}{v:Int}(ha1:Ro w s cs1){r:Int}(F:qhE n s v=V r):RetV prog 186 [GoT.v (List Int) cs1,.int .i64 v] w r:=by
 obtain⟨p1,k1,rfl,s1⟩:=ha1;refine zV 19 func186 Z fun h=>X0 11 Z ?_;obtain⟨o1,F,hK1⟩:=qc F;refine qn (rL (fun m e w'=>∃(i1:Int),qc5 s v m i1=V o1∧e=[(0,.slice p1 s.length k1),(1,.int .i64 v),(7,.int .i64 (s.length:Int)),(8,.int .i64 i1)]∧SH w w' []) n ⟨_,F,rfl,h⟩ Z ?_);rintro m1 _ _ ⟨i1,F,rfl,h⟩;rcases m1 with _|m1
 ·cases F
 refine X0 5 Z (qh Z F ?_ ?_)<;>intro F
 ·refine X0 13 Z ?_;obtain⟨_,_,F,he1,_,_,_,_,hp1,hq1,rfl,hc2⟩:=s1.ix F;refine zxe hp1 hq1 he1 Z (zc 0 (hc2.below h.below) Z (X0 2 Z (qh Z F ?_ ?_)))<;>intro F
  ·refine X0 5 Z ?_;obtain rfl:=qb F;replace F:=hK1;exact ri h F Z
  exact X0 6 Z (rK ⟨_,F,rfl,h⟩ Z)
 refine qq Z ?_;obtain rfl:=qb F;replace F:=hK1;exact X0 4 Z (ri h F Z)
def qi7 (_:Nat)(l:qt)(v0:Int):Option Bool:=
 V (l.Bc==v0)
theorem qm6 {l:qt}{v0:Int}(ha1:Ro w l cs1){p1:Option Addr}(ha2:Ro w (V v0) [.pointer p1]){r:Bool}(F:qi7 n l v0=V r):RetV prog 247 [GoT.v qt cs1,.pointer p1] w r:=by
 obtain rfl:=qav ha1;obtain⟨_,o_1,_,rfl,-,hr1,hc1⟩:=PtR.get ha2 Z;obtain rfl:=hr1;exact zV 8 func247 Z fun h=>zSR (qx h Z Z fun _ _ h=>X1 6 0 h Z (zc 0 (hc1.below h.below) Z (X0 3 Z (rb h F Z))))
def qN (is_0:Int)(y1:Tgraph)(y2:Tview):Nat→(List Int)→Int→Option ((List Int)×Int)
 | 0,_,_=>U
 | n+1,x1,i1=>
  bif decide (i1<(y2.links.length:Int)) then
   (idx y2.links i1).bind fun y3=>
   (idx y1.live i1).bind fun y4=>
   bif y4 then
    (qi7 n y3 is_0).bind fun r1=>
    bif r1 then
     (appS x1 ([i1]:List Int)).bind fun x2=>
     qN is_0 y1 y2 n x2 (W64 (i1+1))
    else
     qN is_0 y1 y2 n x1 (W64 (i1+1))
   else
    qN is_0 y1 y2 n x1 (W64 (i1+1))
  else
   V (x1,i1)
def qcr (n:Nat)(g:(Option Tgraph))(is_0:Int):Option (List Int):=
 (g).bind fun y1=>
 (y1.view).bind fun y2=>
 (qN is_0 y1 y2 n ([]:List Int) 0).bind fun o=>match o with
 | (x1,_)=>
  V x1
theorem qhn {g:(Option Tgraph)}{is_0:Int}(ha1:Ro w g cs1){p2:Option Addr}(ha2:Ro w (V is_0) [.pointer p2]){r:(List Int)}(F:qcr n g is_0=V r):RetV prog 184 [GoT.v (Option Tgraph) cs1,.func (.func 247) #[] #[.pointer p2]] w r:=by
 obtain⟨_,rfl,s1⟩:=qct ha1;obtain⟨b1,o_1,_,rfl,-,hr1,_⟩:=PtR.get ha2 Z;obtain rfl:=hr1;refine zV 39 func184 Z fun h=>X0 12 Z ?_;obtain⟨y1,hy1,F⟩:=qc F;obtain⟨b2,o_2,_,rfl,-,hr2,hc2⟩:=PtR.get s1 hy1;obtain⟨_,_,_,rfl,s2,s3⟩:=qhg hr2;refine zp2 Z (zc 0 (hc2.below h.below) Z ?_);obtain⟨y2,hy2,F⟩:=qc F;obtain⟨_,o_3,_,rfl,-,hr3,hc3⟩:=PtR.get s2 hy2;obtain⟨_,_,_,_,_,_,_,_,_,_,_,_,p11,k8,_,_,_,_,_,_,rfl,_,_,_,_,_,_,s10,_,_,_⟩:=qb3 hr3;refine zp2 Z (zc 6 (hc3.below h.below) Z (X0 3 Z ?_));replace h:=h.nil (α:=Int);obtain⟨o1,F,hK1⟩:=qc F;refine qn (rL (fun m e w'=>∃(S1:Nat→Prop) (p15:Option Addr) (ln1:Nat) (k12:Nat) (x1:(List Int)) (i1:Int),qN is_0 y1 y2 m x1 i1=V o1∧e=[(0,.pointer (V ⟨b2,o_2,U⟩)),(1,.func (.func 247) #[] #[.pointer (V ⟨b1,o_1,U⟩)]),(5,.slice p15 ln1 k12),(14,.slice p11 y2.links.length k8),(15,.int .i64 (y2.links.length:Int)),(16,.int .i64 i1)]∧SH w w' [Ch.own S1 (x1:List Int) [.slice p15 ln1 k12]]) n ⟨_,_,_,_,_,_,F,rfl,h⟩ Z ?_);rintro m1 _ _ ⟨S1,p15,ln1,k12,x1,i1,F,rfl,h⟩;obtain rfl:=(h.sl 0 Z).2;rcases m1 with _|m1
 ·cases F
 refine X0 5 Z (qh Z F ?_ ?_)<;>intro F
 ·refine X0 6 Z ?_;obtain⟨y3,_,F,he1,_,_,_,_,hp1,hq1,hr4,hc5⟩:=s10.ix F;obtain rfl:=qav hr4;refine zxe hp1 hq1 he1 Z (zc 0 (hc5.below h.below) Z (qp qa h Z Z Z fun _ _ h=>zp1 Z (zs 0 h Z fun _ h=>X0 6 Z (zc 1 (hc2.below h.below) Z (zp1 Z ?_)))));obtain⟨_,_,F,he2,_,_,_,_,hp2,hq2,rfl,hc6⟩:=s3.ix F;refine zxe hp2 hq2 he2 Z (zc 0 (hc6.below h.below) Z (zp1 Z (qm (t:=28) F Z ?_ ?_)))<;>intro F
  ·refine X1 5 0 h Z (zcB h F (qm6 (qcf y3) (h.old ha2)) Z fun _ _ h F=>X0 2 Z (qh Z F ?_ ?_))<;>intro F
   ·refine X0 3 Z (qK qa [.tmp 34] _ ([i1]:List Int) h Z Z Z Z Z Z Z Z Z ⟨rfl,trivial⟩ Z fun _ _ _ h=>?_);obtain⟨_,hx1,F⟩:=qc F;obtain⟨g1,hx1⟩:=qan hx1;refine qbW qa 2 h Z (h.sl 0 Z).1 (h.sl 0 Z).2 Z Z Z Z Z Z Z Z Z g1 hx1 Z fun _ _ _ _ h=>X0 7 Z ?_;replace h:=h.pick [2] Z;exact rK ⟨_,_,_,_,_,_,F,rfl,h⟩ Z
   refine X0 6 Z ?_;replace h:=h.pick [1] Z;exact rK ⟨_,_,_,_,_,_,F,rfl,h⟩ Z
  refine X0 5 Z (qdi Z Z (X0 6 Z ?_));replace h:=h.pick [1] Z;exact rK ⟨_,_,_,_,_,_,F,rfl,h⟩ Z
 refine qq Z ?_;obtain rfl:=qb F;replace F:=hK1;refine X0 5 Z ?_;obtain rfl:=qb F;exact rO 0 h Z ⟨rfl,trivial⟩
def qij (n:Nat)(g:(Option Tgraph))(node:Int):Option (List Int):=
 (qcr n g node).bind fun r1=>
 V r1
theorem qom {g:(Option Tgraph)}{node:Int}(ha1:Ro w g cs1){r:(List Int)}(F:qij n g node=V r):RetV prog 187 [GoT.v (Option Tgraph) cs1,.int .i64 node] w r:=by
 obtain⟨_,rfl,s1⟩:=qct ha1;refine zV 8 func187 Z fun h=>zSR (qx h Z Z fun _ _ h=>X0 6 Z (zcL h F (qhn (h.old s1) (qeb (x:=node) 0 h Z Z)) Z fun _ _ _ _ _ h F=>X0 2 Z ?_));obtain rfl:=qb F;exact rO 0 h Z ⟨rfl,trivial⟩
def qiu (_:Nat)(_:qt):Option Bool:=
 V true
theorem qmU {a_0:qt}(ha1:Ro w a_0 cs1){r:Bool}(F:qiu n a_0=V r):RetV prog 185 [GoT.v qt cs1] w r:=by
 obtain rfl:=qav ha1;exact zV 3 func185 Z fun h=>zSR (qx h Z Z fun _ _ h=>X0 6 Z (rb h F Z))
def qL (y1:Tgraph)(y2:Tview):Nat→(List Int)→Int→Option ((List Int)×Int)
 | 0,_,_=>U
 | n+1,x1,i1=>
  bif decide (i1<(y2.links.length:Int)) then
   (idx y2.links i1).bind fun y3=>
   (idx y1.live i1).bind fun y4=>
   bif y4 then
    (qiu n y3).bind fun r1=>
    bif r1 then
     (appS x1 ([i1]:List Int)).bind fun x2=>
     qL y1 y2 n x2 (W64 (i1+1))
    else
     qL y1 y2 n x1 (W64 (i1+1))
   else
    qL y1 y2 n x1 (W64 (i1+1))
  else
   V (x1,i1)
def qbm (n:Nat)(g:(Option Tgraph)):Option (List Int):=
 (g).bind fun y1=>
 (y1.view).bind fun y2=>
 (qL y1 y2 n ([]:List Int) 0).bind fun o=>match o with
 | (x1,_)=>
  V x1
theorem qha {g:(Option Tgraph)}(ha1:Ro w g cs1){r:(List Int)}(F:qbm n g=V r):RetV prog 184 [GoT.v (Option Tgraph) cs1,.func (.func 185) #[] #[]] w r:=by
 obtain⟨_,rfl,s1⟩:=qct ha1;refine zV 39 func184 Z fun h=>X0 12 Z ?_;obtain⟨y1,hy1,F⟩:=qc F;obtain⟨b1,o_1,_,rfl,-,hr1,hc1⟩:=PtR.get s1 hy1;obtain⟨_,_,_,rfl,s2,s3⟩:=qhg hr1;refine zp2 Z (zc 0 (hc1.below h.below) Z ?_);obtain⟨y2,hy2,F⟩:=qc F;obtain⟨_,o_2,_,rfl,-,hr2,hc2⟩:=PtR.get s2 hy2;obtain⟨_,_,_,_,_,_,_,_,_,_,_,_,p10,k8,_,_,_,_,_,_,rfl,_,_,_,_,_,_,s10,_,_,_⟩:=qb3 hr2;refine zp2 Z (zc 6 (hc2.below h.below) Z (X0 3 Z ?_));replace h:=h.nil (α:=Int);obtain⟨o1,F,hK1⟩:=qc F;refine qn (rL (fun m e w'=>∃(S1:Nat→Prop) (p14:Option Addr) (ln1:Nat) (k12:Nat) (x1:(List Int)) (i1:Int),qL y1 y2 m x1 i1=V o1∧e=[(0,.pointer (V ⟨b1,o_1,U⟩)),(1,.func (.func 185) #[] #[]),(5,.slice p14 ln1 k12),(14,.slice p10 y2.links.length k8),(15,.int .i64 (y2.links.length:Int)),(16,.int .i64 i1)]∧SH w w' [Ch.own S1 (x1:List Int) [.slice p14 ln1 k12]]) n ⟨_,_,_,_,_,_,F,rfl,h⟩ Z ?_);rintro m1 _ _ ⟨S1,p14,ln1,k12,x1,i1,F,rfl,h⟩;obtain rfl:=(h.sl 0 Z).2;rcases m1 with _|m1
 ·cases F
 refine X0 5 Z (qh Z F ?_ ?_)<;>intro F
 ·refine X0 6 Z ?_;obtain⟨y3,_,F,he1,_,_,_,_,hp1,hq1,hr3,hc4⟩:=s10.ix F;obtain rfl:=qav hr3;refine zxe hp1 hq1 he1 Z (zc 0 (hc4.below h.below) Z (qp qa h Z Z Z fun _ _ h=>zp1 Z (zs 0 h Z fun _ h=>X0 6 Z (zc 1 (hc1.below h.below) Z (zp1 Z ?_)))));obtain⟨_,_,F,he2,_,_,_,_,hp2,hq2,rfl,hc5⟩:=s3.ix F;refine zxe hp2 hq2 he2 Z (zc 0 (hc5.below h.below) Z (zp1 Z (qm (t:=28) F Z ?_ ?_)))<;>intro F
  ·refine X1 5 0 h Z (zcB h F (qmU (qcf y3)) Z fun _ _ h F=>X0 2 Z (qh Z F ?_ ?_))<;>intro F
   ·refine X0 3 Z (qK qa [.tmp 34] _ ([i1]:List Int) h Z Z Z Z Z Z Z Z Z ⟨rfl,trivial⟩ Z fun _ _ _ h=>?_);obtain⟨_,hx1,F⟩:=qc F;obtain⟨g1,hx1⟩:=qan hx1;refine qbW qa 2 h Z (h.sl 0 Z).1 (h.sl 0 Z).2 Z Z Z Z Z Z Z Z Z g1 hx1 Z fun _ _ _ _ h=>X0 7 Z ?_;replace h:=h.pick [2] Z;exact rK ⟨_,_,_,_,_,_,F,rfl,h⟩ Z
   refine X0 6 Z ?_;replace h:=h.pick [1] Z;exact rK ⟨_,_,_,_,_,_,F,rfl,h⟩ Z
  refine X0 5 Z (qdi Z Z (X0 6 Z ?_));replace h:=h.pick [1] Z;exact rK ⟨_,_,_,_,_,_,F,rfl,h⟩ Z
 refine qq Z ?_;obtain rfl:=qb F;replace F:=hK1;refine X0 5 Z ?_;obtain rfl:=qb F;exact rO 0 h Z ⟨rfl,trivial⟩
def qcj (y1:Tgraph)(r4:(List Int)):Nat→(List Int)→Int→Option ((List Int)×Int)
 | 0,_,_=>U
 | n+1,x6,i3=>
  bif decide (i3<(r4.length:Int)) then
   (idx r4 i3).bind fun y8=>
   (y1.view).bind fun y9=>
   (idx y9.links y8).bind fun y10=>
   (idx x6 y10.To).bind fun y11=>
   (idx x6 y10.To).bind fun _=>
   qcj y1 r4 n (setS x6 y10.To (W64 (y11-1))) (W64 (i3+1))
  else
   V (x6,i3)
def qcl (a_0:(Option Tgraph))(y1:Tgraph)(x1:(List Int)):Nat→(List Int)→(List Int)→Int→Option (Flow ((List Int)×Bool) ((List Int)×(List Int)×Int))
 | 0,_,_,_=>U
 | n+1,x3,x4,i2=>
  bif decide (i2<(x1.length:Int)) then
   (qhE n x4 0).bind fun r3=>
   bif decide (r3<0) then V (.ret ([],false)) else
   (idx x4 r3).bind fun _=>
   (appS x3 ([r3]:List Int)).bind fun x5=>
   (qij n a_0 r3).bind fun r4=>
   (qcj y1 r4 n (setS x4 r3 (-1)) 0).bind fun o=>match o with
   | (x6,_)=>
    qcl a_0 y1 x1 n x5 x6 (W64 (i2+1))
  else
   V (.nxt (x3,x4,i2))
def qck (y1:Tgraph)(r2:(List Int)):Nat→(List Int)→Int→Option ((List Int)×Int)
 | 0,_,_=>U
 | n+1,x2,i1=>
  bif decide (i1<(r2.length:Int)) then
   (idx r2 i1).bind fun y2=>
   (y1.view).bind fun y3=>
   (idx y3.links y2).bind fun y4=>
   (idx x2 y4.To).bind fun y5=>
   (idx x2 y4.To).bind fun _=>
   qck y1 r2 n (setS x2 y4.To (W64 (y5+1))) (W64 (i1+1))
  else
   V (x2,i1)
def qhH (n:Nat)(a_0:(Option Tgraph)):Option ((List Int)×Bool):=
 (a_0).bind fun y1=>
 (qe9 n y1.view).bind fun r1=>
 (mkS r1 (0:Int)).bind fun x1=>
 (qbm n a_0).bind fun r2=>
 (qck y1 r2 n x1 0).bind fun o=>match o with
 | (x2,_)=>
  (qcl a_0 y1 x1 n ([]:List Int) x2 0).bind fun o=>match o with
  | .ret r=>V r
  | .nxt (x3,_,_)=>
   V (x3,true)
theorem qnW {a_0:(Option Tgraph)}(ha1:Ro w a_0 cs1){r:((List Int)×Bool)}(F:qhH n a_0=V r):RetV prog 107 [GoT.v (Option Tgraph) cs1] w r:=by
 obtain⟨_,rfl,s1⟩:=qct ha1;refine zV 83 func107 Z fun h=>X0 8 Z ?_;obtain⟨y1,hy1,F⟩:=qc F;obtain⟨b1,o_1,_,rfl,-,hr1,hc1⟩:=PtR.get s1 hy1;obtain⟨_,_,_,rfl,s2,_⟩:=qhg hr1;refine zp2 Z (zc 0 (hc1.below h.below) Z (zcI h F (qkX (h.old s2)) Z fun _ _ h F=>?_));obtain⟨x1,hx1,F⟩:=qc F;obtain⟨g1,g2,hx1⟩:=qac hx1;refine qaw qa Int h Z Z Z Z Z Z Z Z Z g1 g2 hx1 Z fun _ S1 p4 h=>X0 6 Z (zcL h F (qha (h.old s1)) Z fun r2 _ S2 p5 k2 h F=>X0 3 Z ?_);obtain⟨o1,F,hK1⟩:=qc F;refine qn (rL (fun m e w'=>∃(x2:(List Int)) (i1:Int),qck y1 r2 m x2 i1=V o1∧e=[(0,.pointer (V ⟨b1,o_1,U⟩)),(4,.slice p4 x1.length x1.length),(18,.slice p5 r2.length k2),(19,.int .i64 (r2.length:Int)),(20,.int .i64 i1)]∧SH w w' [Ch.own S2 (r2:List Int) [.slice p5 r2.length k2],Ch.own S1 (x2:List Int) [.slice p4 x1.length x1.length]]) n ⟨_,_,F,rfl,h⟩ Z ?_);rintro m1 _ _ ⟨x2,i1,F,rfl,h⟩;rcases m1 with _|m1
 ·cases F
 refine X0 5 Z (qh Z F ?_ ?_)<;>intro F
 ·refine zKSBSR ?_;obtain⟨_,_,F,he1,_,_,_,_,hp1,hq1,rfl,hc3⟩:=(h.sl 0 Z).1.ix F;refine zx hp1 hq1 ⟨he1.1,qC he1.2.1 (h.sl 0 Z).2⟩ Z (zc 0 hc3 Z (X0 7 Z (zc 0 (hc1.below h.below) Z ?_)));obtain⟨_,hy3,F⟩:=qc F;obtain⟨_,o_3,_,rfl,-,hr5,hc4⟩:=PtR.get s2 hy3;obtain⟨_,_,_,_,_,_,_,_,_,_,_,_,_,_,_,_,_,_,_,_,rfl,_,_,_,_,_,_,s10,_,_,_⟩:=qb3 hr5;refine zp2 Z (zc 6 (hc4.below h.below) Z (zp1 Z ?_));obtain⟨_,_,F,he2,_,_,_,_,hp2,hq2,hr6,hc5⟩:=s10.ix F;obtain rfl:=qav hr6;refine zxe hp2 hq2 he2 Z (zp1 Z (zc 1 (hc5.below h.below) Z ?_));obtain⟨y5,_,F,he3,_,_,_,_,hp3,hq3,rfl,hc6⟩:=(h.sl 1 Z).1.ix F;refine zx hp3 hq3 ⟨he3.1,qC he3.2.1 (h.sl 1 Z).2⟩ Z (zc 0 hc6 Z (zp1 Z ?_));obtain⟨_,hy6,F,he4,_,_,_,_,hp4,hq4,rfl,hc7⟩:=(h.sl 1 Z).1.ix F;exact zx hp4 hq4 ⟨he4.1,qC he4.2.1 (h.sl 1 Z).2⟩ Z (qay qa 1 0 (W64 (y5+1)) h Z hy6 hp4 hq4 Z hc7 Z Z Z Z Z Z Z fun _ h=>X0 6 Z (rK ⟨_,_,F,rfl,h⟩ Z))
 refine qq Z ?_;obtain rfl:=qb F;replace F:=hK1;refine X0 11 Z ?_;replace h:=h.nil (α:=Int);obtain⟨o2,F,hK2⟩:=qc F;refine qn ?_;replace h:=h.pick [0,2] Z;refine rL (fun m e w'=>∃(S3:Nat→Prop) (p16:Option Addr) (ln1:Nat) (k13:Nat) (x3:(List Int)) (x4:(List Int)) (i2:Int),qcl a_0 y1 x1 m x3 x4 i2=V o2∧e=[(0,.pointer (V ⟨b1,o_1,U⟩)),(4,.slice p4 x1.length x1.length),(7,.slice p16 ln1 k13),(42,.int .i64 (x1.length:Int)),(43,.int .i64 i2)]∧SH w w' [Ch.own S3 (x3:List Int) [.slice p16 ln1 k13],Ch.own S1 (x4:List Int) [.slice p4 x1.length x1.length]]) n ⟨_,_,_,_,_,_,_,F,rfl,h⟩ Z ?_;rintro m2 _ _ ⟨S3,p16,ln1,k13,x3,x4,i2,F,rfl,h⟩;obtain rfl:=(h.sl 0 Z).2;rcases m2 with _|m2
 ·cases F
 refine X0 5 Z (qh Z F ?_ ?_)<;>intro F
 ·refine X0 6 Z (zcI h F (qnV (h.own 1 Z)) Z fun r3 _ h F=>X0 8 Z (qh Z F ?_ ?_))<;>intro F
  ·refine X0 5 Z ?_;obtain rfl:=qb F;replace F:=hK2;obtain rfl:=qb F;exact qae qa (ρ:=((List Int)×Bool)) [GoT.v (List Int) [.slice U 0 0],GoT.v Bool [.bool false]] h ⟨rfl,rfl,trivial⟩ (PV.done h (qap h qb8 (qaj (qA (S:=fun _=>False) Z)) (by rfl)))
  refine X0 5 Z ?_;obtain⟨_,hy7,F,he5,_,_,_,_,hp5,hq5,rfl,hc10⟩:=(h.sl 1 Z).1.ix F;refine zx hp5 hq5 ⟨he5.1,qC he5.2.1 (h.sl 1 Z).2⟩ Z (qay qa 1 0 (-1) h Z hy7 hp5 hq5 Z hc10 Z Z Z Z Z Z Z fun _ h=>X0 5 Z (qK qa [.tmp 53] _ ([r3]:List Int) h Z Z Z Z Z Z Z Z Z ⟨rfl,trivial⟩ Z fun _ _ _ h=>?_));obtain⟨x5,hx2,F⟩:=qc F;obtain⟨g3,hx2⟩:=qan hx2;refine qbW qa 1 h Z (h.sl 0 Z).1 (h.sl 0 Z).2 Z Z Z Z Z Z Z Z Z g3 hx2 Z fun _ p18 k14 S5 h=>X0 6 Z (zcL h F (qom (h.old s1)) Z fun r4 _ S6 p19 k15 h F=>X0 3 Z ?_);obtain⟨o3,F,hK3⟩:=qc F;refine qn ?_;replace h:=h.pick [0,2,3] Z;refine rL (fun m e w'=>∃(x6:(List Int)) (i3:Int),qcj y1 r4 m x6 i3=V o3∧e=[(0,.pointer (V ⟨b1,o_1,U⟩)),(4,.slice p4 x1.length x1.length),(7,.slice p18 x5.length k14),(42,.int .i64 (x1.length:Int)),(43,.int .i64 i2),(58,.slice p19 r4.length k15),(59,.int .i64 (r4.length:Int)),(60,.int .i64 i3)]∧SH w w' [Ch.own S6 (r4:List Int) [.slice p19 r4.length k15],Ch.own S5 (x5:List Int) [.slice p18 x5.length k14],Ch.own S1 (x6:List Int) [.slice p4 x1.length x1.length]]) m2 ⟨_,_,F,rfl,h⟩ Z ?_;rintro m3 _ _ ⟨x6,i3,F,rfl,h⟩;rcases m3 with _|m3
  ·cases F
  refine X0 5 Z (qh Z F ?_ ?_)<;>intro F
  ·refine zKSBSR ?_;obtain⟨_,_,F,he6,_,_,_,_,hp6,hq6,rfl,hc12⟩:=(h.sl 0 Z).1.ix F;refine zx hp6 hq6 ⟨he6.1,qC he6.2.1 (h.sl 0 Z).2⟩ Z (zc 0 hc12 Z (X0 7 Z (zc 0 (hc1.below h.below) Z ?_)));obtain⟨_,hy9,F⟩:=qc F;obtain⟨_,o_9,_,rfl,-,hr13,hc13⟩:=PtR.get s2 hy9;obtain⟨_,_,_,_,_,_,_,_,_,_,_,_,_,_,_,_,_,_,_,_,rfl,_,_,_,_,_,_,s20,_,_,_⟩:=qb3 hr13;refine zp2 Z (zc 6 (hc13.below h.below) Z (zp1 Z ?_));obtain⟨_,_,F,he7,_,_,_,_,hp7,hq7,hr14,hc14⟩:=s20.ix F;obtain rfl:=qav hr14;refine zxe hp7 hq7 he7 Z (zp1 Z (zc 1 (hc14.below h.below) Z ?_));obtain⟨y11,_,F,he8,_,_,_,_,hp8,hq8,rfl,hc15⟩:=(h.sl 2 Z).1.ix F;refine zx hp8 hq8 ⟨he8.1,qC he8.2.1 (h.sl 2 Z).2⟩ Z (zc 0 hc15 Z (zp1 Z ?_));obtain⟨_,hy12,F,he9,_,_,_,_,hp9,hq9,rfl,hc16⟩:=(h.sl 2 Z).1.ix F;exact zx hp9 hq9 ⟨he9.1,qC he9.2.1 (h.sl 2 Z).2⟩ Z (qay qa 2 0 (W64 (y11-1)) h Z hy12 hp9 hq9 Z hc16 Z Z Z Z Z Z Z fun _ h=>X0 6 Z (rK ⟨_,_,F,rfl,h⟩ Z))
  refine qq Z ?_;obtain rfl:=qb F;replace F:=hK3;refine X0 5 Z ?_;replace h:=h.pick [1,2] Z;exact rK ⟨_,_,_,_,_,_,_,F,rfl,h⟩ Z
 refine qq Z ?_;obtain rfl:=qb F;replace F:=hK2;refine X0 6 Z ?_;obtain rfl:=qb F;exact qae qa (ρ:=((List Int)×Bool)) [GoT.v (List Int) [.slice p16 x3.length k13],GoT.v Bool [.bool true]] h ⟨rfl,rfl,trivial⟩ (PV.done h (qap h (qaA 0 h Z) (qaj (qA (S:=fun _=>False) Z)) (by rfl)))
def qce (a_0:Int)(x2:(List Bool))(x5:(List Bool)):Nat→Int→Option Int
 | 0,_=>U
 | n+1,i4=>
  bif decide (i4<a_0) then
   (idx x2 i4).bind fun y7=>
   bif y7 then qce a_0 x2 x5 n (W64 (i4+1)) else
   (idx x5 i4).bind fun y8=>
   bif y8 then qce a_0 x2 x5 n (W64 (i4+1)) else
   V i4
  else
   V i4
def qcF (a_1:(List qt))(a_2:(List Bool))(x2:(List Bool)):Nat→(List Bool)→Int→Option ((List Bool)×Int)
 | 0,_,_=>U
 | n+1,x5,i1=>
  bif decide (i1<(a_1.length:Int)) then
   (
    (idx a_2 i1).bind fun y3=>
    bif y3 then
     (idx a_1 i1).bind fun y4=>
     (idx x2 y4.Bc).bind fun y5=>
     V (!y5)
    else
     V false).bind fun b1=>
   bif b1 then
    (idx a_1 i1).bind fun y1=>
    (idx x5 y1.To).bind fun _=>
    qcF a_1 a_2 x2 n (setS x5 y1.To true) (W64 (i1+1))
   else
    qcF a_1 a_2 x2 n x5 (W64 (i1+1))
  else
   V (x5,i1)
def qeJ (a_0:Int)(a_1:(List qt))(a_2:(List Bool)):Nat→(List Bool)→(List Int)→Option (Flow ((List Int)×Bool) ((List Bool)×(List Int)))
 | 0,_,_=>U
 | n+1,x2,x3=>
  bif decide ((x3.length:Int)<a_0) then
   (mkS a_0 (false:Bool)).bind fun x4=>
   (qcF a_1 a_2 x2 n x4 0).bind fun o=>match o with
   | (x5,_)=>
    (qce a_0 x2 x5 n 0).bind fun i3=>
    bif (i3==a_0) then V (.ret (([]:List Int),false)) else
    (idx x2 i3).bind fun _=>
    (appS x3 ([i3]:List Int)).bind fun x6=>
    qeJ a_0 a_1 a_2 n (setS x2 i3 true) x6
  else
   V (.nxt (x2,x3))
def qjH (n:Nat)(a_0:Int)(a_1:(List qt))(a_2:(List Bool)):Option ((List Int)×Bool):=
 (mkS a_0 (false:Bool)).bind fun x1=>
 (qeJ a_0 a_1 a_2 n x1 ([]:List Int)).bind fun o=>match o with
 | .ret r=>V r
 | .nxt (_,x3)=>
  V (x3,true)
theorem qpm {a_0:Int}{a_1:(List qt)}{a_2:(List Bool)}(ha1:Ro w a_1 cs1)(ha2:Ro w a_2 cs2){r:((List Int)×Bool)}(F:qjH n a_0 a_1 a_2=V r):RetV prog 95 [.int .i64 a_0,GoT.v (List qt) cs1,GoT.v (List Bool) cs2] w r:=by
 obtain⟨p1,k1,rfl,s1⟩:=ha1;obtain⟨p2,k2,rfl,s2⟩:=ha2;refine zV 79 func95 Z fun h=>X0 7 Z (qK qa [] _ ([]:List Int) h Z Z Z Z Z Z Z Z Z trivial Z fun _ _ _ h=>X0 5 Z ?_);obtain⟨x1,hx1,F⟩:=qc F;obtain⟨g1,g2,hx1⟩:=qac hx1;refine qaw qa Bool h Z Z Z Z Z Z Z Z Z g1 g2 hx1 Z fun _ S2 p4 h=>X0 3 Z ?_;obtain⟨o1,F,hK1⟩:=qc F;refine qn (rL (fun m e w'=>∃(x2:(List Bool)) (S3:Nat→Prop) (p5:Option Addr) (ln1:Nat) (k3:Nat) (x3:(List Int)),qeJ a_0 a_1 a_2 m x2 x3=V o1∧e=[(0,.int .i64 a_0),(1,.slice p1 a_1.length k1),(2,.slice p2 a_2.length k2),(8,.slice p5 ln1 k3),(9,.slice p4 x1.length x1.length)]∧SH w w' [Ch.own S2 (x2:List Bool) [.slice p4 x1.length x1.length],Ch.own S3 (x3:List Int) [.slice p5 ln1 k3]]) n ⟨_,_,_,_,_,_,F,rfl,h⟩ Z ?_);rintro m1 _ _ ⟨x2,S3,p5,ln1,k3,x3,F,rfl,h⟩;obtain rfl:=(h.sl 1 Z).2;rcases m1 with _|m1
 ·cases F
 refine X0 8 Z (qh Z F ?_ ?_)<;>intro F
 ·refine X0 5 Z ?_;obtain⟨x4,hx2,F⟩:=qc F;obtain⟨g3,g4,hx2⟩:=qac hx2;refine qaw qa Bool h Z Z Z Z Z Z Z Z Z g3 g4 hx2 Z fun _ S4 p6 h=>X0 7 Z ?_;obtain⟨o2,F,hK2⟩:=qc F;refine qn (rL (fun m e w'=>∃(x5:(List Bool)) (i1:Int),qcF a_1 a_2 x2 m x5 i1=V o2∧e=[(0,.int .i64 a_0),(1,.slice p1 a_1.length k1),(2,.slice p2 a_2.length k2),(8,.slice p5 x3.length k3),(9,.slice p4 x1.length x1.length),(10,.slice p6 x4.length x4.length),(11,.int .i64 i1)]∧SH w w' [Ch.own S4 (x5:List Bool) [.slice p6 x4.length x4.length],Ch.own S2 (x2:List Bool) [.slice p4 x1.length x1.length],Ch.own S3 (x3:List Int) [.slice p5 x3.length k3]]) m1 ⟨_,_,F,rfl,h⟩ Z ?_);rintro m2 _ _ ⟨x5,i1,F,rfl,h⟩;rcases m2 with _|m2
  ·cases F
  refine X0 8 Z (qh Z F ?_ ?_)<;>intro F
  ·refine X0 4 Z ?_;obtain⟨KF1,hKF1,_,F,hK3⟩:=bindE F;refine qbe (fun e w'=>∃(b1:Bool),KF1 b1=V o2∧e=[(0,.int .i64 a_0),(1,.slice p1 a_1.length k1),(2,.slice p2 a_2.length k2),(8,.slice p5 x3.length k3),(9,.slice p4 x1.length x1.length),(10,.slice p6 x4.length x4.length),(11,.int .i64 i1),(42,.bool b1)]∧SH w w' [Ch.own S4 (x5:List Bool) [.slice p6 x4.length x4.length],Ch.own S2 (x2:List Bool) [.slice p4 x1.length x1.length],Ch.own S3 (x3:List Int) [.slice p5 x3.length k3]]) ?_ ?_
   ·refine X0 3 Z ?_;obtain⟨_,_,F,he3,_,_,_,_,hp3,hq3,rfl,hc6⟩:=s2.ix F;refine zxe hp3 hq3 he3 Z (zc 0 (hc6.below h.below) Z (zp1 Z (qm (t:=32) F Z ?_ ?_)))<;>intro F
    ·refine X0 7 Z ?_;obtain⟨_,_,F,he4,_,_,_,_,hp4,hq4,hr4,hc7⟩:=s1.ix F;obtain rfl:=qav hr4;refine zxe hp4 hq4 he4 Z (X0 3 Z (zc 0 (hc7.below h.below) Z (X0 1 Z ?_)));obtain⟨_,_,F,he5,_,_,_,_,hp5,hq5,rfl,hc8⟩:=(h.sl 1 Z).1.ix F;refine zx hp5 hq5 ⟨he5.1,qC he5.2.1 (h.sl 1 Z).2⟩ Z (X0 1 Z (zc 0 hc8 Z (X0 4 Z ?_)));obtain rfl:=qb F;exact rG ⟨_,hK3,rfl,h⟩ Z
    refine X0 11 Z ?_;obtain rfl:=qb F;exact rG ⟨_,hK3,rfl,h⟩ Z
   rintro _ _ ⟨b1,F,rfl,h⟩;subst hKF1;refine qh Z F ?_ ?_<;>intro F
   ·refine X0 4 Z ?_;obtain⟨_,_,F,he1,_,_,_,_,hp1,hq1,hr1,hc4⟩:=s1.ix F;obtain rfl:=qav hr1;refine zxe hp1 hq1 he1 Z (zp1 Z (zc 1 (hc4.below h.below) Z ?_));obtain⟨_,hy2,F,he2,_,_,_,_,hp2,hq2,rfl,hc5⟩:=(h.sl 0 Z).1.ix F;exact zx hp2 hq2 ⟨he2.1,qC he2.2.1 (h.sl 0 Z).2⟩ Z (qay qa 0 0 true h Z hy2 hp2 hq2 Z hc5 Z Z Z Z Z Z Z fun _ h=>X0 7 Z (rK ⟨_,_,F,rfl,h⟩ Z))
   exact X0 7 Z (rK ⟨_,_,F,rfl,h⟩ Z)
  refine qq Z ?_;obtain rfl:=qb F;replace F:=hK2;refine X0 5 Z ?_;obtain⟨KF2,hKF2,o4,F,hK4⟩:=bindE F;refine qbe (fun e w'=>∃(i3:Int),KF2 i3=V o1∧e=[(0,.int .i64 a_0),(1,.slice p1 a_1.length k1),(2,.slice p2 a_2.length k2),(8,.slice p5 x3.length k3),(9,.slice p4 x1.length x1.length),(12,.int .i64 i3)]∧SH w w' [Ch.own S2 (x2:List Bool) [.slice p4 x1.length x1.length],Ch.own S3 (x3:List Int) [.slice p5 x3.length k3]]) ?_ ?_
  ·refine qn (rL (fun m e w'=>∃(i4:Int),qce a_0 x2 x5 m i4=V o4∧e=[(0,.int .i64 a_0),(1,.slice p1 a_1.length k1),(2,.slice p2 a_2.length k2),(8,.slice p5 x3.length k3),(9,.slice p4 x1.length x1.length),(10,.slice p6 x4.length x4.length),(12,.int .i64 i4)]∧SH w w' [Ch.own S4 (x5:List Bool) [.slice p6 x4.length x4.length],Ch.own S2 (x2:List Bool) [.slice p4 x1.length x1.length],Ch.own S3 (x3:List Int) [.slice p5 x3.length k3]]) m1 ⟨_,F,rfl,h⟩ Z ?_);rintro m3 _ _ ⟨i4,F,rfl,h⟩;rcases m3 with _|m3
   ·cases F
   refine X0 7 Z (qm (t:=53) F Z ?_ ?_)<;>intro F
   ·refine X0 5 Z ?_;obtain⟨_,_,F,he7,_,_,_,_,hp7,hq7,rfl,hc11⟩:=(h.sl 1 Z).1.ix F;refine zx hp7 hq7 ⟨he7.1,qC he7.2.1 (h.sl 1 Z).2⟩ Z (X0 1 Z (zc 0 hc11 Z (X0 2 Z (qm (t:=58) F Z ?_ ?_))))<;>intro F
    ·exact X0 8 Z (qfQ Z Z (X0 8 Z (rK ⟨_,F,rfl,h⟩ Z)))
    refine X0 5 Z ?_;obtain⟨_,_,F,he8,_,_,_,_,hp8,hq8,rfl,hc12⟩:=(h.sl 0 Z).1.ix F;refine zx hp8 hq8 ⟨he8.1,qC he8.2.1 (h.sl 0 Z).2⟩ Z (X0 1 Z (zc 0 hc12 Z (X0 4 Z (qh Z F ?_ ?_))))<;>intro F
    ·exact X0 8 Z (rK ⟨_,F,rfl,h⟩ Z)
    refine qq Z ?_;replace h:=h.pick [1,2] Z;obtain rfl:=qb F;exact rG ⟨_,hK4,rfl,h⟩ Z
   refine X0 12 Z (qdi Z Z (qq Z ?_));replace h:=h.pick [1,2] Z;obtain rfl:=qb F;exact rG ⟨_,hK4,rfl,h⟩ Z
  rintro _ _ ⟨i3,F,rfl,h⟩;subst hKF2;refine X0 7 Z (qh Z F ?_ ?_)<;>intro F
  ·refine zSR (qK qa [] _ ([]:List Int) h Z Z Z Z Z Z Z Z Z trivial Z fun _ p7 _ h=>X0 3 Z ?_);obtain rfl:=qb F;replace F:=hK1;obtain rfl:=qb F;exact qae qa (ρ:=((List Int)×Bool)) [GoT.v (List Int) [.slice p7 0 0],GoT.v Bool [.bool false]] h ⟨rfl,rfl,trivial⟩ (PV.done h (qap h (qaA 0 h Z) (qaj (qA (S:=fun _=>False) Z)) (by rfl)))
  refine X0 5 Z ?_;obtain⟨_,hy6,F,he6,_,_,_,_,hp6,hq6,rfl,hc10⟩:=(h.sl 0 Z).1.ix F;refine zx hp6 hq6 ⟨he6.1,qC he6.2.1 (h.sl 0 Z).2⟩ Z (qay qa 0 0 true h Z hy6 hp6 hq6 Z hc10 Z Z Z Z Z Z Z fun _ h=>X0 4 Z (qK qa [.tmp 75] _ ([i3]:List Int) h Z Z Z Z Z Z Z Z Z ⟨rfl,trivial⟩ Z fun _ _ _ h=>?_));obtain⟨_,hx3,F⟩:=qc F;obtain⟨g5,hx3⟩:=qan hx3;refine qbW qa 2 h Z (h.sl 0 Z).1 (h.sl 0 Z).2 Z Z Z Z Z Z Z Z Z g5 hx3 Z fun _ _ _ _ h=>X0 3 Z ?_;replace h:=h.pick [1,2] Z;exact rK ⟨_,_,_,_,_,_,F,rfl,h⟩ Z
 refine qq Z ?_;obtain rfl:=qb F;replace F:=hK1;refine X0 6 Z ?_;obtain rfl:=qb F;exact qae qa (ρ:=((List Int)×Bool)) [GoT.v (List Int) [.slice p5 x3.length k3],GoT.v Bool [.bool true]] h ⟨rfl,rfl,trivial⟩ (PV.done h (qap h (qaA 1 h Z) (qaj (qA (S:=fun _=>False) Z)) (by rfl)))
end Go.Fw


namespace Go.Fw
open Go
set_option maxRecDepth 100000
structure LkOk (ls:List qt)(M:Nat):Prop where
 len:ls.length≤10000
 nodes:M≤156
 fr0:∀ x,x<ls.length→0≤(gt ls x).Bc
 fr1:∀ x,x<ls.length→(gt ls x).Bc<(M:Int)
 to0:∀ x,x<ls.length→0≤(gt ls x).To
 to1:∀ x,x<ls.length→(gt ls x).To<(M:Int)
def frL (ls:List qt)(x:Nat):Int:=(gt ls x).Bc
def toL (ls:List qt)(x:Nat):Int:=(gt ls x).To
def lvL (lv:List Bool)(x:Nat):Bool:=gt lv x
abbrev inL (ls:List qt)(lv:List Bool)(j:Nat)(R:List Nat)(k:Nat):Nat:=inN j (frL ls) (toL ls) (lvL lv) R k
abbrev nxtL (ls:List qt)(lv:List Bool)(M:Nat)(R:List Nat):Option Nat:=nxtN ls.length (frL ls) (toL ls) (lvL lv) M R
abbrev ordL (ls:List qt)(lv:List Bool)(M m:Nat)(R:List Nat):Option (List Nat):=ordN ls.length (frL ls) (toL ls) (lvL lv) M m R
def ordR (ls:List qt)(lv:List Bool)(M:Nat):List Int×Bool:=match ordL ls lv M M [] with|some R=>(ints R,true)|none=>([],false)
theorem qwp {ls:List qt}{lv:List Bool}{M m:Nat}{R:List Nat}(h:nxtL ls lv M R=U):ordL ls lv M (m+1) R=U:=by
 show(match nxtL ls lv M R with|none=>U|some k=>ordL ls lv M m (R++[k]))=U;rw[h]
theorem qwg {ls:List qt}{lv:List Bool}{M m k:Nat}{R:List Nat}(h:nxtL ls lv M R=V k):ordL ls lv M (m+1) R=ordL ls lv M m (R++[k]):=by
 show(match nxtL ls lv M R with|none=>U|some k=>ordL ls lv M m (R++[k]))=_;rw[h]
theorem qpy {M:Nat}{v:Bool}(h:M≤2147483648):mkS (M:Int) v=V (pre (fun _=>v) M):=by
 rw[qnJ h]
 congr 1
 refine jZ (by simp[pre]) fun i h1 h2=>?_;simp[pre]
theorem qzv {L:Nat}{fr to:Nat→Int}{lv:Nat→Bool}{R:List Nat}{k:Nat}:inN L fr to lv R k≤L:=qgz
theorem qtS {L:Nat}{fr to:Nat→Int}{lv:Nat→Bool}{R:List Nat}{k:Nat}:inN (L+1) fr to lv R k=inN L fr to lv R k+(bif lv L&&(to L==(k:Int)&&!decide (fr L ∈ ints R)) then 1 else 0):=rfl
def ledB (ls:List qt)(lv:List Bool)(j:Nat)(R:List Nat)(M:Nat):List Bool:=pre (fun k=>!decide (inL ls lv j R k=0)) M
def inB (R:List Nat)(M:Nat):List Bool:=pre (fun k=>decide (k ∈ R)) M
theorem qyJ {ls:List qt}{lv:List Bool}{M:Nat}(h:LkOk ls M)(hl:lv.length=ls.length){R:List Nat} :
  Ev (fun n=>qcF ls lv (inB R M) n (pre (fun _=>false) M) 0) (ledB ls lv ls.length R M,(ls.length:Int)):=by
 have hll:=h.len;refine loopF (Lf:=qcF ls lv (inB R M)) (S:=fun j=>ledB ls lv j R M) (len:=ls.length) (fun n=>?_) (fun j hj X hX=>?_)
 ·simp only[qcF,ql (je _),cond_false]
 ·obtain⟨a,ha⟩:∃ a:Nat,(gt ls j).Bc=(a:Int):=⟨_,qhh (h.fr0 j hj)⟩;obtain⟨c,hc⟩:∃ c:Nat,(gt ls j).To=(c:Int):=⟨_,qhh (h.to0 j hj)⟩;have ha1:a<M:=by have:=h.fr1 j hj;omega
  have hc1:c<M:=by have:=h.to1 j hj;omega
  have hfr:frL ls j=(a:Int):=ha;have hto:toL ls j=(c:Int):=hc;have hmem:decide (frL ls j ∈ ints R)=decide (a ∈ R):=by rw[hfr];exact decide_eq_decide.2 qmZ
  have i1:idx (inB R M) (a:Int)=V (decide (a ∈ R)):=qiO (f:=fun k=>decide (k ∈ R)) ha1;have i2:idx (ledB ls lv j R M) (c:Int)=V (!decide (inL ls lv j R c=0)):=qiO (f:=fun k=>!decide (inL ls lv j R k=0)) hc1;have key:(lvL lv j&&!decide (a ∈ R))=true→ledB ls lv (j+1) R M=setS (ledB ls lv j R M) (c:Int) true:=by
   intro hk;unfold ledB;rw[qnz];refine qe6 fun k _=>?_;show(!decide (inN (j+1) _ _ _ R k=0))=_;rw[qtS,hto,hmem];by_cases hkc:k=c
   ·subst hkc;rw[if_pos Z];simp only[jf] at hk;simp[hk.1,hk.2]
   ·rw[if_neg hkc,show((c:Int)==(k:Int))=false by simp;omega];simp
  have key2:(lvL lv j&&!decide (a ∈ R))=false→ledB ls lv (j+1) R M=ledB ls lv j R M:=by
   intro hk;unfold ledB;refine qe6 fun k _=>?_;show(!decide (inN (j+1) _ _ _ R k=0))=_;rw[qtS,hto,hmem,show(lvL lv j&&(((c:Int)==(k:Int))&&!decide (a ∈ R)))=false by
    cases h1:lvL lv j
    ·rfl
    ·rw[h1] at hk;simp only[jG] at hk;rw[hk];simp]
   simp
  simp only[qcF,qj hj,cond_true,qz (show j<lv.length by omega),qz hj,jd,ha,hc,i1,i2,wS j];cases h1:gt lv j
  ·simp only[cond_false,jd];have:=key2 (by unfold lvL;rw[h1];rfl);rw[this] at hX;exact hX
  ·simp only[cond_true,jd];cases h2:decide (a ∈ R)
   ·simp only[Bool.not_false,cond_true];have:=key (by unfold lvL;rw[h1,h2];rfl);rw[this] at hX;exact hX
   ·simp only[jW,cond_false];have:=key2 (by unfold lvL;rw[h1,h2];rfl);rw[this] at hX;exact hX
theorem qwP {ls:List qt}{lv:List Bool}{M:Nat}(h:LkOk ls M){R:List Nat} :
  Ev (fun n=>qce (M:Int) (inB R M) (ledB ls lv ls.length R M) n 0) (match nxtL ls lv M R with|some k=>(k:Int)|none=>(M:Int)):=by
 have hm:=h.nodes;have main:∀ d j,j+d=M→(∀ i,i<j→freeN ls.length (frL ls) (toL ls) (lvL lv) R i=false) →
   Ev (fun n=>qce (M:Int) (inB R M) (ledB ls lv ls.length R M) n (j:Int)) (match nxtL ls lv M R with|some k=>(k:Int)|none=>(M:Int)):=by
  intro d
  induction d with
  | zero=>
   intro j hj hn;have hno:nxtL ls lv M R=U:=by
    show(List.range M).find? _=U;rw[List.find?_eq_none];intro x hx;rw[List.mem_range] at hx;rw[hn x (by omega)];simp
   rw[hno];refine Ev.succ ?_;simp only[qce,ql (show M≤j by omega),cond_false];rw[show j=M by omega];exact .done
  | succ d ih=>
   intro j hj hn;have hjM:j<M:=by omega
   have i1:idx (inB R M) (j:Int)=V (decide (j ∈ R)):=qiO (f:=fun k=>decide (k ∈ R)) hjM;have i2:idx (ledB ls lv ls.length R M) (j:Int)=V (!decide (inL ls lv ls.length R j=0)):=qiO (f:=fun k=>!decide (inL ls lv ls.length R k=0)) hjM;refine Ev.succ ?_;simp only[qce,qj hjM,cond_true,i1,i2,jd,wS j];have go:freeN ls.length (frL ls) (toL ls) (lvL lv) R j=false→Ev (fun n=>qce (M:Int) (inB R M) (ledB ls lv ls.length R M) n ((j+1:Nat):Int)) (match nxtL ls lv M R with|some k=>(k:Int)|none=>(M:Int)):=fun hf=>
    ih (j+1) (by omega) fun i hi=>by
     by_cases hij:i=j
     ·rw[hij];exact hf
     ·exact hn i (by omega)
   cases h1:decide (j ∈ R)
   ·simp only[cond_false];cases h2:decide (inL ls lv ls.length R j=0)
    ·simp only[Bool.not_false,cond_true];exact go (by unfold freeN;rw[h1];show(!false&&decide (inL ls lv ls.length R j=0))=false;rw[h2];rfl)
    ·simp only[jW,cond_false];have:nxtL ls lv M R=V j:=by
      show(List.range M).find? _=V j;rw[List.find?_range_eq_some];refine⟨?_,List.mem_range.2 hjM,fun i hi=>by rw[hn i hi];rfl⟩;unfold freeN;rw[h1];show(!false&&decide (inL ls lv ls.length R j=0))=true;rw[h2];rfl
     rw[this];exact .done
   ·simp only[cond_true];exact go (by unfold freeN;rw[h1];rfl)
 exact main M 0 (by omega) (fun i hi=>absurd hi (by omega))
theorem qvR {ls:List qt}{lv:List Bool}{M:Nat}(h:LkOk ls M)(hl:lv.length=ls.length):Ev (fun n=>qjH n (M:Int) ls lv) (ordR ls lv M):=by
 have hm:=h.nodes;have main:∀ m R,R.length+m=M→Ev (fun n=>qeJ (M:Int) ls lv n (inB R M) (ints R))
   (match ordL ls lv M m R with|some R'=>.nxt (inB R' M,ints R')|none=>.ret ([],false)):=by
  intro m
  induction m with
  | zero=>
   intro R hR;refine Ev.succ ?_;simp only[qeJ,qcG,ql (show M≤R.length by omega),cond_false];exact .done
  | succ m ih=>
   intro R hR;refine Ev.succ ?_;simp only[qeJ,qcG,qj (show R.length<M by omega),cond_true,qpy (v:=false) (show M≤2147483648 by omega),jd];refine Ev.bind (qyJ h hl) (Ev.bind (qwP h) ?_);show Ev _ (match (match nxtL ls lv M R with|none=>U|some k=>ordL ls lv M m (R++[k])) with|some R'=>_|none=>_);cases hn:nxtL ls lv M R with
   | none=>
    simp only[beq_self_eq_true,cond_true];exact .done
   | some k=>
    obtain⟨hk,_,_⟩:=qpC hn;have i1:idx (inB R M) (k:Int)=V (decide (k ∈ R)):=qiO (f:=fun k=>decide (k ∈ R)) hk;have e1:setS (inB R M) (k:Int) true=inB (R++[k]) M:=by
     unfold inB;rw[qnz];refine qe6 fun i _=>?_;by_cases hik:i=k
     ·subst hik;simp
     ·simp[hik]
    simp only[show((k:Int)==(M:Int))=false by simp;omega,cond_false,i1,jd];rw[qb0 (by rw[qcG,jt];omega),e1,←qjv];exact ih (R++[k]) (by rw[jh,jt];omega)
 have e0:pre (fun _=>false) M=inB [] M:=qe6 fun k _=>by simp
 unfold qjH;rw[qpy (v:=false) (show M≤2147483648 by omega)];simp only[jd];rw[e0];refine Ev.bind (main M [] (by simp)) ?_;unfold ordR;cases ordL ls lv M M []<;>exact .done
def grV (ls:List qt)(lv:List Bool)(ps:List Tplace)(b:qd)(lo:List Int)(de:List (List Int))(ex:List Int):Option Tgraph:=V ⟨V ⟨b,ps,ls,lo,de,ex⟩,lv⟩
theorem qsN {xs:List Int}(hl:xs.length≤1000000):Ev (fun n=>qhE n xs 0) (ixL (fun y=>(0:Int)==y) xs):=
 qfS (fin:=(xs.length:Int)) (Lf:=qc5 xs 0) (pf:=fun _ y=>V ((0:Int)==y)) (fun _ _=>.done)
  (fun n=>by simp only[qc5,ql (je _),cond_false])
  (fun n j x hx=>by
   have hj:=(List.getElem?_eq_some_iff.1 hx).1;simp only[qc5,qj hj,cond_true,qas hx,jd,wS j])
  (fun n=>by unfold qhE;congr 1;funext o;cases o<;>rfl)
theorem qyv {f:Nat→Int}{M:Nat}{p:Int→Bool}:ixL p (vecI f M)=match (List.range M).find? (fun k=>p (f k)) with|some k=>(k:Int)|none=>-1:=by
 cases hf:(List.range M).find? (fun k=>p (f k)) with
 | none=>
  have h1:(vecI f M).findIdx? p=U:=by
   rw[List.findIdx?_eq_none_iff];intro x hx;obtain⟨k,hk,rfl⟩:=List.mem_map.1 hx;have:=List.find?_eq_none.1 hf k hk;simpa using this
  unfold ixL;rw[h1]
 | some k=>
  obtain⟨h1,h2,h3⟩:=List.find?_range_eq_some.1 hf;rw[List.mem_range] at h2;have:=qr6 (p:=p) (xs:=vecI f M) (j:=k) (by rw[ql7];exact h2) (by simpa [vecI] using h1) (fun i hi=>by
   have:=h3 i hi;simpa [vecI] using this)
  rw[this]
section
variable {ls:List qt}{lv:List Bool}{M:Nat}{ps:List Tplace}{b:qd}{lo:List Int}{de:List (List Int)}{ex:List Int}
theorem qsG (h:LkOk ls M)(hl:lv.length=ls.length):Ev (fun n=>qbm n (grV ls lv ps b lo de ex)) (ints (selN (lvL lv) ls.length)):=by
 have hll:=h.len;have hL:Ev (fun n=>qL ⟨V ⟨b,ps,ls,lo,de,ex⟩,lv⟩ ⟨b,ps,ls,lo,de,ex⟩ n ([]:List Int) 0) (ints (selN (lvL lv) ls.length),(ls.length:Int)):=by
  refine qo6 (q:=lvL lv) (Lf:=qL ⟨V ⟨b,ps,ls,lo,de,ex⟩,lv⟩ ⟨b,ps,ls,lo,de,ex⟩) (len:=ls.length) (by omega) (Ev.succ ?_) (fun j hj t ht X h1 h2=>?_)
  ·simp only[qL,ql (je _),cond_false];exact .done
  ·simp only[qL,qj hj,cond_true,qz hj,qz (show j<lv.length by omega),jd,qiu,ht,wS j];cases hq:gt lv j
   ·simp only[cond_false];exact h2 hq
   ·simp only[cond_true];exact h1 hq
 unfold qbm grV;simp only[jd];exact Ev.bind hL .done
theorem qyk (h:LkOk ls M)(hl:lv.length=ls.length){v:Int}:Ev (fun n=>qij n (grV ls lv ps b lo de ex) v) (ints (selN (fun x=>lvL lv x&&(frL ls x==v)) ls.length)):=by
 have hll:=h.len;have hL:Ev (fun n=>qN v ⟨V ⟨b,ps,ls,lo,de,ex⟩,lv⟩ ⟨b,ps,ls,lo,de,ex⟩ n ([]:List Int) 0) (ints (selN (fun x=>lvL lv x&&(frL ls x==v)) ls.length),(ls.length:Int)):=by
  refine qo6 (q:=fun x=>lvL lv x&&(frL ls x==v)) (Lf:=qN v ⟨V ⟨b,ps,ls,lo,de,ex⟩,lv⟩ ⟨b,ps,ls,lo,de,ex⟩) (len:=ls.length) (by omega) (Ev.succ ?_) (fun j hj t ht X h1 h2=>?_)
  ·simp only[qN,ql (je _),cond_false];exact .done
  ·simp only[qN,qj hj,cond_true,qz hj,qz (show j<lv.length by omega),jd,qi7,ht,wS j];unfold lvL frL at h1 h2;cases hq:gt lv j
   ·simp only[cond_false];exact h2 (by rw[hq];rfl)
   ·simp only[cond_true];cases hw:(gt ls j).Bc==v
    ·simp only[cond_false];exact h2 (by rw[hq,hw];rfl)
    ·simp only[cond_true];exact h1 (by rw[hq,hw];rfl)
 unfold qij qcr grV;simp only[jd];exact Ev.bind (Ev.bind hL .done) .done
theorem qwC {q:Nat→Bool}{m:Nat}{p:Nat→Bool}:(selN q m).countP p=cntP (fun x=>q x&&p x) m:=by
 induction m with
 | zero=>rfl
 | succ m ih=>
  rw[qiF,List.countP_append,ih];show _=cntP (fun x=>q x&&p x) m+(bif (q m&&p m) then 1 else 0);cases q m
  ·rfl
  ·cases hp:p m<;>simp[hp]
def cntT (ls:List qt)(S:List Nat)(k:Nat):Nat:=S.countP (fun x=>toL ls x==(k:Int))
theorem qvl {S:List Nat}{k:Nat}:cntT ls S k≤S.length:=List.countP_le_length
theorem qvM {S:List Nat}{j k:Nat}(hj:j<S.length):cntT ls (S.take (j+1)) k=cntT ls (S.take j) k+(if toL ls S[j]=(k:Int) then 1 else 0):=by
 unfold cntT;rw[jy hj,List.countP_append];by_cases h:toL ls S[j]=(k:Int)<;>simp[h]
theorem bumpV {f:Nat→Int}{c:Nat}{S:List Nat}{j:Nat}{d v:Int}(hj:j<S.length)(hc:toL ls S[j]=(c:Int))(hv:v=f c+d*(cntT ls (S.take j) c:Int)+d) :
  setS (vecI (fun k=>f k+d*(cntT ls (S.take j) k:Int)) M) (c:Int) v=vecI (fun k=>f k+d*(cntT ls (S.take (j+1)) k:Int)) M:=by
 rw[qqO];refine qfF fun k _=>?_;rw[qvM hj,hc];by_cases hk:k=c
 ·subst hk;rw[if_pos Z,if_pos Z,hv];rw[Int.natCast_add,Int.mul_add];omega
 ·rw[if_neg hk,if_neg (by omega)];simp
theorem qzN (h:LkOk ls M){S:List Nat}(hS:∀ x,x ∈ S→x<ls.length)(hn:S.length≤10000) :
  Ev (fun n=>qck ⟨V ⟨b,ps,ls,lo,de,ex⟩,lv⟩ (ints S) n (vecI (fun _=>0) M) 0) (vecI (fun k=>(cntT ls S k:Int)) M,(S.length:Int)):=by
 have:=loopF (Lf:=qck ⟨V ⟨b,ps,ls,lo,de,ex⟩,lv⟩ (ints S)) (S:=fun j=>vecI (fun k=>0+1*(cntT ls (S.take j) k:Int)) M) (len:=S.length) (fin:=(vecI (fun k=>(cntT ls S k:Int)) M,(S.length:Int))) (fun n=>by
   simp only[qck,qcG,ql (je _),cond_false,jH];rw[qfF (f:=fun k=>0+1*(cntT ls S k:Int)) (g:=fun k=>(cntT ls S k:Int)) (fun k _=>by omega)])
  (fun j hj X hX=>by
   have hx:=hS S[j] (jo hj);obtain⟨c,hc⟩:∃ c:Nat,(gt ls S[j]).To=(c:Int):=⟨_,qhh (h.to0 _ hx)⟩;have hc1:c<M:=by have:=h.to1 _ hx;omega
   have hle:=qvl (ls:=ls) (S:=S.take j) (k:=c);rw[Jf] at hle;simp only[qck,qcG,qj hj,cond_true,qnI hj,jd,qz hx,hc,qmW hc1,wS j];rw[qI (by omega) (by omega),bumpV (d:=1) hj hc (by omega)];exact hX)
 rw[qfF (f:=fun k=>0+1*(cntT ls (S.take 0) k:Int)) (g:=fun _=>0) (fun k _=>by unfold cntT;simp)] at this;exact this
theorem qxn (h:LkOk ls M){S:List Nat}{f:Nat→Int}(hS:∀ x,x ∈ S→x<ls.length)(hn:S.length≤10000)(hf:∀ k,k<M→-1≤f k∧f k≤10000) :
  Ev (fun n=>qcj ⟨V ⟨b,ps,ls,lo,de,ex⟩,lv⟩ (ints S) n (vecI f M) 0) (vecI (fun k=>f k-(cntT ls S k:Int)) M,(S.length:Int)):=by
 have:=loopF (Lf:=qcj ⟨V ⟨b,ps,ls,lo,de,ex⟩,lv⟩ (ints S)) (S:=fun j=>vecI (fun k=>f k+(-1)*(cntT ls (S.take j) k:Int)) M) (len:=S.length) (fin:=(vecI (fun k=>f k-(cntT ls S k:Int)) M,(S.length:Int))) (fun n=>by
   simp only[qcj,qcG,ql (je _),cond_false,jH];rw[qfF (f:=fun k=>f k+(-1)*(cntT ls S k:Int)) (g:=fun k=>f k-(cntT ls S k:Int)) (fun k _=>by omega)])
  (fun j hj X hX=>by
   have hx:=hS S[j] (jo hj);obtain⟨c,hc⟩:∃ c:Nat,(gt ls S[j]).To=(c:Int):=⟨_,qhh (h.to0 _ hx)⟩;have hc1:c<M:=by have:=h.to1 _ hx;omega
   have hle:=qvl (ls:=ls) (S:=S.take j) (k:=c);rw[Jf] at hle;have hfc:=hf c hc1;simp only[qcj,qcG,qj hj,cond_true,qnI hj,jd,qz hx,hc,qmW hc1,wS j];rw[qI (by omega) (by omega),bumpV (d:=-1) hj hc (by omega)];exact hX)
 rw[qfF (f:=fun k=>f k+(-1)*(cntT ls (S.take 0) k:Int)) (g:=f) (fun k _=>by unfold cntT;simp)] at this;exact this
def openV (ls:List qt)(lv:List Bool)(R:List Nat)(k:Nat):Int:=if k ∈ R then -1 else(inL ls lv ls.length R k:Int)
theorem qvu {R:List Nat}:ixL (fun y=>(0:Int)==y) (vecI (openV ls lv R) M)=match nxtL ls lv M R with|some k=>(k:Int)|none=>-1:=by
 rw[qyv];have:(fun k=>((0:Int)==openV ls lv R k))=freeN ls.length (frL ls) (toL ls) (lvL lv) R:=by
  funext k
  unfold openV freeN;by_cases hk:k ∈ R
  ·rw[if_pos hk];simp[hk]
  ·rw[if_neg hk];simp only[hk,decide_false,Bool.not_false,jG];by_cases h0:inL ls lv ls.length R k=0
   ·simp[h0]
   ·rw[show((0:Int)==((inL ls lv ls.length R k:Nat):Int))=false from beq_eq_false_iff_ne.2 (by omega)];simpa using h0
 rw[this]
 rfl
theorem qwh (h:LkOk ls M)(hl:lv.length=ls.length)(hM:M=2*ps.length):Ev (fun n=>qhH n (grV ls lv ps b lo de ex)) (ordR ls lv M):=by
 have hm:=h.nodes;have hll:=h.len;have main:∀ m R,R.length+m=M→Closed ls.length (frL ls) (toL ls) (lvL lv) R→∃ y:List Int×List Int×Int,Ev (fun n=>qcl (grV ls lv ps b lo de ex) ⟨V ⟨b,ps,ls,lo,de,ex⟩,lv⟩ (vecI (fun _=>0) M) n (ints R) (vecI (openV ls lv R) M) (R.length:Int))
   (match ordL ls lv M m R with|some R'=>.nxt (ints R',y.2.1,y.2.2)|none=>.ret ([],false)):=by
  intro m
  induction m with
  | zero=>
   intro R hR _;refine⟨(ints R,vecI (openV ls lv R) M,(R.length:Int)),Ev.succ ?_⟩;simp only[qcl,ql7,ql (show M≤R.length by omega),cond_false];exact .done
  | succ m ih=>
   intro R hR hC;have hix:=qsN (xs:=vecI (openV ls lv R) M) (by rw[ql7];omega);rw[qvu] at hix;cases hn:nxtL ls lv M R with
   | none=>
    rw[hn] at hix;rw[qwp hn];refine⟨([],[],0),Ev.succ ?_⟩;simp only[qcl,ql7,qj (show R.length<M by omega),cond_true];exact Ev.bind hix (Ev.tt (by decide) .done)
   | some k=>
    rw[hn] at hix;rw[qwg hn];obtain⟨hk,hkR,h0⟩:=qpC hn;obtain⟨y,hy⟩:=ih (R++[k]) (by rw[jh,jt];omega) (hC.snoc h0);refine⟨y,Ev.succ ?_⟩;simp only[qcl,ql7,qj (show R.length<M by omega),cond_true];refine Ev.bind hix (Ev.ff (by simp) ?_);rw[qmW hk,qb0 (by rw[qcG,jt];omega),qqO,←qjv];simp only[jd];refine Ev.bind (qyk h hl) ?_;have hsl:=qk4 (q:=fun x=>lvL lv x&&(frL ls x==(k:Int))) (j:=ls.length);refine Ev.bind (qxn h (fun x hx=>(qnj.1 hx).1) (by omega) (fun i hi=>?_)) ?_
    ·split
     ·omega
     ·unfold openV;have:inL ls lv ls.length R i≤ls.length:=qzv;split<;>omega
    ·have e2:vecI (fun i=>(if i=k then -1 else openV ls lv R i)-(cntT ls (selN (fun x=>lvL lv x&&(frL ls x==(k:Int))) ls.length) i:Int)) M=vecI (openV ls lv (R++[k])) M:=by
      refine qfF fun i _=>?_;have ec:cntT ls (selN (fun x=>lvL lv x&&(frL ls x==(k:Int))) ls.length) i=lkN ls.length (frL ls) (toL ls) (lvL lv) k i:=qwC;rw[ec];unfold openV;by_cases hiR:i ∈ R++[k]
      ·rw[if_pos hiR,hC.no_back hkR h0 hiR];rcases List.mem_append.1 hiR with h1|h1
       ·split
        ·rfl
        ·rfl
       ·rw[if_pos (List.mem_singleton.1 h1)];rfl
      ·have h1:i ∉ R:=fun e=>hiR (jT _ e);have h2:i ≠ k:=fun e=>hiR (List.mem_append_right _ (List.mem_singleton.2 e));rw[if_neg hiR,if_neg h2,if_neg h1];have:=qwV (L:=ls.length) (fr:=frL ls) (to:=toL ls) (lv:=lvL lv) (R:=R) (i:=k) (k:=i) hkR;show(inN _ _ _ _ R i:Int)-_=(inN _ _ _ _ (R++[k]) i:Int);omega
     rw[e2,qdM (show R.length<9223372036854775807 by omega)];rw[jh,jt] at hy;exact hy
 have hup:=qzN (b:=b) (ps:=ps) (lo:=lo) (de:=de) (ex:=ex) (lv:=lv) h (S:=selN (lvL lv) ls.length) (fun x hx=>(qnj.1 hx).1) (by have:=qk4 (q:=lvL lv) (j:=ls.length);omega);have e0:vecI (fun k=>(cntT ls (selN (lvL lv) ls.length) k:Int)) M=vecI (openV ls lv []) M:=by
  refine qfF fun k _=>?_;unfold openV;rw[if_neg (by simp)]
  congr 1
  show List.countP _ _=inN _ _ _ _ [] k;rw[qwC];unfold inN;exact qqP fun x _=>by simp[ints]
 rw[e0] at hup;obtain⟨y,hy⟩:=main M [] (by simp) Closed.nil;unfold qhH;show Ev (fun n=>(V _).bind _) _;simp only[jd,qe9,qem];rw[qI (by omega) (by omega),show 2*(ps.length:Int)=(M:Int) by omega,qsf (by omega)];simp only[jd];refine Ev.bind (qsG h hl) (Ev.bind hup (Ev.bind hy ?_));unfold ordR;cases ordL ls lv M M []<;>exact .done
end
end Go.Fw


namespace Go.Fw
open Go Go.Proofs Go.Proofs.Tryz
open Go.RowKit (Below)
set_option maxRecDepth 100000
set_option maxHeartbeats 1600000
variable {n:Nat}{w:World}{cs1 cs2 cs3 cs4 cs5 cs6 cs7 cs8 cs9:List Value}
def qlS (_:Nat)(a_n:Int):Option qB:=
 (mkS a_n (false:Bool)).bind fun x1=>
 (mkS a_n ((⟨0,0⟩:qi):qi)).bind fun x2=>
 (mkS a_n ((⟨0,0⟩:qi):qi)).bind fun x3=>
 V (⟨x1,x2,x3⟩:qB)
theorem qpi {a_n:Int}  {r:qB}(F:qlS n a_n=V r):RetV prog 151 [.int .i64 a_n] w r:=by
 refine zV 10 func151 Z fun h=>zSR (qp qa h Z Z Z fun _ bb1 h=>zNS (rA [] [] h Z fun _ h=>M0 21 [0,2,4] (h.pick [] Z) Z ?_));obtain⟨x1,hx1,F⟩:=qc F;obtain⟨x2,hx2,F⟩:=qc F;obtain⟨x3,hx3,F⟩:=qc F;refine qnx (fun e w'=>∃(S13:Nat→Prop) (p13:Option Addr) (S14:Nat→Prop) (p14:Option Addr) (S15:Nat→Prop) (p15:Option Addr),e=[(2,.pointer (V ⟨bb1,0,U⟩))]∧SH w w' [Ch.own S13 (x3:List qi) [.slice p13 x3.length x3.length],Ch.own S14 (x2:List qi) [.slice p14 x2.length x2.length],Ch.own S15 (x1:List Bool) [.slice p15 x1.length x1.length],Ch.box bb1 [.slice p15 x1.length x1.length,.slice p14 x2.length x2.length,.slice p13 x3.length x3.length] 57]) 0 (bits 8 255) ?_ ?_
 ·intro K;refine qqC 1 3 5 Z Z Z (bits 8 23) (bits 8 29) (bits 8 53) (by kernel_rfl) (by kernel_rfl) (by kernel_rfl) (by kernel_rfl) ?_ ?_ ?_
  ·obtain⟨g13,g14,hx1⟩:=qac hx1;refine qaw qa Bool h Z Z Z Z Z Z Z Z Z g13 g14 hx1 Z fun w12 S10 p10 h=>Ag (h.pick [] Z) (At 3 5 31 55 Z ?_ ?_)
   ·obtain⟨g15,g16,hx2⟩:=qac hx2;refine qaw qa qi h Z Z Z Z Z Z Z Z Z g15 g16 hx2 Z fun w13 S11 p11 h=>Ag (h.pick [] Z) (Ao 5 63 Z ?_);obtain⟨g17,g18,hx3⟩:=qac hx3;refine qaw qa qi h Z Z Z Z Z Z Z Z Z g17 g18 hx3 Z fun w14 S12 p12 h=>Ag (h.pick [] Z) (Aw 6 127 (fun w' hw=>qJ qa [0,1,2] [.tmp 4,.tmp 6,.tmp 8] Z Z Z Z Z Z Z Z) (h.pick [] Z) Z ?_);exact Ao 7 255 Z (zs 3 h Z fun w15 h=>Ag (h.pick [] Z) (qfK [(2,_)] ⟨rfl,trivial⟩ (K _ _ ⟨_,_,_,_,_,_,rfl,h⟩)))
   obtain⟨g15,g16,hx3⟩:=qac hx3;refine qaw qa qi h Z Z Z Z Z Z Z Z Z g15 g16 hx3 Z fun w13 S11 p11 h=>Ag (h.pick [] Z) (Ao 3 63 Z ?_);obtain⟨g17,g18,hx2⟩:=qac hx2;refine qaw qa qi h Z Z Z Z Z Z Z Z Z g17 g18 hx2 Z fun w14 S12 p12 h=>Ag (h.pick [] Z) (Aw 6 127 (fun w' hw=>qJ qa [0,1,2] [.tmp 4,.tmp 6,.tmp 8] Z Z Z Z Z Z Z Z) (h.pick [] Z) Z ?_);refine Ao 7 255 Z (zs 3 h Z fun w15 h=>Ag (h.pick [] Z) ?_);replace h:=h.pick [1,0,2,3] Z;exact qfK [(2,_)] ⟨rfl,trivial⟩ (K _ _ ⟨_,_,_,_,_,_,rfl,h⟩)
  ·obtain⟨g13,g14,hx2⟩:=qac hx2;refine qaw qa qi h Z Z Z Z Z Z Z Z Z g13 g14 hx2 Z fun w12 S10 p10 h=>Ag (h.pick [] Z) (At 1 5 31 61 Z ?_ ?_)
   ·obtain⟨g15,g16,hx1⟩:=qac hx1;refine qaw qa Bool h Z Z Z Z Z Z Z Z Z g15 g16 hx1 Z fun w13 S11 p11 h=>Ag (h.pick [] Z) (Ao 5 63 Z ?_);obtain⟨g17,g18,hx3⟩:=qac hx3;refine qaw qa qi h Z Z Z Z Z Z Z Z Z g17 g18 hx3 Z fun w14 S12 p12 h=>Ag (h.pick [] Z) (Aw 6 127 (fun w' hw=>qJ qa [0,1,2] [.tmp 4,.tmp 6,.tmp 8] Z Z Z Z Z Z Z Z) (h.pick [] Z) Z ?_);refine Ao 7 255 Z (zs 3 h Z fun w15 h=>Ag (h.pick [] Z) ?_);replace h:=h.pick [0,2,1,3] Z;exact qfK [(2,_)] ⟨rfl,trivial⟩ (K _ _ ⟨_,_,_,_,_,_,rfl,h⟩)
   obtain⟨g15,g16,hx3⟩:=qac hx3;refine qaw qa qi h Z Z Z Z Z Z Z Z Z g15 g16 hx3 Z fun w13 S11 p11 h=>Ag (h.pick [] Z) (Ao 1 63 Z ?_);obtain⟨g17,g18,hx1⟩:=qac hx1;refine qaw qa Bool h Z Z Z Z Z Z Z Z Z g17 g18 hx1 Z fun w14 S12 p12 h=>Ag (h.pick [] Z) (Aw 6 127 (fun w' hw=>qJ qa [0,1,2] [.tmp 4,.tmp 6,.tmp 8] Z Z Z Z Z Z Z Z) (h.pick [] Z) Z ?_);refine Ao 7 255 Z (zs 3 h Z fun w15 h=>Ag (h.pick [] Z) ?_);replace h:=h.pick [1,2,0,3] Z;exact qfK [(2,_)] ⟨rfl,trivial⟩ (K _ _ ⟨_,_,_,_,_,_,rfl,h⟩)
  obtain⟨g13,g14,hx3⟩:=qac hx3;refine qaw qa qi h Z Z Z Z Z Z Z Z Z g13 g14 hx3 Z fun w12 S10 p10 h=>Ag (h.pick [] Z) (At 1 3 55 61 Z ?_ ?_)
  ·obtain⟨g15,g16,hx1⟩:=qac hx1;refine qaw qa Bool h Z Z Z Z Z Z Z Z Z g15 g16 hx1 Z fun w13 S11 p11 h=>Ag (h.pick [] Z) (Ao 3 63 Z ?_);obtain⟨g17,g18,hx2⟩:=qac hx2;refine qaw qa qi h Z Z Z Z Z Z Z Z Z g17 g18 hx2 Z fun w14 S12 p12 h=>Ag (h.pick [] Z) (Aw 6 127 (fun w' hw=>qJ qa [0,1,2] [.tmp 4,.tmp 6,.tmp 8] Z Z Z Z Z Z Z Z) (h.pick [] Z) Z ?_);refine Ao 7 255 Z (zs 3 h Z fun w15 h=>Ag (h.pick [] Z) ?_);replace h:=h.pick [2,0,1,3] Z;exact qfK [(2,_)] ⟨rfl,trivial⟩ (K _ _ ⟨_,_,_,_,_,_,rfl,h⟩)
  obtain⟨g15,g16,hx2⟩:=qac hx2;refine qaw qa qi h Z Z Z Z Z Z Z Z Z g15 g16 hx2 Z fun w13 S11 p11 h=>Ag (h.pick [] Z) (Ao 1 63 Z ?_);obtain⟨g17,g18,hx1⟩:=qac hx1;refine qaw qa Bool h Z Z Z Z Z Z Z Z Z g17 g18 hx1 Z fun w14 S12 p12 h=>Ag (h.pick [] Z) (Aw 6 127 (fun w' hw=>qJ qa [0,1,2] [.tmp 4,.tmp 6,.tmp 8] Z Z Z Z Z Z Z Z) (h.pick [] Z) Z ?_);refine Ao 7 255 Z (zs 3 h Z fun w15 h=>Ag (h.pick [] Z) ?_);replace h:=h.pick [2,1,0,3] Z;exact qfK [(2,_)] ⟨rfl,trivial⟩ (K _ _ ⟨_,_,_,_,_,_,rfl,h⟩)
 rintro _ _ ⟨S13,p13,S14,p14,S15,p15,rfl,h⟩;refine Ad ?_;obtain rfl:=qb F;exact qae qa (ρ:=qB) [GoT.v qB [.slice p15 x1.length x1.length,.slice p14 x2.length x2.length,.slice p13 x3.length x3.length]] h ⟨⟨_,_,_,rfl,rfl,h.box 3 Z,rfl⟩,trivial⟩ (PV.done h (qaj (qjn (⟨x1,x2,x3⟩:qB) h (qaA 2 h Z) (qaA 1 h Z) (qaA 0 h Z) (by rfl) (by rfl))))
def qkD (_:Nat)(a:qi)(b:qi):Option qi:=
 V (⟨(if b.Ar<a.Ar then b.Ar else a.Ar),(if b.Ay > a.Ay then b.Ay else a.Ay)⟩:qi)
theorem qmO {a:qi}{b:qi}(ha1:Ro w a cs1)(ha2:Ro w b cs2){r:qi}(F:qkD n a b=V r):RetV prog 198 [GoT.v qi cs1,GoT.v qi cs2] w r:=by
 obtain rfl:=qD ha1;obtain rfl:=qD ha2;refine zV 16 func198 Z fun h=>zSR (qx h Z Z fun _ _ h=>qx h Z Z fun _ _ h=>qp qa h Z Z Z fun _ _ h=>X4 13 2 1 2 1 h Z (r_v (qJ qa [0,1] [.tmp 9,.tmp 14] Z Z Z Z Z Z Z Z) Z (zs 0 h Z fun _ h=>qcP ?_)));obtain rfl:=qb F;exact qae qa (ρ:=qi) [GoT.v qi [.int .i64 (if b.Ar<a.Ar then b.Ar else a.Ar),.int .i64 (if b.Ay > a.Ay then b.Ay else a.Ay)]] h ⟨⟨_,_,_,rfl,rfl,h.box 0 Z,rfl⟩,trivial⟩ (PV.done h (qaj (qA (S:=fun _=>False) (qP (⟨(if b.Ar<a.Ar then b.Ar else a.Ar),(if b.Ay > a.Ay then b.Ay else a.Ay)⟩:qi)))))
def qj6 (n:Nat)(b:qd)(x:qt):Option Int:=
 (qbH n (⟨b.Aa.Ab,b.Aa.Ah,b.Aa.Af⟩:qe)).bind fun r1=>
 (idx r1 (W64 (x.To.tdiv 2))).bind fun y1=>
 V y1.net
theorem qni {b:qd}{x:qt}(ha1:Ro w b cs1)(ha2:Ro w x cs2){r:Int}(F:qj6 n b x=V r):RetV prog 219 [GoT.v qd cs1,GoT.v qt cs2] w r:=by
 obtain⟨_,_,_,_,_,_,_,_,_,_,rfl,_,s2,s3,s4,_⟩:=qM ha1;obtain rfl:=qav ha2;refine zV 14 func219 Z fun h=>zSR (qx h Z Z fun _ _ h=>qx h Z Z fun _ _ h=>X0 3 Z (rA [] [0,1] h Z fun _ h=>M2 59 [0,1,3,4,5] 1 0 (h.pick [0,1] Z) Z (Ao 2 63 Z (zcL h F (qbz (qao _ (h.oldS s2) (h.oldS s3) (h.oldS s4))) Z fun _ _ _ _ _ h F=>Ag (h.pick [1,2] Z) ?_))));obtain⟨_,_,F,he1,_,_,_,_,hp1,hq1,hr2,hc1⟩:=(h.sl 0 Z).1.ix F;obtain rfl:=qbp hr2;exact Ax 6 127 hp1 hq1 ⟨he1.1,qC he1.2.1 (h.sl 0 Z).2⟩ (h.pick [1,2] Z) Z (M0 255 [7] (h.pick [1,2] Z) Z (Ao 8 511 Z (zc 2 hc1 Z (G0 1023 [9] (h.pick [1,2] Z) Z (Ad (ri h F Z))))))
def qmh (_:Nat)(list:(List Int)):Option (List Int):=
 (appS ([]:List Int) list).bind fun x1=>
 V x1
theorem qp9 {list:(List Int)}(ha1:Ro w list cs1){r:(List Int)}(F:qmh n list=V r):RetV prog 307 [GoT.v (List Int) cs1] w r:=by
 obtain⟨_,_,rfl,s1⟩:=ha1;refine zV 6 func307 Z fun h=>X0 6 Z (qK qa [] _ ([]:List Int) h Z Z Z Z Z Z Z Z Z trivial Z fun _ _ _ h=>zp1 Z ?_);obtain⟨_,hx1,F⟩:=qc F;obtain⟨g1,hx1⟩:=qan hx1;refine qbW qa 0 h Z (h.oldS s1) Z Z Z Z Z Z Z Z Z Z g1 hx1 Z fun _ _ _ _ h=>X0 2 Z ?_;obtain rfl:=qb F;exact rO 0 h Z ⟨rfl,trivial⟩
def qlx (_:Nat)(l:qr)(d:qe)(p:Tl05Place):Option Int:=
 bif decide (p.instance_<0) then V 0 else
 (idx d.Ab p.instance_).bind fun y1=>
 (idx l.Am y1.Bp).bind fun y2=>
 (idx y2.As p.pin).bind fun y3=>
 V y3.Br
theorem qrk {l:qr}{d:qe}{p:Tl05Place}(ha1:Ro w l cs1)(ha2:Ro w d cs2)(ha3:Ro w p cs3){r:Int}(F:qlx n l d p=V r):RetV prog 308 [GoT.v qr cs1,GoT.v qe cs2,GoT.v Tl05Place cs3] w r:=by
 obtain⟨_,_,rfl,s1⟩:=qbN ha1;obtain⟨_,_,_,_,_,_,rfl,s2,_,_⟩:=qaD ha2;obtain rfl:=qbp ha3;refine zV 27 func308 Z fun h=>zSR (qx h Z Z fun _ _ h=>qx h Z Z fun _ _ h=>qx h Z Z fun _ _ h=>X1 9 0 h Z (qh Z F ?_ ?_))<;>intro F
 ·exact X0 4 Z (ri h F Z)
 refine zKS (rD (Y1 2 2 h Z ?_));refine Y1 2 1 h Z ?_;refine Y1 2 0 h Z ?_;obtain⟨_,_,F,he1,_,_,_,_,hp1,hq1,hr1,hc2⟩:=s2.ix F;obtain⟨_,_,rfl,_⟩:=qF hr1;refine zdxe hp1 hq1 he1 Z (zd1 Z (zdc 1 (hc2.below h.below) Z ?_));obtain⟨_,_,F,he2,_,_,_,_,hp2,hq2,hr2,hc3⟩:=s1.ix F;obtain⟨_,_,_,_,_,_,rfl,s6,_,_⟩:=qO hr2;refine zdxe hp2 hq2 he2 Z (zd1 Z (zdc 2 (hc3.below h.below) Z (Y1 2 0 h Z ?_)));obtain⟨_,_,F,he3,_,_,_,_,hp3,hq3,hr3,hc4⟩:=s6.ix F;obtain rfl:=qaV hr3;exact zdxe hp3 hq3 he3 Z (zd1 Z (zdc 2 (hc4.below h.below) Z (zd1 Z (dN h fun _ h=>ri h F Z))))
def qdo (y1:qG):Nat→(List Int)→Int→Option ((List Int)×Int)
 | 0,_,_=>U
 | n+1,x2,i2=>
  bif decide (i2 > 0) then
   (idx y1.Aj i2).bind fun y7=>
   (idx x2 y7).bind fun y8=>
   (idx x2 i2).bind fun y9=>
   (idx x2 y7).bind fun _=>
   qdo y1 n (setS x2 y7 (W64 (y8+y9))) (W64 (i2-1))
  else
   V (x2,i2)
def qdx (a_0:qd)(y1:qG)(r2:(List Tl05Place))(r3:(List Int)):Nat→(List Int)→Int→Option ((List Int)×Int)
 | 0,_,_=>U
 | n+1,x1,i1=>
  bif decide (i1<(r3.length:Int)) then
   (idx y1.Bi i1).bind fun y2=>
   (idx x1 y2).bind fun y3=>
   (idx r3 i1).bind fun y4=>
   (idx r2 y4).bind fun y5=>
   (qlx n (⟨a_0.Ap.Am⟩:qr) (⟨a_0.Aa.Ab,a_0.Aa.Ah,a_0.Aa.Af⟩:qe) y5).bind fun r4=>
   (idx x1 y2).bind fun _=>
   qdx a_0 y1 r2 r3 n (setS x1 y2 (W64 (y3+r4))) (W64 (i1+1))
  else
   V (x1,i1)
def qia (n:Nat)(a_0:qd)(a_1:Int):Option (List Int):=
 (idx a_0.Ac a_1).bind fun y1=>
 (qmh n y1.Br).bind fun r1=>
 (qbH n (⟨a_0.Aa.Ab,a_0.Aa.Ah,a_0.Aa.Af⟩:qe)).bind fun r2=>
 (qgQ n (⟨a_0.Aa.Ab,a_0.Aa.Ah,a_0.Aa.Af⟩:qe) a_1).bind fun r3=>
 (qdx a_0 y1 r2 r3 n r1 0).bind fun o=>match o with
 | (x1,_)=>
  (qdo y1 n x1 (W64 ((r1.length:Int)-1))).bind fun o=>match o with
  | (x2,_)=>
   V x2
theorem ql1 {a_0:qd}{a_1:Int}(ha1:Ro w a_0 cs1){r:(List Int)}(F:qia n a_0 a_1=V r):RetV prog 279 [GoT.v qd cs1,.int .i64 a_1] w r:=by
 obtain⟨p1,k1,p2,k2,p3,k3,p4,k4,p5,k5,rfl,s1,s2,s3,s4,s5⟩:=qM ha1;refine zV 76 func279 Z fun h=>zSR (qx h Z Z fun w1 bb1 h=>X1 7 0 h Z ?_);obtain⟨y1,_,F,he1,_,_,_,_,hp1,hq1,hr1,hc1⟩:=s5.ix F;obtain⟨p6,k6,p7,k7,p8,k8,p9,k9,rfl,s6,_,s8,s9⟩:=qaO hr1;refine zxe hp1 hq1 he1 Z (zc 0 (hc1.below h.below) Z (qp qa h Z Z Z fun _ bb2 h=>zs 0 h Z fun _ h=>X1 5 0 h Z (zcL h F (qp9 ⟨_,_,rfl,(h.oldS s8)⟩) Z fun r1 _ S1 p10 k10 h F=>X1 6 2 h Z (zcL h F (qbz (qao _ (h.oldS s2) (h.oldS s3) (h.oldS s4))) Z fun r2 _ S2 p11 k11 h F=>X1 7 3 h Z (zcL h F (qjr (qao _ (h.oldS s2) (h.oldS s3) (h.oldS s4))) Z fun r3 _ S3 p12 k12 h F=>X0 7 Z ?_)))));obtain⟨o1,F,hK1⟩:=qc F;refine qn (rL (fun m e w'=>∃(x1:(List Int)) (i1:Int),qdx a_0 y1 r2 r3 m x1 i1=V o1∧e=[(2,.pointer (V ⟨bb1,0,U⟩)),(5,.pointer (V ⟨bb2,0,U⟩)),(6,.slice p10 r1.length k10),(7,.slice p11 r2.length k11),(8,.slice p12 r3.length k12),(9,.int .i64 i1)]∧SH w w' [Ch.own S3 (r3:List Int) [.slice p12 r3.length k12],Ch.own S2 (r2:List Tl05Place) [.slice p11 r2.length k11],Ch.own S1 (x1:List Int) [.slice p10 r1.length k10],Ch.box bb2 (qg5 y1 p6 p7 p8 p9 k6 k7 k8 k9) 210,Ch.box bb1 (qT a_0 p1 p2 p3 p4 p5 k1 k2 k3 k4 k5) 53]) n ⟨_,_,F,rfl,h⟩ Z ?_);rintro m1 _ _ ⟨x1,i1,F,rfl,h⟩;rcases m1 with _|m1
 ·cases F
 refine X0 8 Z (qh Z F ?_ ?_)<;>intro F
 ·refine zKSB (rA [22] [0,1,2,3,4] h Z fun _ h=>M1 15 [0,1,2,3] 3 (h.pick [0,1,2,3,4] Z) Z ?_);obtain⟨_,_,F,he2,_,_,_,_,hp2,hq2,rfl,hc3⟩:=s9.ix F;refine Ae 4 31 hp2 hq2 he2 (h.pick [0,1,2,3,4] Z) Z (Al 5 63 0 hc3 (h.pick [0,1,2,3,4] Z) Z ?_);obtain⟨y3,hy3,F,he3,_,_,_,_,hp3,hq3,rfl,_⟩:=(h.sl 2 Z).1.ix F;refine Ax 6 127 hp3 hq3 ⟨he3.1,qC he3.2.1 (h.sl 2 Z).2⟩ (h.pick [0,1,2,3,4] Z) Z (Aw 7 255 (fun w' hw=>qhX qa (qbY (w1:=w) (S1:=fun _=>False) hw 2 Z hy3 hp3 hq3 Z) (j:=0) Z Z Z) (h.pick [0,1,2,3,4] Z) Z ?_);refine M2 32767 [8,9,10,11,12,13,14] 4 4 (h.pick [0,1,2,3,4] Z) Z ?_;obtain⟨_,hy4,F,he4,_,_,_,_,hp4,hq4,rfl,_⟩:=(h.sl 0 Z).1.ix F;refine Ax 15 65535 hp4 hq4 ⟨he4.1,qC he4.2.1 (h.sl 0 Z).2⟩ (h.pick [0,1,2,3,4] Z) Z (Aw 16 131071 (fun w' hw=>qhX qa (qbY (w1:=w) (S1:=fun _=>False) hw 0 Z hy4 hp4 hq4 Z) (j:=0) Z Z Z) (h.pick [0,1,2,3,4] Z) Z ?_);obtain⟨y5,hy5,F,he5,_,_,_,_,hp5,hq5,hr8,_⟩:=(h.sl 1 Z).1.ix F;obtain rfl:=qbp hr8;refine Ax 17 262143 hp5 hq5 ⟨he5.1,qC he5.2.1 (h.sl 1 Z).2⟩ (h.pick [0,1,2,3,4] Z) Z (Aw 18 524287 (fun w' hw=>qhX qa (qbY hw 1 Z hy5 hp5 hq5 (qet (w:=w) (S:=fun _=>False) y5)) (j:=0) Z Z Z) (h.pick [0,1,2,3,4] Z) Z ?_);refine Ao 19 1048575 Z (zcI h F (qrk (qep _ (h.oldS s1)) (qao _ (h.oldS s2) (h.oldS s3) (h.oldS s4)) (qet y5)) Z fun r4 _ h F=>G0 2097151 [20] (h.pick [0,1,2,3,4] Z) Z ?_);obtain⟨_,hy6,F,he6,_,_,_,_,hp6,hq6,rfl,hc7⟩:=(h.sl 2 Z).1.ix F;exact Ax 21 4194303 hp6 hq6 ⟨he6.1,qC he6.2.1 (h.sl 2 Z).2⟩ (h.pick [0,1,2,3,4] Z) Z (Ao 22 8388607 Z (qay qa 2 0 (W64 (y3+r4)) h Z hy6 hp6 hq6 Z hc7 Z Z Z Z Z Z Z fun _ h=>qbf (fun hs=>absurd (hs 22 (by decide)) (by decide)) (Ad (X0 6 Z (rK ⟨_,_,F,rfl,h⟩ Z)))))
 refine qq Z ?_;obtain rfl:=qb F;replace F:=hK1;refine X0 8 Z ?_;obtain⟨o2,F,hK2⟩:=qc F;refine qn ?_;replace h:=h.pick [2,3] Z;refine rL (fun m e w'=>∃(x2:(List Int)) (i2:Int),qdo y1 m x2 i2=V o2∧e=[(5,.pointer (V ⟨bb2,0,U⟩)),(6,.slice p10 r1.length k10),(10,.int .i64 i2)]∧SH w w' [Ch.own S1 (x2:List Int) [.slice p10 r1.length k10],Ch.box bb2 (qg5 y1 p6 p7 p8 p9 k6 k7 k8 k9) 210]) n ⟨_,_,F,rfl,h⟩ Z ?_;rintro m2 _ _ ⟨x2,i2,F,rfl,h⟩;rcases m2 with _|m2
 ·cases F
 refine X0 6 Z (qh Z F ?_ ?_)<;>intro F
 ·refine zKSB (rA [14] [0,1] h Z fun _ h=>M1 15 [0,1,2,3] 1 (h.pick [0,1] Z) Z ?_);obtain⟨_,_,F,he7,_,_,_,_,hp7,hq7,rfl,hc9⟩:=s6.ix F;refine Ae 4 31 hp7 hq7 he7 (h.pick [0,1] Z) Z (Al 5 63 0 hc9 (h.pick [0,1] Z) Z ?_);obtain⟨y8,hy8,F,he8,_,_,_,_,hp8,hq8,rfl,_⟩:=(h.sl 0 Z).1.ix F;refine Ax 6 127 hp8 hq8 ⟨he8.1,qC he8.2.1 (h.sl 0 Z).2⟩ (h.pick [0,1] Z) Z (Aw 7 255 (fun w' hw=>qhX qa (qbY (w1:=w) (S1:=fun _=>False) hw 0 Z hy8 hp8 hq8 Z) (j:=0) Z Z Z) (h.pick [0,1] Z) Z ?_);refine M0 1023 [8,9] (h.pick [0,1] Z) Z ?_;obtain⟨y9,hy9,F,he9,_,_,_,_,hp9,hq9,rfl,_⟩:=(h.sl 0 Z).1.ix F;refine Ax 10 2047 hp9 hq9 ⟨he9.1,qC he9.2.1 (h.sl 0 Z).2⟩ (h.pick [0,1] Z) Z (Aw 11 4095 (fun w' hw=>qhX qa (qbY (w1:=w) (S1:=fun _=>False) hw 0 Z hy9 hp9 hq9 Z) (j:=0) Z Z Z) (h.pick [0,1] Z) Z ?_);refine M0 8191 [12] (h.pick [0,1] Z) Z ?_;obtain⟨_,hy10,F,he10,_,_,_,_,hp10,hq10,rfl,hc12⟩:=(h.sl 0 Z).1.ix F;exact Ax 13 16383 hp10 hq10 ⟨he10.1,qC he10.2.1 (h.sl 0 Z).2⟩ (h.pick [0,1] Z) Z (Ao 14 32767 Z (qay qa 0 0 (W64 (y8+y9)) h Z hy10 hp10 hq10 Z hc12 Z Z Z Z Z Z Z fun _ h=>qbf (fun hs=>absurd (hs 14 (by decide)) (by decide)) (Ad (X0 6 Z (rK ⟨_,_,F,rfl,h⟩ Z)))))
 refine qq Z ?_;obtain rfl:=qb F;replace F:=hK2;refine X0 5 Z ?_;obtain rfl:=qb F;exact rO 0 h Z ⟨rfl,trivial⟩
def qjV (n:Nat)(b:qd)(x:qt):Option (qH×Int):=
 (qbH n (⟨b.Aa.Ab,b.Aa.Ah,b.Aa.Af⟩:qe)).bind fun r1=>
 (idx r1 (W64 (x.To.tdiv 2))).bind fun y1=>
 (idx b.Aa.Ab y1.instance_).bind fun y2=>
 (idx b.Ap.Am y2.Bp).bind fun y3=>
 (idx y3.Ak x.Bw).bind fun y4=>
 (qia n b y1.net).bind fun r2=>
 (idx r2 0).bind fun y5=>
 V (y4,y5)
theorem qnt {A:Nat→Prop}(hA:∀ b,A b→old w b){b:qd}{x:qt}(ha1:GoT.R w A b cs1)(ha2:GoT.R w A x cs2){r:(qH×Int)}(F:qjV n b x=V r):RetG prog 236 [GoT.v qd cs1,GoT.v qt cs2] w A r:=by
 obtain⟨p1,k1,p2,k2,p3,k3,p4,k4,p5,k5,rfl,s1,s2,s3,s4,_⟩:=qM ha1;obtain rfl:=qav ha2;have hg:=Rg.start hA;refine qnm func236 Z (m:=39) Z Z (fun h=>?_);refine zSR (qx h Z Z fun w1 bb1 h=>qx h Z Z fun _ bb2 h=>qp qa h Z Z Z fun _ bb3 h=>X0 3 Z ?_);obtain⟨r1,hr1,F⟩:=qc F;obtain⟨y1,hy1,F⟩:=qc F;refine qbe (fun e w'=>∃(bb8:Nat),e=[(2,.pointer (V ⟨bb1,0,U⟩)),(3,.pointer (V ⟨bb2,0,U⟩)),(4,.pointer (V ⟨bb3,0,U⟩)),(6,.pointer (V ⟨bb8,0,U⟩))]∧SH w w' [Ch.box bb8 (qlo y1) 261,Ch.box bb3 [.int .i64 0,.int .i64 0,.int .i64 0,.int .i64 0,.slice U 0 0,.slice U 0 0] 254,Ch.box bb2 (qkv x) 187,Ch.box bb1 (qT b p1 p2 p3 p4 p5 k1 k2 k3 k4 k5) 53]) ?_ ?_
 ·refine rA [9] [1,2] h Z fun _ h=>M2 59 [0,1,3,4,5] 1 0 (h.pick [1,2] Z) Z (At 2 8 63 315 Z ?_ ?_)
  ·refine qhC r1 h (cB 171 Z) (qbz (qao _ (h.oldS (s2.mono hg.old)) (h.oldS (s3.mono hg.old)) (h.oldS (s4.mono hg.old))) hr1) Z Z Z Z fun _ _ _ _ h=>Ag (h.pick [2,3] Z) ?_;have he4:=qcT hy1;obtain⟨_,o_4,_,_,hp4,hq4,-,hr5,_⟩:=(h.sl 0 Z).1.at hy1;obtain rfl:=qbp hr5;refine Ax 6 127 hp4 hq4 ⟨he4.1,qC he4.2.1 (h.sl 0 Z).2⟩ (h.pick [2,3] Z) Z (At 7 8 255 383 Z ?_ ?_)
   ·refine r_v (qhX qa (qbY h 0 Z hy1 hp4 hq4 (qet (w:=w) (S:=fun _=>False) y1)) (j:=0) Z Z Z) Z (Ag (h.pick [2,3] Z) (Ao 8 511 Z (qp qa h Z Z Z fun _ _ h=>Ag (h.pick [3,4] Z) (Ao 9 1023 Z (zs 0 h Z fun _ h=>qbf (fun hs=>absurd (hs 9 (by decide)) (by decide)) (Ad ?_))))));replace h:=h.pick [0,2,3,4] Z;exact rG ⟨_,rfl,h⟩ Z
   refine qp qa h Z Z Z fun _ _ h=>Ag (h.pick [3,4] Z) (Ao 7 511 Z (r_v (qhX qa (qbY h 1 Z hy1 hp4 hq4 (qet (w:=w) (S:=fun _=>False) y1)) (j:=0) Z Z Z) Z (Ag (h.pick [3,4] Z) (Ao 9 1023 Z (zs 0 h Z fun _ h=>qbf (fun hs=>absurd (hs 9 (by decide)) (by decide)) (Ad ?_))))));replace h:=h.pick [0,2,3,4] Z;exact rG ⟨_,rfl,h⟩ Z
  refine qp qa h Z Z Z fun _ _ h=>Ag (h.pick [2,3] Z) (Ao 2 319 Z (qhC r1 h (cB 171 Z) (qbz (qao _ (h.oldS (s2.mono hg.old)) (h.oldS (s3.mono hg.old)) (h.oldS (s4.mono hg.old))) hr1) Z Z Z Z fun _ _ _ _ h=>Ag (h.pick [3,4] Z) ?_));have he5:=qcT hy1;obtain⟨_,o_5,_,_,hp5,hq5,-,hr6,_⟩:=(h.sl 0 Z).1.at hy1;obtain rfl:=qbp hr6;refine Ax 6 383 hp5 hq5 ⟨he5.1,qC he5.2.1 (h.sl 0 Z).2⟩ (h.pick [3,4] Z) Z (Ao 7 511 Z (r_v (qhX qa (qbY h 0 Z hy1 hp5 hq5 (qet (w:=w) (S:=fun _=>False) y1)) (j:=0) Z Z Z) Z (Ag (h.pick [3,4] Z) (Ao 9 1023 Z (zs 1 h Z fun _ h=>qbf (fun hs=>absurd (hs 9 (by decide)) (by decide)) (Ad ?_))))));replace h:=h.pick [1,2,3,4] Z;exact rG ⟨_,rfl,h⟩ Z
 rintro _ _ ⟨bb8,rfl,h⟩;refine qcQ (rA [] [0,2,3] h Z fun _ h=>M3 255 [0,1,2,3,4,5,6,7] 2 2 0 (h.pick [0,2,3] Z) Z ?_);obtain⟨_,_,F,he6,_,_,_,_,hp6,hq6,hr7,hc6⟩:=s2.ix F;obtain⟨_,_,rfl,_⟩:=qF hr7;refine Ae 8 511 hp6 hq6 he6 (h.pick [0,2,3] Z) Z (M0 1023 [9] (h.pick [0,2,3] Z) Z (Al 10 2047 1 hc6 (h.pick [0,2,3] Z) Z ?_));obtain⟨_,_,F,he7,_,_,_,_,hp7,hq7,hr8,hc7⟩:=s1.ix F;obtain⟨_,_,_,_,_,_,rfl,_,s8,_⟩:=qO hr8;refine Ae 11 4095 hp7 hq7 he7 (h.pick [0,2,3] Z) Z (M0 8191 [12] (h.pick [0,2,3] Z) Z (Al 13 16383 3 hc7 (h.pick [0,2,3] Z) Z (M1 65535 [14,15] 1 (h.pick [0,2,3] Z) Z ?_)));obtain⟨y4,_,F,he8,_,_,_,_,hp8,hq8,hr9,hc8⟩:=s8.ix F;obtain⟨p15,k15,p16,k16,rfl,s10,s11⟩:=qX hr9;refine Ae 16 131071 hp8 hq8 he8 (h.pick [0,2,3] Z) Z (Al 17 262143 0 hc8 (h.pick [0,2,3] Z) Z (M2 2097151 [18,19,20] 2 0 (h.pick [0,2,3] Z) Z (Ao 21 4194303 Z (zcL h F (ql1 (h.old (GoT.mono ha1 hg.old))) Z fun _ _ _ _ _ h F=>Ag (h.pick [1,3,4] Z) ?_))));obtain⟨y5,hy5,F,he9,_,_,_,_,hp9,hq9,rfl,_⟩:=(h.sl 0 Z).1.ix F;refine Ax 22 8388607 hp9 hq9 ⟨he9.1,qC he9.2.1 (h.sl 0 Z).2⟩ (h.pick [1,3,4] Z) Z (qnx (fun e w'=>e=[(4,.pointer (V ⟨bb3,0,U⟩)),(5,.int .i64 y5)]∧SH w w' [Ch.box bb8 (qlo y1) 261,Ch.box bb3 (qhc y4 p15 p16 k15 k16) 254,Ch.box bb2 (qkv x) 187,Ch.box bb1 (qT b p1 p2 p3 p4 p5 k1 k2 k3 k4 k5) 53]) 0 (bits 26 67108863) ?_ ?_)
 ·intro K;refine At 23 24 16777215 25165823 Z ?_ ?_
  ·refine r_v (qhX qa (qbY (w1:=w) (S1:=fun _=>False) h 0 Z hy5 hp9 hq9 Z) (j:=0) Z Z Z) Z (Ag (h.pick [1,3,4] Z) (Ao 24 33554431 Z (zs 2 h Z fun w30 h=>G0 67108863 [25] (h.pick [1,3,4] Z) Z ?_)));replace h:=h.pick [1,2,3,4] Z;exact qfK [(4,_),(5,_)] ⟨rfl,rfl,trivial⟩ (K _ _ ⟨rfl,h⟩)
  refine zs 2 h Z fun w30 h=>Ag (h.pick [1,3,4] Z) (Ao 23 33554431 Z (r_v (qhX qa (qbY (w1:=w) (S1:=fun _=>False) h 0 Z hy5 hp9 hq9 Z) (j:=0) Z Z Z) Z (G0 67108863 [25] (h.pick [1,3,4] Z) Z ?_)));replace h:=h.pick [1,2,3,4] Z;exact qfK [(4,_),(5,_)] ⟨rfl,rfl,trivial⟩ (K _ _ ⟨rfl,h⟩)
 rintro _ _ ⟨rfl,h⟩;refine Ad ?_;obtain rfl:=qb F;have hv1:GoRs.Rs (ρ:=(qH×Int)) h.wc (reg A w h.wc) (y4,y5) [GoT.v qH (qhc y4 p15 p16 k15 k16),GoT.v Int [.int .i64 y5]]:=⟨_,_,rfl,(hg.outR h (qfo y4 (hg.inS h s10) (hg.inS h s11))),⟨_,rfl,rfl⟩⟩;exact qu1 qa (ρ:=(qH×Int)) (r:=(y4,y5)) [GoT.v qH (qhc y4 p15 p16 k15 k16),GoT.v Int [.int .i64 y5]] h ⟨⟨_,_,_,rfl,rfl,h.box 1 Z,rfl⟩,rfl,trivial⟩ hv1
def qcE (_:Nat)(a:Int)(b:Int)(mode:Int):Option Int:=
 (quoS a b).bind fun y1=>
 (remS a b).bind fun y2=>
 (
  bif decide (y2<0) then V (mode==0) else
  V false).bind fun b1=>
 bif b1 then V (W64 (y1-1)) else
 bif decide (y2 > 0) then
  bif (mode==1) then V (W64 (y1+1)) else
  V y1
 else
  V y1
theorem qhq {a:Int}{b:Int}{mode:Int}  {r:Int}(F:qcE n a b mode=V r):RetV prog 239 [.int .i64 a,.int .i64 b,.int .i64 mode] w r:=by
 refine zV 32 func239 Z fun h=>X0 8 Z ?_;obtain⟨y1,hx1,F⟩:=qc F;obtain⟨g1,hx1⟩:=qr0 hx1;refine r_v (qzd g1 Z Z) Z ?_;rw[hx1];refine X0 6 Z ?_;obtain⟨y2,hx2,F⟩:=qc F;obtain⟨g2,hx2⟩:=qrY hx2;refine r_v (qy7 g2 Z Z) Z ?_;rw[hx2];refine X0 4 Z ?_;obtain⟨KF1,hKF1,_,F,hK1⟩:=bindE F;refine qbe (fun e w'=>∃(b1:Bool),KF1 b1=V r∧e=[(2,.int .i64 mode),(7,.int .i64 y1),(8,.int .i64 y2),(20,.bool b1)]∧SH w w' []) ?_ ?_
 ·refine X0 4 Z (qm (t:=17) F Z ?_ ?_)<;>intro F
  ·refine X0 6 Z ?_;obtain rfl:=qb F;exact rG ⟨_,hK1,rfl,h⟩ Z
  refine X0 4 Z ?_;obtain rfl:=qb F;exact rG ⟨_,hK1,rfl,h⟩ Z
 rintro _ _ ⟨b1,F,rfl,h⟩;subst hKF1;refine qh Z F ?_ ?_<;>intro F
 ·exact X0 6 Z (ri h F Z)
 refine X0 7 Z (qm (t:=25) F Z ?_ ?_)<;>intro F
 ·refine X0 6 Z (qh Z F ?_ ?_)<;>intro F
  ·exact X0 6 Z (ri h F Z)
  exact X0 6 Z (ri h F Z)
 exact X0 4 Z (qdi Z Z (X0 6 Z (ri h F Z)))
def qbG (axis:(List Int))(x:Int)(y1:Int)(y2:Int):Nat→Int→Option (Flow (Int×Int×Int) Int)
 | 0,_=>U
 | n+1,i1=>
  bif decide (i1 ≥ 0) then
   (idx axis i1).bind fun y3=>
   bif ((if y2<(if y1 > x then y1 else x) then y2 else(if y1 > x then y1 else x))==y3) then V (.ret (i1,1,0)) else
   (idx axis i1).bind fun y4=>
   bif decide ((if y2<(if y1 > x then y1 else x) then y2 else(if y1 > x then y1 else x)) > y4) then
    (idx axis (W64 (i1+1))).bind fun y5=>
    (idx axis i1).bind fun y6=>
    V (.ret (i1,W64 (y5-(if y2<(if y1 > x then y1 else x) then y2 else(if y1 > x then y1 else x))),W64 ((if y2<(if y1 > x then y1 else x) then y2 else(if y1 > x then y1 else x))-y6)))
   else
    qbG axis x y1 y2 n (W64 (i1-1))
  else
   V (.nxt i1)
def qfe (n:Nat)(axis:(List Int))(x:Int):Option (Int×Int×Int):=
 (idx axis 0).bind fun y1=>
 (idx axis (W64 ((axis.length:Int)-1))).bind fun y2=>
 (qbG axis x y1 y2 n (W64 ((axis.length:Int)-1))).bind fun o=>match o with
 | .ret r=>V r
 | .nxt _=>
  V (0,1,0)
theorem qkW {axis:(List Int)}{x:Int}(ha1:Ro w axis cs1){r:(Int×Int×Int)}(F:qfe n axis x=V r):RetV prog 280 [GoT.v (List Int) cs1,.int .i64 x] w r:=by
 obtain⟨p1,k1,rfl,s1⟩:=ha1;refine zV 56 func280 Z fun h=>X0 16 Z ?_;obtain⟨y1,_,F,he1,_,_,_,_,hp1,hq1,rfl,hc1⟩:=s1.ix F;refine zxe hp1 hq1 he1 Z (zc 0 (hc1.below h.below) Z (X0 9 Z ?_));obtain⟨y2,_,F,he2,_,_,_,_,hp2,hq2,rfl,hc2⟩:=s1.ix F;refine zxe hp2 hq2 he2 Z (zc 0 (hc2.below h.below) Z (X0 10 Z ?_));obtain⟨o1,F,hK1⟩:=qc F;refine qn (rL (fun m e w'=>∃(i1:Int),qbG axis x y1 y2 m i1=V o1∧e=[(0,.slice p1 axis.length k1),(1,.int .i64 (if y2<(if y1 > x then y1 else x) then y2 else(if y1 > x then y1 else x))),(8,.int .i64 i1)]∧SH w w' []) n ⟨_,F,rfl,h⟩ Z ?_);rintro m1 _ _ ⟨i1,F,rfl,h⟩;rcases m1 with _|m1
 ·cases F
 refine X0 6 Z (qh Z F ?_ ?_)<;>intro F
 ·refine X0 9 Z ?_;obtain⟨_,_,F,he3,_,_,_,_,hp3,hq3,rfl,hc4⟩:=s1.ix F;refine zxe hp3 hq3 he3 Z (zc 0 (hc4.below h.below) Z (X0 2 Z (qh Z F ?_ ?_)))<;>intro F
  ·refine X0 7 Z ?_;obtain rfl:=qb F;replace F:=hK1;obtain rfl:=qb F;exact qae qa (ρ:=(Int×Int×Int)) [GoT.v Int [.int .i64 i1],GoT.v Int [.int .i64 1],GoT.v Int [.int .i64 0]] h ⟨rfl,rfl,rfl,trivial⟩ (PV.done h (qap h (qA (S:=fun _=>False) Z) (qap h (qA (S:=fun _=>False) Z) (qaj (qA (S:=fun _=>False) Z)) (by rfl)) (by rfl)))
  refine X0 6 Z ?_;obtain⟨_,_,F,he4,_,_,_,_,hp4,hq4,rfl,hc6⟩:=s1.ix F;refine zxe hp4 hq4 he4 Z (zc 0 (hc6.below h.below) Z (X0 2 Z (qh Z F ?_ ?_)))<;>intro F
  ·refine qcQ (rD (zd4 Z ?_));obtain⟨y5,_,F,he5,_,_,_,_,hp5,hq5,rfl,hc8⟩:=s1.ix F;refine zdxe hp5 hq5 he5 Z (zdc 0 (hc8.below h.below) Z (zd5 Z ?_));obtain⟨y6,_,F,he6,_,_,_,_,hp6,hq6,rfl,hc9⟩:=s1.ix F;refine zdxe hp6 hq6 he6 Z (zdc 0 (hc9.below h.below) Z (zd4 Z (dN h fun _ h=>?_)));obtain rfl:=qb F;replace F:=hK1;obtain rfl:=qb F;exact qae qa (ρ:=(Int×Int×Int)) [GoT.v Int [.int .i64 i1],GoT.v Int [.int .i64 (W64 (y5-(if y2<(if y1 > x then y1 else x) then y2 else(if y1 > x then y1 else x))))],GoT.v Int [.int .i64 (W64 ((if y2<(if y1 > x then y1 else x) then y2 else(if y1 > x then y1 else x))-y6))]] h ⟨rfl,rfl,rfl,trivial⟩ (PV.done h (qap h (qA (S:=fun _=>False) Z) (qap h (qA (S:=fun _=>False) Z) (qaj (qA (S:=fun _=>False) Z)) (by rfl)) (by rfl)))
  exact X0 7 Z (rK ⟨_,F,rfl,h⟩ Z)
 refine qq Z ?_;obtain rfl:=qb F;replace F:=hK1;refine X0 6 Z ?_;obtain rfl:=qb F;exact qae qa (ρ:=(Int×Int×Int)) [GoT.v Int [.int .i64 0],GoT.v Int [.int .i64 1],GoT.v Int [.int .i64 0]] h ⟨rfl,rfl,rfl,trivial⟩ (PV.done h (qap h (qA (S:=fun _=>False) Z) (qap h (qA (S:=fun _=>False) Z) (qaj (qA (S:=fun _=>False) Z)) (by rfl)) (by rfl)))
def qcx (a_0:qu)(r2:Int)(r3:Int)(r4:Int)(r6:Int)(r7:Int)(r8:Int)(i2:Int):Nat→Int→Int→Option (Int×Int)
 | 0,_,_=>U
 | n+1,i3,i4=>
  bif decide (i4<2) then
   (
    bif (i2==1) then V r4 else
    V r3).bind fun i5=>
   (
    bif (i4==0) then V (W64 (i5*r7)) else
    V (W64 (i5*r8))).bind fun i6=>
   bif decide (i6 > 0) then
    (idx a_0.Az (W64 ((W64 ((W64 ((W64 (r2+i2))*(a_0.Bd.length:Int)))+r6))+i4))).bind fun y1=>
    qcx a_0 r2 r3 r4 r6 r7 r8 i2 n (W64 (i3+(W64 (i6*y1)))) (W64 (i4+1))
   else
    qcx a_0 r2 r3 r4 r6 r7 r8 i2 n i3 (W64 (i4+1))
  else
   V (i3,i4)
def qdZ (a_0:qu)(r2:Int)(r3:Int)(r4:Int)(r6:Int)(r7:Int)(r8:Int):Nat→Int→Int→Option (Int×Int)
 | 0,_,_=>U
 | n+1,i1,i2=>
  bif decide (i2<2) then
   (qcx a_0 r2 r3 r4 r6 r7 r8 i2 n i1 0).bind fun o=>match o with
   | (i3,_)=>
    qdZ a_0 r2 r3 r4 r6 r7 r8 n i3 (W64 (i2+1))
  else
   V (i1,i2)
def qhI (n:Nat)(a_0:qu)(a_1:Int)(a_2:Int)(a_3:Int):Option Int:=
 (qfe n a_0.Bl a_1).bind fun o=>match o with
  | (r2,r3,r4)=>
   (qfe n a_0.Bd a_2).bind fun o=>match o with
    | (r6,r7,r8)=>
     (qdZ a_0 r2 r3 r4 r6 r7 r8 n 0 0).bind fun o=>match o with
     | (i1,_)=>
      (qcE n i1 (W64 ((W64 (r3+r4))*(W64 (r7+r8)))) a_3).bind fun r9=>
      V r9
theorem qmL {a_0:qu}{a_1:Int}{a_2:Int}{a_3:Int}(ha1:Ro w a_0 cs1){r:Int}(F:qhI n a_0 a_1 a_2 a_3=V r):RetV prog 237 [GoT.v qu cs1,.int .i64 a_1,.int .i64 a_2,.int .i64 a_3] w r:=by
 obtain⟨p1,k1,p2,k2,p3,k3,rfl,s1,s2,s3⟩:=qaJ ha1;refine zV 88 func237 Z fun h=>zSR (qx h Z Z fun _ bb1 h=>X1 7 0 h Z ?_);obtain⟨r1,hr1,F⟩:=qc F;obtain⟨r2,r3,r4⟩:=r1;refine qa3 (r2,r3,r4) h (cB 280 Z) (qkW ⟨_,_,rfl,(h.oldS s1)⟩ hr1) Z Z Z Z fun _ _ _ hv1 hr2=>?_;obtain⟨_,_,rfl,hv2,hr3⟩:=hv1.consI hr2;obtain⟨_,_,rfl,hv3,hr4⟩:=hv2.consI hr3;obtain⟨rfl,h⟩:=hv3.lastI hr4;refine X1 13 0 h Z ?_;obtain⟨r5,hr6,F⟩:=qc F;obtain⟨r6,r7,r8⟩:=r5;refine qa3 (r6,r7,r8) h (cB 280 Z) (qkW ⟨_,_,rfl,(h.oldS s2)⟩ hr6) Z Z Z Z fun _ _ _ hv5 hr7=>?_;obtain⟨_,_,rfl,hv6,hr8⟩:=hv5.consI hr7;obtain⟨_,_,rfl,hv7,hr9⟩:=hv6.consI hr8;obtain⟨rfl,h⟩:=hv7.lastI hr9;refine X1 24 0 h Z ?_;obtain⟨o1,F,hK1⟩:=qc F;refine qn (rL (fun m e w'=>∃(i1:Int) (i2:Int),qdZ a_0 r2 r3 r4 r6 r7 r8 m i1 i2=V o1∧e=[(3,.int .i64 a_3),(4,.pointer (V ⟨bb1,0,U⟩)),(9,.int .i64 r2),(10,.int .i64 r3),(11,.int .i64 r4),(12,.int .i64 r6),(13,.int .i64 r7),(14,.int .i64 r8),(15,.int .i64 (a_0.Bd.length:Int)),(16,.int .i64 i1),(17,.int .i64 i2)]∧SH w w' [Ch.box bb1 (qhf a_0 p1 p2 p3 k1 k2 k3) 329]) n ⟨_,_,F,rfl,h⟩ Z ?_);rintro m1 _ _ ⟨i1,i2,F,rfl,h⟩;rcases m1 with _|m1
 ·cases F
 refine X0 6 Z (qh Z F ?_ ?_)<;>intro F
 ·refine X0 7 Z ?_;obtain⟨o2,F,hK2⟩:=qc F;refine qn (rL (fun m e w'=>∃(i3:Int) (i4:Int),qcx a_0 r2 r3 r4 r6 r7 r8 i2 m i3 i4=V o2∧e=[(3,.int .i64 a_3),(4,.pointer (V ⟨bb1,0,U⟩)),(9,.int .i64 r2),(10,.int .i64 r3),(11,.int .i64 r4),(12,.int .i64 r6),(13,.int .i64 r7),(14,.int .i64 r8),(15,.int .i64 (a_0.Bd.length:Int)),(16,.int .i64 i3),(17,.int .i64 i2),(18,.int .i64 i4)]∧SH w w' [Ch.box bb1 (qhf a_0 p1 p2 p3 k1 k2 k3) 329]) m1 ⟨_,_,F,rfl,h⟩ Z ?_);rintro m2 _ _ ⟨i3,i4,F,rfl,h⟩;rcases m2 with _|m2
  ·cases F
  refine X0 6 Z (qh Z F ?_ ?_)<;>intro F
  ·refine X0 14 Z ?_;obtain⟨KF2,hKF2,_,F,hK4⟩:=bindE F;refine qbe (fun e w'=>∃(i5:Int),KF2 i5=V o2∧e=[(3,.int .i64 a_3),(4,.pointer (V ⟨bb1,0,U⟩)),(9,.int .i64 r2),(10,.int .i64 r3),(11,.int .i64 r4),(12,.int .i64 r6),(13,.int .i64 r7),(14,.int .i64 r8),(15,.int .i64 (a_0.Bd.length:Int)),(16,.int .i64 i3),(17,.int .i64 i2),(18,.int .i64 i4),(19,.int .i64 i5)]∧SH w w' [Ch.box bb1 (qhf a_0 p1 p2 p3 k1 k2 k3) 329]) ?_ ?_
   ·refine qh Z F ?_ ?_<;>intro F
    ·refine X0 4 Z ?_;obtain rfl:=qb F;exact rG ⟨_,hK4,rfl,h⟩ Z
    refine qio ?_;obtain rfl:=qb F;exact rG ⟨_,hK4,rfl,h⟩ Z
   rintro _ _ ⟨i5,F,rfl,h⟩;subst hKF2;refine X0 6 Z ?_;obtain⟨KF1,hKF1,_,F,hK3⟩:=bindE F;refine qbe (fun e w'=>∃(i6:Int),KF1 i6=V o2∧e=[(3,.int .i64 a_3),(4,.pointer (V ⟨bb1,0,U⟩)),(9,.int .i64 r2),(10,.int .i64 r3),(11,.int .i64 r4),(12,.int .i64 r6),(13,.int .i64 r7),(14,.int .i64 r8),(15,.int .i64 (a_0.Bd.length:Int)),(16,.int .i64 i3),(17,.int .i64 i2),(18,.int .i64 i4),(19,.int .i64 i6)]∧SH w w' [Ch.box bb1 (qhf a_0 p1 p2 p3 k1 k2 k3) 329]) ?_ ?_
   ·refine qh Z F ?_ ?_<;>intro F
    ·refine X0 6 Z ?_;obtain rfl:=qb F;exact rG ⟨_,hK3,rfl,h⟩ Z
    refine X0 6 Z ?_;obtain rfl:=qb F;exact rG ⟨_,hK3,rfl,h⟩ Z
   rintro _ _ ⟨i6,F,rfl,h⟩;subst hKF1;refine X0 5 Z (qh Z F ?_ ?_)<;>intro F
   ·refine X1 14 0 h Z ?_;obtain⟨_,_,F,he1,_,_,_,_,hp1,hq1,rfl,hc4⟩:=s3.ix F;exact zxe hp1 hq1 he1 Z (zc 0 (hc4.below h.below) Z (X0 10 Z (rK ⟨_,_,F,rfl,h⟩ Z)))
   exact X0 7 Z (rK ⟨_,_,F,rfl,h⟩ Z)
  refine qq Z ?_;obtain rfl:=qb F;replace F:=hK2;exact X0 6 Z (rK ⟨_,_,F,rfl,h⟩ Z)
 refine qq Z ?_;obtain rfl:=qb F;replace F:=hK1;exact X0 11 Z (zcI h F qhq Z fun _ _ h F=>X0 2 Z (ri h F Z))
def qdS (y1:qG)(r1:(List Int)):Nat→(List Int)→Int→Option ((List Int)×Int)
 | 0,_,_=>U
 | n+1,x1,i1=>
  bif decide (i1<(r1.length:Int)) then
   (idx y1.Aj i1).bind fun y2=>
   (idx x1 y2).bind fun y3=>
   (idx y1.Bv i1).bind fun y4=>
   (idx r1 i1).bind fun y5=>
   (appS x1 ([W64 (y3+(W64 (y4*y5)))]:List Int)).bind fun x2=>
   qdS y1 r1 n x2 (W64 (i1+1))
  else
   V (x1,i1)
def qhe (n:Nat)(b:qd)(net:Int):Option (List Int):=
 (idx b.Ac net).bind fun y1=>
 (qia n b net).bind fun r1=>
 (qdS y1 r1 n ([0]:List Int) 1).bind fun o=>match o with
 | (x1,_)=>
  V x1
theorem qlk {b:qd}{net:Int}(ha1:Ro w b cs1){r:(List Int)}(F:qhe n b net=V r):RetV prog 281 [GoT.v qd cs1,.int .i64 net] w r:=by
 obtain⟨_,_,_,_,_,_,_,_,_,_,rfl,_,_,_,_,s5⟩:=qM ha1;refine zV 47 func281 Z fun h=>zSR (qx h Z Z fun w1 _ h=>X1 7 0 h Z ?_);obtain⟨y1,_,F,he1,_,_,_,_,hp1,hq1,hr1,hc1⟩:=s5.ix F;obtain⟨p6,k6,p7,k7,p8,k8,p9,k9,rfl,s6,s7,_,_⟩:=qaO hr1;refine zxe hp1 hq1 he1 Z (zc 0 (hc1.below h.below) Z (qp qa h Z Z Z fun _ bb2 h=>zs 0 h Z fun _ h=>X1 5 1 h Z (zcL h F (ql1 (h.old ha1)) Z fun r1 _ S1 p10 k10 h F=>X0 4 Z (qK qa [.const (.int .i64 (0))] _ ([0]:List Int) h Z Z Z Z Z Z Z Z Z ⟨rfl,trivial⟩ Z fun _ _ _ h=>X0 7 Z ?_))));obtain⟨o1,F,hK1⟩:=qc F;refine qn ?_;replace h:=h.pick [0,1,2] Z;refine rL (fun m e w'=>∃(S3:Nat→Prop) (p12:Option Addr) (ln1:Nat) (k11:Nat) (x1:(List Int)) (i1:Int),qdS y1 r1 m x1 i1=V o1∧e=[(5,.pointer (V ⟨bb2,0,U⟩)),(6,.slice p10 r1.length k10),(7,.slice p12 ln1 k11),(8,.int .i64 i1)]∧SH w w' [Ch.own S3 (x1:List Int) [.slice p12 ln1 k11],Ch.own S1 (r1:List Int) [.slice p10 r1.length k10],Ch.box bb2 (qg5 y1 p6 p7 p8 p9 k6 k7 k8 k9) 210]) n ⟨_,_,_,_,_,_,F,rfl,h⟩ Z ?_;rintro m1 _ _ ⟨S3,p12,ln1,k11,x1,i1,F,rfl,h⟩;obtain rfl:=(h.sl 0 Z).2;rcases m1 with _|m1
 ·cases F
 refine X0 8 Z (qh Z F ?_ ?_)<;>intro F
 ·refine zKSB (rA [] [1,2] h Z fun _ h=>M1 31 [0,1,2,3,4] 1 (h.pick [1,2] Z) Z ?_);obtain⟨_,_,F,he2,_,_,_,_,hp2,hq2,rfl,hc3⟩:=s6.ix F;refine Ae 5 63 hp2 hq2 he2 (h.pick [1,2] Z) Z (Al 6 127 0 hc3 (h.pick [1,2] Z) Z ?_);obtain⟨y3,_,F,he3,_,_,_,_,hp3,hq3,rfl,hc4⟩:=(h.sl 0 Z).1.ix F;refine Ax 7 255 hp3 hq3 ⟨he3.1,qC he3.2.1 (h.sl 0 Z).2⟩ (h.pick [1,2] Z) Z (M1 3839 [9,10,11] 1 (h.pick [1,2] Z) Z ?_);obtain⟨y4,_,F,he4,_,_,_,_,hp4,hq4,rfl,hc5⟩:=s7.ix F;refine Ae 12 7935 hp4 hq4 he4 (h.pick [1,2] Z) Z (Al 13 16127 0 hc5 (h.pick [1,2] Z) Z (M0 65279 [14,15] (h.pick [1,2] Z) Z ?_));obtain⟨y5,hy5,F,he5,_,_,_,_,hp5,hq5,rfl,_⟩:=(h.sl 1 Z).1.ix F;refine Ax 16 130815 hp5 hq5 ⟨he5.1,qC he5.2.1 (h.sl 1 Z).2⟩ (h.pick [1,2] Z) Z (Aw 17 261887 (fun w' hw=>qhX qa (qbY (w1:=w) (S1:=fun _=>False) hw 0 Z hy5 hp5 hq5 Z) (j:=0) Z Z Z) (h.pick [1,2] Z) Z ?_);refine M0 524031 [18] (h.pick [1,2] Z) Z (Ao 8 524287 Z (zc 0 hc4 Z (G0 1048575 [19] (h.pick [1,2] Z) Z (Ao 20 2097151 Z (qK qa [.tmp 43] _ ([W64 (y3+(W64 (y4*y5)))]:List Int) h Z Z Z Z Z Z Z Z Z ⟨rfl,trivial⟩ Z fun _ _ _ h=>Ag (h.pick [2,3] Z) (Ao 21 4194303 Z ?_))))));obtain⟨_,hx1,F⟩:=qc F;obtain⟨g1,hx1⟩:=qan hx1;refine qbW qa 1 h Z (h.sl 0 Z).1 (h.sl 0 Z).2 Z Z Z Z Z Z Z Z Z g1 hx1 Z fun _ _ _ _ h=>G0 8388607 [22] (h.pick [2,3] Z) Z (Ad (X0 6 Z ?_));replace h:=h.pick [1,2,3] Z;exact rK ⟨_,_,_,_,_,_,F,rfl,h⟩ Z
 refine qq Z ?_;obtain rfl:=qb F;replace F:=hK1;refine X0 5 Z ?_;obtain rfl:=qb F;exact rO 0 h Z ⟨rfl,trivial⟩
def qbV (b:qd)(net:Int)(mode:Int)(r1:(List Int)):Nat→(List Int)→Int→Option ((List Int)×Int)
 | 0,_,_=>U
 | n+1,x1,i1=>
  (idx b.Ac net).bind fun y1=>
  bif decide (i1<(y1.Bi.length:Int)) then
   (idx b.Ac net).bind fun y2=>
   (idx y2.Bi i1).bind fun y3=>
   (idx r1 y3).bind fun y4=>
   (qcE n y4 1000 mode).bind fun r2=>
   (appS x1 ([r2]:List Int)).bind fun x2=>
   qbV b net mode r1 n x2 (W64 (i1+1))
  else
   V (x1,i1)
def qgr (n:Nat)(b:qd)(net:Int)(mode:Int):Option (List Int):=
 (qhe n b net).bind fun r1=>
 (qbV b net mode r1 n ([]:List Int) 0).bind fun o=>match o with
 | (x1,_)=>
  V x1
theorem qmV {b:qd}{net:Int}{mode:Int}(ha1:Ro w b cs1){r:(List Int)}(F:qgr n b net mode=V r):RetV prog 238 [GoT.v qd cs1,.int .i64 net,.int .i64 mode] w r:=by
 obtain⟨p1,k1,p2,k2,p3,k3,p4,k4,p5,k5,rfl,_,_,_,_,s5⟩:=qM ha1;refine zV 43 func238 Z fun h=>zSR (qx h Z Z fun _ bb1 h=>X1 6 0 h Z (zcL h F (qlk (h.old ha1)) Z fun r1 _ S1 p6 k6 h F=>X0 4 Z (qK qa [] _ ([]:List Int) h Z Z Z Z Z Z Z Z Z trivial Z fun _ _ _ h=>X0 7 Z ?_)));obtain⟨o1,F,hK1⟩:=qc F;refine qn (rL (fun m e w'=>∃(S3:Nat→Prop) (p8:Option Addr) (ln1:Nat) (k7:Nat) (x1:(List Int)) (i1:Int),qbV b net mode r1 m x1 i1=V o1∧e=[(1,.int .i64 net),(2,.int .i64 mode),(3,.pointer (V ⟨bb1,0,U⟩)),(7,.slice p6 r1.length k6),(8,.slice p8 ln1 k7),(9,.int .i64 i1)]∧SH w w' [Ch.own S3 (x1:List Int) [.slice p8 ln1 k7],Ch.own S1 (r1:List Int) [.slice p6 r1.length k6],Ch.box bb1 (qT b p1 p2 p3 p4 p5 k1 k2 k3 k4 k5) 53]) n ⟨_,_,_,_,_,_,F,rfl,h⟩ Z ?_);rintro m1 _ _ ⟨S3,p8,ln1,k7,x1,i1,F,rfl,h⟩;obtain rfl:=(h.sl 0 Z).2;rcases m1 with _|m1
 ·cases F
 refine X1 7 2 h Z ?_;obtain⟨_,_,F,he1,_,_,_,_,hp1,hq1,hr2,hc1⟩:=s5.ix F;obtain⟨_,_,_,_,_,_,_,_,rfl,_,_,_,_⟩:=qaO hr2;refine zxe hp1 hq1 he1 Z (zp1 Z (zc 3 (hc1.below h.below) Z (X0 3 Z (qh Z F ?_ ?_))))<;>intro F
 ·refine X1 9 2 h Z ?_;obtain⟨_,_,F,he2,_,_,_,_,hp2,hq2,hr3,hc3⟩:=s5.ix F;obtain⟨_,_,_,_,_,_,_,_,rfl,_,_,_,s13⟩:=qaO hr3;refine zxe hp2 hq2 he2 Z (zp1 Z (zc 3 (hc3.below h.below) Z (zp1 Z ?_)));obtain⟨_,_,F,he3,_,_,_,_,hp3,hq3,rfl,hc4⟩:=s13.ix F;refine zxe hp3 hq3 he3 Z (zc 0 (hc4.below h.below) Z ?_);obtain⟨_,_,F,he4,_,_,_,_,hp4,hq4,rfl,hc5⟩:=(h.sl 1 Z).1.ix F;refine zx hp4 hq4 ⟨he4.1,qC he4.2.1 (h.sl 1 Z).2⟩ Z (zc 0 hc5 Z (zp1 Z (zcI h F qhq Z fun r2 _ h F=>qK qa [.tmp 39] _ ([r2]:List Int) h Z Z Z Z Z Z Z Z Z ⟨rfl,trivial⟩ Z fun _ _ _ h=>?_)));obtain⟨_,hx1,F⟩:=qc F;obtain⟨g1,hx1⟩:=qan hx1;refine qbW qa 1 h Z (h.sl 0 Z).1 (h.sl 0 Z).2 Z Z Z Z Z Z Z Z Z g1 hx1 Z fun _ _ _ _ h=>X0 8 Z ?_;replace h:=h.pick [1,2,3] Z;exact rK ⟨_,_,_,_,_,_,F,rfl,h⟩ Z
 refine qq Z ?_;obtain rfl:=qb F;replace F:=hK1;refine X0 5 Z ?_;obtain rfl:=qb F;exact rO 0 h Z ⟨rfl,trivial⟩
def qhj (_:Nat)(c:qy)(kind:Int)(mode:Int):Option Int:=
 bif (kind==1) then
  bif (mode==0) then V c.Be else
  V c.Bh
 else
  bif (mode==0) then V c.Bf else
  V c.Bj
theorem qlG {c:qy}{kind:Int}{mode:Int}(ha1:Ro w c cs1){r:Int}(F:qhj n c kind mode=V r):RetV prog 240 [GoT.v qy cs1,.int .i64 kind,.int .i64 mode] w r:=by
 obtain rfl:=qag ha1;refine zV 21 func240 Z fun h=>zSR (qx h Z Z fun _ _ h=>X0 8 Z (qh Z F ?_ ?_))<;>intro F
 ·refine X0 6 Z (qh Z F ?_ ?_)<;>intro F
  ·exact X1 6 0 h Z (ri h F Z)
  exact X1 7 0 h Z (ri h F Z)
 refine X0 7 Z (qh Z F ?_ ?_)<;>intro F
 ·exact X1 6 0 h Z (ri h F Z)
 exact X1 7 0 h Z (ri h F Z)
def qca (n:Nat)(b:qd)(c:qy)(x:qt)(slew:Int)(mode:Int):Option Int:=
 bif (x.Aq==1) then
  (qjV n b x).bind fun o=>match o with
   | (r2,r3)=>
    (idx r2.Bk (x.To.tmod 2)).bind fun y1=>
    (qhI n y1 slew r3 mode).bind fun r4=>
    (qhj n c x.Aq mode).bind fun r5=>
    (qcE n (W64 (r4*r5)) 1000 mode).bind fun r6=>
    V r6
 else
  (qj6 n b x).bind fun r7=>
  (qgr n b r7 mode).bind fun r8=>
  (idx r8 x.Bw).bind fun y2=>
  (qhj n c x.Aq mode).bind fun r9=>
  (qcE n (W64 (y2*r9)) 1000 mode).bind fun r10=>
  V r10
theorem qcD {b:qd}{c:qy}{x:qt}{slew:Int}{mode:Int}(ha1:Ro w b cs1)(ha2:Ro w c cs2)(ha3:Ro w x cs3){r:Int}(F:qca n b c x slew mode=V r):RetV prog 173 [GoT.v qd cs1,GoT.v qy cs2,GoT.v qt cs3,.int .i64 slew,.int .i64 mode] w r:=by
 obtain⟨_,_,_,_,_,_,_,_,_,_,rfl,_,_,_,_,_⟩:=qM ha1;obtain rfl:=qag ha2;obtain rfl:=qav ha3;refine zV 53 func173 Z fun h=>zSR (qx h Z Z fun _ _ h=>qx h Z Z fun _ _ h=>qx h Z Z fun _ _ h=>X1 13 0 h Z (qh Z F ?_ ?_))<;>intro F
 ·refine X2 4 2 0 h Z ?_;have hg1:Rg (old w) w (old w) w:=.start (fun _ h=>h);obtain⟨r1,hr1,F⟩:=qc F;obtain⟨r2,r3⟩:=r1;refine qnC (r2,r3) hg1 h (cB 236 Z) (qnt (hg1.regOld h) (hg1.inR h ha1) (hg1.inR h ha3) hr1) Z Z Z Z fun _ _ _ hg2 hu1 hz1 hv1=>?_;have hL1:=h.ext hu1.below;have hc2:=Up.box 1 h hu1 Z;have s6:=Up.R hg1 h hu1 ha2;have ha4:=Up.boxP (x:=c) hg1 1 h hu1 Z (hg1.inR h ha2);have hc3:=Up.box 0 h hu1 Z;have s7:=Up.R hg1 h hu1 ha3;have ha5:=Up.boxP (x:=x) hg1 0 h hu1 Z (hg1.inR h ha3);have hb1:=h.below.trans (hu1.below.mono h.below.size);replace h:=hz1;obtain⟨_,_,rfl,hr2,hv2⟩:=qvj hv1;have ha6:=hr2;obtain⟨_,_,_,_,rfl,s8,_⟩:=qX hr2;obtain⟨_,rfl,hr3⟩:=qon hv2;obtain rfl:=hr3;refine zp3 Z (qp qa h Z Z Z fun _ _ h=>zs 0 h Z fun _ h=>X1 6 0 h Z (zc 1 (hc3.below h.below) Z (zp1 Z ?_)));obtain⟨y1,_,F,he1,_,_,_,_,hp1,hq1,hr4,hc4⟩:=s8.ix F;obtain⟨_,_,_,_,_,_,rfl,s10,s11,s12⟩:=qaJ hr4;refine zxe hp1 hq1 he1 Z (zc 0 (hc4.below h.below) Z (zp3 Z (zcI h F (qmL (qfE y1 (h.oldS (s10.mono hg2.old)) (h.oldS (s11.mono hg2.old)) (h.oldS (s12.mono hg2.old)))) Z fun _ _ h F=>X0 5 Z (zc 0 (hc2.below h.below) Z (zp1 Z (zc 2 (hc3.below h.below) Z (zp1 Z (zcI h F (qlG (h.old (GoT.mono s6 hg2.old))) Z fun _ _ h F=>zp2 Z (zcI h F qhq Z fun _ _ h F=>X0 2 Z ?_)))))))));replace h:=h.unbase hg2.below ⟨fun _ h=>h,trivial⟩;exact ri h F Z
 refine rA [] [0,2] h Z fun _ h=>M4 215 [0,1,2,4,6,7] 1 1 0 0 (h.pick [0,2] Z) Z (Ao 3 223 Z (zcI h F (qni (h.old ha1) (h.old ha3)) Z fun _ _ h F=>Ag (h.pick [0,2] Z) (Ao 5 255 Z (zcL h F (qmV (h.old ha1)) Z fun _ _ _ _ _ h F=>Ag (h.pick [1,3] Z) ?_))));obtain⟨_,_,F,he2,_,_,_,_,hp2,hq2,rfl,hc5⟩:=(h.sl 0 Z).1.ix F;exact Ax 8 511 hp2 hq2 ⟨he2.1,qC he2.2.1 (h.sl 0 Z).2⟩ (h.pick [1,3] Z) Z (Ao 9 1023 Z (zc 0 hc5 Z (G0 2047 [10] (h.pick [1,3] Z) Z (Ad (X2 7 2 1 h Z (zcI h F (qlG (h.old ha2)) Z fun _ _ h F=>zp2 Z (zcI h F qhq Z fun _ _ h F=>X0 2 Z (ri h F Z))))))))
def qd9 (a_n:Int):Nat→Int→Int→Option (Int×Int)
 | 0,_,_=>U
 | n+1,i1,i2=>
  bif decide (i1<i2) then
   bif decide ((W64 ((W64 ((W64 ((W64 (i1+i2))+1)).tdiv 2))*(W64 ((W64 ((W64 (i1+i2))+1)).tdiv 2))))≤a_n) then qd9 a_n n (W64 ((W64 ((W64 (i1+i2))+1)).tdiv 2)) i2 else
   qd9 a_n n i1 (W64 ((W64 ((W64 ((W64 (i1+i2))+1)).tdiv 2))-1))
  else
   V (i1,i2)
def qi8 (n:Nat)(a_n:Int)(mode:Int):Option Int:=
 (qd9 a_n n 0 2000000000).bind fun o=>match o with
 | (i1,_)=>
  bif (mode==1) then
   bif decide ((W64 (i1*i1))<a_n) then V (W64 (i1+1)) else
   V i1
  else
   V i1
theorem qp3 {a_n:Int}{mode:Int}  {r:Int}(F:qi8 n a_n mode=V r):RetV prog 314 [.int .i64 a_n,.int .i64 mode] w r:=by
 refine zV 36 func314 Z fun h=>X0 10 Z ?_;obtain⟨o1,F,hK1⟩:=qc F;refine qn (rL (fun m e w'=>∃(i1:Int) (i2:Int),qd9 a_n m i1 i2=V o1∧e=[(0,.int .i64 a_n),(1,.int .i64 mode),(5,.int .i64 i1),(6,.int .i64 i2)]∧SH w w' []) n ⟨_,_,F,rfl,h⟩ Z ?_);rintro m1 _ _ ⟨i1,i2,F,rfl,h⟩;rcases m1 with _|m1
 ·cases F
 refine X0 7 Z (qh Z F ?_ ?_)<;>intro F
 ·refine X0 19 Z (qh Z F ?_ ?_)<;>intro F
  ·exact X0 5 Z (rK ⟨_,_,F,rfl,h⟩ Z)
  exact X0 6 Z (rK ⟨_,_,F,rfl,h⟩ Z)
 refine qq Z ?_;obtain rfl:=qb F;replace F:=hK1;refine X0 6 Z (qm (t:=26) F Z ?_ ?_)<;>intro F
 ·refine X0 12 Z (qh Z F ?_ ?_)<;>intro F
  ·exact X0 10 Z (ri h F Z)
  exact X0 6 Z (ri h F Z)
 exact X0 7 Z (qdi Z Z (X0 6 Z (ri h F Z)))
def qmG (n:Nat)(b:qd)(net:Int)(sink:Int)(slew:Int)(mode:Int):Option Int:=
 (idx b.Ac net).bind fun y1=>
 (idx y1.Bi sink).bind fun y2=>
 (qhe n b net).bind fun r1=>
 (idx r1 y2).bind fun y3=>
 (qi8 n (W64 ((W64 ((W64 (1000000*slew))*slew))+(W64 ((W64 (4*y3))*y3)))) mode).bind fun r2=>
 (qcE n r2 1000 mode).bind fun r3=>
 V r3
theorem qqd {b:qd}{net:Int}{sink:Int}{slew:Int}{mode:Int}(ha1:Ro w b cs1){r:Int}(F:qmG n b net sink slew mode=V r):RetV prog 296 [GoT.v qd cs1,.int .i64 net,.int .i64 sink,.int .i64 slew,.int .i64 mode] w r:=by
 obtain⟨_,_,_,_,_,_,_,_,_,_,rfl,_,_,_,_,s5⟩:=qM ha1;refine zV 39 func296 Z fun h=>zSR (qx h Z Z fun _ _ h=>X0 3 Z (rA [] [0] h Z fun _ h=>M2 59 [0,1,3,4,5] 0 0 (h.pick [0] Z) Z ?_));obtain⟨_,_,F,he1,_,_,_,_,hp1,hq1,hr1,hc1⟩:=s5.ix F;obtain⟨_,_,_,_,_,_,_,_,rfl,_,_,_,s9⟩:=qaO hr1;refine Ae 6 123 hp1 hq1 he1 (h.pick [0] Z) Z (M0 251 [7] (h.pick [0] Z) Z (Al 8 507 3 hc1 (h.pick [0] Z) Z (M0 1019 [9] (h.pick [0] Z) Z ?_)));obtain⟨_,_,F,he2,_,_,_,_,hp2,hq2,rfl,hc2⟩:=s9.ix F;refine Ae 10 2043 hp2 hq2 he2 (h.pick [0] Z) Z (Al 11 4091 0 hc2 (h.pick [0] Z) Z (Ao 2 4095 Z (zcL h F (qlk (h.old ha1)) Z fun _ _ _ _ _ h F=>Ag (h.pick [1] Z) ?_)));obtain⟨_,_,F,he3,_,_,_,_,hp3,hq3,rfl,hc3⟩:=(h.sl 0 Z).1.ix F;exact Ax 12 8191 hp3 hq3 ⟨he3.1,qC he3.2.1 (h.sl 0 Z).2⟩ (h.pick [1] Z) Z (Ao 13 16383 Z (zc 0 hc3 Z (G0 32767 [14] (h.pick [1] Z) Z (Ad (X0 12 Z (zcI h F qp3 Z fun _ _ h F=>zp1 Z (zcI h F qhq Z fun _ _ h F=>X0 2 Z (ri h F Z))))))))
def qeg (n:Nat)(b:qd)(x:qt)(slew:Int)(mode:Int):Option Int:=
 bif (x.Aq==1) then
  (qjV n b x).bind fun o=>match o with
   | (r2,r3)=>
    (idx r2.Ba (x.To.tmod 2)).bind fun y1=>
    (qhI n y1 slew r3 mode).bind fun r4=>
    V r4
 else
  (qj6 n b x).bind fun r5=>
  (qmG n b r5 x.Bw slew mode).bind fun r6=>
  V (if r6<1000000 then r6 else 1000000)
theorem qd1 {b:qd}{x:qt}{slew:Int}{mode:Int}(ha1:Ro w b cs1)(ha2:Ro w x cs2){r:Int}(F:qeg n b x slew mode=V r):RetV prog 259 [GoT.v qd cs1,GoT.v qt cs2,.int .i64 slew,.int .i64 mode] w r:=by
 obtain⟨_,_,_,_,_,_,_,_,_,_,rfl,_,_,_,_,_⟩:=qM ha1;obtain rfl:=qav ha2;refine zV 41 func259 Z fun h=>zSR (qx h Z Z fun _ _ h=>qx h Z Z fun _ _ h=>X1 9 0 h Z (qh Z F ?_ ?_))<;>intro F
 ·refine X2 4 1 0 h Z ?_;have hg1:Rg (old w) w (old w) w:=.start (fun _ h=>h);obtain⟨r1,hr1,F⟩:=qc F;obtain⟨r2,r3⟩:=r1;refine qnC (r2,r3) hg1 h (cB 236 Z) (qnt (hg1.regOld h) (hg1.inR h ha1) (hg1.inR h ha2) hr1) Z Z Z Z fun _ _ _ hg2 hu1 hz1 hv1=>?_;have hL1:=h.ext hu1.below;have hc2:=Up.box 0 h hu1 Z;have s6:=Up.R hg1 h hu1 ha2;have ha3:=Up.boxP (x:=x) hg1 0 h hu1 Z (hg1.inR h ha2);have hb1:=h.below.trans (hu1.below.mono h.below.size);replace h:=hz1;obtain⟨_,_,rfl,hr2,hv2⟩:=qvj hv1;have ha4:=hr2;obtain⟨_,_,_,_,rfl,_,s8⟩:=qX hr2;obtain⟨_,rfl,hr3⟩:=qon hv2;obtain rfl:=hr3;refine zp3 Z (qp qa h Z Z Z fun _ _ h=>zs 0 h Z fun _ h=>X1 7 0 h Z (zc 1 (hc2.below h.below) Z (zp1 Z ?_)));obtain⟨y1,_,F,he1,_,_,_,_,hp1,hq1,hr4,hc3⟩:=s8.ix F;obtain⟨_,_,_,_,_,_,rfl,s9,s10,s11⟩:=qaJ hr4;refine zxe hp1 hq1 he1 Z (zc 0 (hc3.below h.below) Z (zp3 Z (zcI h F (qmL (qfE y1 (h.oldS (s9.mono hg2.old)) (h.oldS (s10.mono hg2.old)) (h.oldS (s11.mono hg2.old)))) Z fun _ _ h F=>X0 2 Z ?_)));replace h:=h.unbase hg2.below ⟨fun _ h=>h,trivial⟩;exact ri h F Z
 refine zKS (rD (Y1 1 1 h Z ?_));refine Y1 1 1 h Z ?_;refine Y1 1 0 h Z ?_;obtain⟨r5,hr6,F⟩:=qc F;refine qbJ r5 (vsI _) (cB 219 Z) (fun _ hb=>qni ((h.ext hb).old ha1) ((h.ext hb).old ha2) hr6) Z Z Z Z (Y1 2 0 h Z ?_);refine zd2 Z ?_;obtain⟨r6,hr7,F⟩:=qc F;exact qbJ r6 (vsI _) (cB 296 Z) (fun _ hb=>qqd ((h.ext hb).old ha1) hr7) Z Z Z Z (zd2 Z (dN h fun _ h=>ri h F Z))
def qh1 (n:Nat)(a_0:qd)(a_1:qy)(a_2:qt)(a_3:qi):Option (qi×qi):=
 (qca n a_0 a_1 a_2 a_3.Ar 0).bind fun r1=>
 (qca n a_0 a_1 a_2 a_3.Ar 1).bind fun r2=>
 (qeg n a_0 a_2 a_3.Ar 0).bind fun r3=>
 (qeg n a_0 a_2 a_3.Ar 1).bind fun r4=>
 (qca n a_0 a_1 a_2 a_3.Ay 0).bind fun r5=>
 (qca n a_0 a_1 a_2 a_3.Ay 1).bind fun r6=>
 (qeg n a_0 a_2 a_3.Ay 0).bind fun r7=>
 (qeg n a_0 a_2 a_3.Ay 1).bind fun r8=>
 V ((⟨(if r5<r1 then r5 else r1),(if r6 > r2 then r6 else r2)⟩:qi),(⟨(if r7<r3 then r7 else r3),(if r8 > r4 then r8 else r4)⟩:qi))
theorem qfU {a_0:qd}{a_1:qy}{a_2:qt}{a_3:qi}(ha1:Ro w a_0 cs1)(ha2:Ro w a_1 cs2)(ha3:Ro w a_2 cs3)(ha4:Ro w a_3 cs4){r:(qi×qi)}(F:qh1 n a_0 a_1 a_2 a_3=V r):RetV prog 218 [GoT.v qd cs1,GoT.v qy cs2,GoT.v qt cs3,GoT.v qi cs4] w r:=by
 obtain⟨p1,k1,p2,k2,p3,k3,p4,k4,p5,k5,rfl,_,_,_,_,_⟩:=qM ha1;obtain rfl:=qag ha2;obtain rfl:=qav ha3;obtain rfl:=qD ha4;refine zV 76 func218 Z fun h=>zSR (qx h Z Z fun _ bb1 h=>qx h Z Z fun _ bb2 h=>qx h Z Z fun _ bb3 h=>qx h Z Z fun _ bb4 h=>qp qa h Z Z Z fun _ bb5 h=>qp qa h Z Z Z fun _ bb6 h=>zNS ?_);obtain⟨r1,hr1,F⟩:=qc F;obtain⟨r2,hr2,F⟩:=qc F;refine qbe (fun e w'=>∃(bb11:Nat),e=[(4,.pointer (V ⟨bb1,0,U⟩)),(5,.pointer (V ⟨bb2,0,U⟩)),(6,.pointer (V ⟨bb3,0,U⟩)),(7,.pointer (V ⟨bb4,0,U⟩)),(8,.pointer (V ⟨bb5,0,U⟩)),(9,.pointer (V ⟨bb6,0,U⟩)),(10,.pointer (V ⟨bb11,0,U⟩))]∧SH w w' [Ch.box bb11 [.int .i64 r1,.int .i64 r2] 138,Ch.box bb6 [.int .i64 0,.int .i64 0] 138,Ch.box bb5 [.int .i64 0,.int .i64 0] 138,Ch.box bb4 (qi0 a_3) 138,Ch.box bb3 (qkv a_2) 187,Ch.box bb2 (qad a_1) 77,Ch.box bb1 (qT a_0 p1 p2 p3 p4 p5 k1 k2 k3 k4 k5) 53]) ?_ ?_
 ·refine rA [14] [2,3,4,5] h Z fun _ h=>M4 31 [0,1,2,3,4] 3 2 1 0 (h.pick [2,3,4,5] Z) Z (M4 2015 [6,7,8,9,10] 3 2 1 0 (h.pick [2,3,4,5] Z) Z (At 5 13 2047 10207 Z ?_ ?_))
  ·refine qcv r1 h (cB 173 Z) (qcD (h.old ha1) (h.old ha2) (h.old ha3) hr1) Z Z Z Z fun _ h=>Ag (h.pick [2,3,4,5] Z) (At 11 13 4095 10239 Z ?_ ?_)
   ·refine qcv r2 h (cB 173 Z) (qcD (h.old ha1) (h.old ha2) (h.old ha3) hr2) Z Z Z Z fun _ h=>Ag (h.pick [2,3,4,5] Z) (Aw 12 8191 (fun w' hw=>qJ qa [0,1] [.tmp 17,.tmp 23] Z Z Z Z Z Z Z Z) (h.pick [2,3,4,5] Z) Z ?_);exact Ao 13 16383 Z (qp qa h Z Z Z fun _ _ h=>Ag (h.pick [3,4,5,6] Z) (Ao 14 32767 Z (zs 0 h Z fun _ h=>qbf (fun hs=>absurd (hs 14 (by decide)) (by decide)) (Ad (rG ⟨_,rfl,h⟩ Z)))))
   refine qp qa h Z Z Z fun _ _ h=>Ag (h.pick [3,4,5,6] Z) (Ao 11 12287 Z (qcv r2 h (cB 173 Z) (qcD (h.old ha1) (h.old ha2) (h.old ha3) hr2) Z Z Z Z fun _ h=>Ag (h.pick [3,4,5,6] Z) (Aw 12 16383 (fun w' hw=>qJ qa [0,1] [.tmp 17,.tmp 23] Z Z Z Z Z Z Z Z) (h.pick [3,4,5,6] Z) Z ?_)));exact Ao 14 32767 Z (zs 0 h Z fun _ h=>qbf (fun hs=>absurd (hs 14 (by decide)) (by decide)) (Ad (rG ⟨_,rfl,h⟩ Z)))
  refine qp qa h Z Z Z fun _ _ h=>Ag (h.pick [3,4,5,6] Z) (Ao 5 10239 Z (qcv r1 h (cB 173 Z) (qcD (h.old ha1) (h.old ha2) (h.old ha3) hr1) Z Z Z Z fun _ h=>Ag (h.pick [3,4,5,6] Z) (Ao 11 12287 Z (qcv r2 h (cB 173 Z) (qcD (h.old ha1) (h.old ha2) (h.old ha3) hr2) Z Z Z Z fun _ h=>Ag (h.pick [3,4,5,6] Z) (Aw 12 16383 (fun w' hw=>qJ qa [0,1] [.tmp 17,.tmp 23] Z Z Z Z Z Z Z Z) (h.pick [3,4,5,6] Z) Z ?_)))));exact Ao 14 32767 Z (zs 0 h Z fun _ h=>qbf (fun hs=>absurd (hs 14 (by decide)) (by decide)) (Ad (rG ⟨_,rfl,h⟩ Z)))
 rintro _ _ ⟨bb11,rfl,h⟩;refine qcQ ?_;obtain⟨r3,hr3,F⟩:=qc F;obtain⟨r4,hr4,F⟩:=qc F;refine qbe (fun e w'=>∃(bb19:Nat),e=[(4,.pointer (V ⟨bb1,0,U⟩)),(5,.pointer (V ⟨bb2,0,U⟩)),(6,.pointer (V ⟨bb3,0,U⟩)),(7,.pointer (V ⟨bb4,0,U⟩)),(8,.pointer (V ⟨bb5,0,U⟩)),(9,.pointer (V ⟨bb6,0,U⟩)),(10,.pointer (V ⟨bb11,0,U⟩)),(11,.pointer (V ⟨bb19,0,U⟩))]∧SH w w' [Ch.box bb19 [.int .i64 r3,.int .i64 r4] 138,Ch.box bb11 [.int .i64 r1,.int .i64 r2] 138,Ch.box bb6 [.int .i64 0,.int .i64 0] 138,Ch.box bb5 [.int .i64 0,.int .i64 0] 138,Ch.box bb4 (qi0 a_3) 138,Ch.box bb3 (qkv a_2) 187,Ch.box bb2 (qad a_1) 77,Ch.box bb1 (qT a_0 p1 p2 p3 p4 p5 k1 k2 k3 k4 k5) 53]) ?_ ?_
 ·refine rA [12] [3,4,6] h Z fun _ h=>M4 47 [0,1,2,3,5] 2 1 0 2 (h.pick [3,4,6] Z) Z (M2 495 [6,7,8] 1 0 (h.pick [3,4,6] Z) Z (At 4 11 511 2543 Z ?_ ?_))
  ·refine qcv r3 h (cB 259 Z) (qd1 (h.old ha1) (h.old ha3) hr3) Z Z Z Z fun _ h=>Ag (h.pick [3,4,6] Z) (At 9 11 1023 2559 Z ?_ ?_)
   ·refine qcv r4 h (cB 259 Z) (qd1 (h.old ha1) (h.old ha3) hr4) Z Z Z Z fun _ h=>Ag (h.pick [3,4,6] Z) (Aw 10 2047 (fun w' hw=>qJ qa [0,1] [.tmp 29,.tmp 34] Z Z Z Z Z Z Z Z) (h.pick [3,4,6] Z) Z ?_);exact Ao 11 4095 Z (qp qa h Z Z Z fun _ _ h=>Ag (h.pick [4,5,7] Z) (Ao 12 8191 Z (zs 0 h Z fun _ h=>qbf (fun hs=>absurd (hs 12 (by decide)) (by decide)) (Ad (rG ⟨_,rfl,h⟩ Z)))))
   refine qp qa h Z Z Z fun _ _ h=>Ag (h.pick [4,5,7] Z) (Ao 9 3071 Z (qcv r4 h (cB 259 Z) (qd1 (h.old ha1) (h.old ha3) hr4) Z Z Z Z fun _ h=>Ag (h.pick [4,5,7] Z) (Aw 10 4095 (fun w' hw=>qJ qa [0,1] [.tmp 29,.tmp 34] Z Z Z Z Z Z Z Z) (h.pick [4,5,7] Z) Z ?_)));exact Ao 12 8191 Z (zs 0 h Z fun _ h=>qbf (fun hs=>absurd (hs 12 (by decide)) (by decide)) (Ad (rG ⟨_,rfl,h⟩ Z)))
  refine qp qa h Z Z Z fun _ _ h=>Ag (h.pick [4,5,7] Z) (Ao 4 2559 Z (qcv r3 h (cB 259 Z) (qd1 (h.old ha1) (h.old ha3) hr3) Z Z Z Z fun _ h=>Ag (h.pick [4,5,7] Z) (Ao 9 3071 Z (qcv r4 h (cB 259 Z) (qd1 (h.old ha1) (h.old ha3) hr4) Z Z Z Z fun _ h=>Ag (h.pick [4,5,7] Z) (Aw 10 4095 (fun w' hw=>qJ qa [0,1] [.tmp 29,.tmp 34] Z Z Z Z Z Z Z Z) (h.pick [4,5,7] Z) Z ?_)))));exact Ao 12 8191 Z (zs 0 h Z fun _ h=>qbf (fun hs=>absurd (hs 12 (by decide)) (by decide)) (Ad (rG ⟨_,rfl,h⟩ Z)))
 rintro _ _ ⟨bb19,rfl,h⟩;refine qcQ (rA [10] [1,4,5,6,7] h Z fun _ h=>M4 63 [0,1,2,3,4,5] 0 4 3 2 (h.pick [1,4,5,6,7] Z) Z (M1 127 [6] 1 (h.pick [1,4,5,6,7] Z) Z (Ao 7 255 Z (zcI h F (qcD (h.old ha1) (h.old ha2) (h.old ha3)) Z fun r5 _ h F=>G0 1023 [8,9] (h.pick [1,4,5,6,7] Z) Z (Ao 10 2047 Z (zs 1 h Z fun _ h=>qbf (fun hs=>absurd (hs 10 (by decide)) (by decide)) (Ad (qcQ (rA [10] [1,4,5,6,7] h Z fun _ h=>M4 63 [0,1,2,3,4,5] 0 4 3 2 (h.pick [1,4,5,6,7] Z) Z (M1 127 [6] 1 (h.pick [1,4,5,6,7] Z) Z (Ao 7 255 Z (zcI h F (qcD (h.old ha1) (h.old ha2) (h.old ha3)) Z fun r6 _ h F=>G0 1023 [8,9] (h.pick [1,4,5,6,7] Z) Z (Ao 10 2047 Z (zs 1 h Z fun _ h=>qbf (fun hs=>absurd (hs 10 (by decide)) (by decide)) (Ad (qcQ (rA [9] [0,4,5,7] h Z fun _ h=>M4 63 [0,1,2,3,4,5] 0 3 2 1 (h.pick [0,4,5,7] Z) Z (Ao 6 127 Z (zcI h F (qd1 (h.old ha1) (h.old ha3)) Z fun r7 _ h F=>G0 511 [7,8] (h.pick [0,4,5,7] Z) Z (Ao 9 1023 Z (zs 0 h Z fun _ h=>qbf (fun hs=>absurd (hs 9 (by decide)) (by decide)) (Ad (qcQ (rA [9] [0,4,5,7] h Z fun _ h=>M4 63 [0,1,2,3,4,5] 0 3 2 1 (h.pick [0,4,5,7] Z) Z (Ao 6 127 Z (zcI h F (qd1 (h.old ha1) (h.old ha3)) Z fun r8 _ h F=>G0 511 [7,8] (h.pick [0,4,5,7] Z) Z (Ao 9 1023 Z (zs 0 h Z fun _ h=>qbf (fun hs=>absurd (hs 9 (by decide)) (by decide)) (Ad (qcQ (rA [] [0,1] h Z fun _ h=>M2 3 [0,1] 1 0 (h.pick [0,1] Z) Z (Ao 2 7 Z (zs 3 h Z fun _ h=>Ag (h.pick [0,1] Z) (Ao 3 15 Z (zs 2 h Z fun _ h=>Ag (h.pick [0,1] Z) (Ad ?_))))))))))))))))))))))))))))))))))));obtain rfl:=qb F;exact qae qa (ρ:=(qi×qi)) [GoT.v qi [.int .i64 (if r5<r1 then r5 else r1),.int .i64 (if r6 > r2 then r6 else r2)],GoT.v qi [.int .i64 (if r7<r3 then r7 else r3),.int .i64 (if r8 > r4 then r8 else r4)]] h ⟨⟨_,_,_,rfl,rfl,h.box 3 Z,rfl⟩,⟨_,_,_,rfl,rfl,h.box 2 Z,rfl⟩,trivial⟩ (PV.done h (qap h (qA (S:=fun _=>False) (qP (⟨(if r5<r1 then r5 else r1),(if r6 > r2 then r6 else r2)⟩:qi))) (qaj (qA (S:=fun _=>False) (qP (⟨(if r7<r3 then r7 else r3),(if r8 > r4 then r8 else r4)⟩:qi)))) (by rfl)))
end Go.Fw
