/- By a program of mine (gen.py): for each function a plain function and the proof that the code computes it. -/
import Derived.Test.YteofoidaapgdkaaGreatDoorU2
import Derived.Test.YteofoidaapgdkaaGreatDoorB7
import Derived.Test.YteofoidaapgdkaaGreatDoorR1
import Derived.Test.YteofoidaapgdkaaGreatDoorA2
import Derived.Test.YteofoidaapgdkaaGreatDoorFw31
open Option renaming bind_some → jd, some → V, none → U
open Nat renaming le_refl → je, le_of_ble_eq_true → jr, mul_le_mul_right → js, lt_of_lt_of_le → jv, succ_mul → jM, zero_add → Jg
open Bool renaming and_eq_true → jf, eq_iff_iff → jj, not_eq_true' → jD, true_and → jG, not_true → jW
open Go.Result renaming andThen_ok → jg
open List renaming length_append → jh, getElem?_eq_getElem → ji, mem_cons_of_mem → jn, getElem_mem → jo, append_assoc → jp, length_singleton → jt, length_map → ju, getElem?_append_left → jw, mem_cons_self → jx, take_succ_eq_append_getElem → jy, getElem?_take → jz, length_cons → jA, getElem?_append_right → jB, getD_eq_getElem?_getD → jC, getElem?_toArray → jE, map_append → jF, take_length → jH, eq_nil_of_length_eq_zero → jK, drop_eq_getElem_cons → jL, all_eq_true → jN, not_mem_nil → jO, getElem_of_mem → jP, length_replicate → jQ, size_toArray → jR, mem_of_getElem? → jS, mem_append_left → jT, length_nil → jV, append_nil → jX, ext_getElem → jZ, mem_cons → Jb, getElem?_map → Jc, range_succ → Je, length_take → Jf
open Go.Sem renaming run_bind → jk, run_pure → jm
open Int renaming toNat_natCast → jq, tdiv_eq_ediv_of_nonneg → jJ, mul_nonneg → jU, le_refl → jY, mul_assoc → Ja, mul_le_mul → Jd
open Array renaming getElem?_append_left → jI

namespace Go.Fw
open Go Go.Proofs Go.Proofs.Tryz
open Go.RowKit (Below)
set_option maxRecDepth 100000
set_option maxHeartbeats 1600000
variable {n:Nat}{w:World}{cs1 cs2 cs3 cs4 cs5 cs6 cs7 cs8 cs9:List Value}
def qbj (a_0:qd)(a_1:qy)(a_5:Int)(r2:(List Int))(r3:(List Int))(r4:(List qt))(i1:Int)(r12:qB):Nat→(List qf)→Int→Option (Flow (qg×Int) ((List qf)×Int))
 | 0,_,_=>U
 | n+1,x4,i2=>
  bif decide (i2<(r2.length:Int)) then
   (idx r2 i2).bind fun y4=>
   (idx r3 i2).bind fun y5=>
   (qki n a_0 r12 y4 y5).bind fun r14=>
   bif decide (r14<0) then qbj a_0 a_1 a_5 r2 r3 r4 i1 r12 n x4 (W64 (i2+1)) else
   (idx r2 i1).bind fun y6=>
   (qid n a_0 a_1 r4 y6).bind fun r15=>
   (
    bif decide ((W64 (r14+r15)) > 100000) then V true else
    V ((x4.length:Int)==60)).bind fun b9=>
   bif b9 then V (.ret ((⟨[],[]⟩:qg),3)) else
   (appS x4 ([(⟨i1,i2,W64 (r14+r15),a_5⟩:qf)]:List qf)).bind fun x5=>
   qbj a_0 a_1 a_5 r2 r3 r4 i1 r12 n x5 (W64 (i2+1))
  else
   V (.nxt (x4,i2))
def qbP (a_0:qd)(a_1:qy)(a_3:Int)(a_4:Int)(a_5:Int)(r2:(List Int))(r3:(List Int))(r4:(List qt))(r5:(List Bool))(r8:(List Int)):Nat→(List qf)→(List qE)→Int→Option (Flow (qg×Int) ((List qf)×(List qE)×Int))
 | 0,_,_,_=>U
 | n+1,x1,x2,i1=>
  bif decide (i1<(r2.length:Int)) then
   (appS x2 ([(⟨a_3,a_4⟩:qE)]:List qE)).bind fun x3=>
   (idx r2 i1).bind fun y1=>
   (idx a_0.Aa.Ab y1).bind fun y2=>
   (idx r2 i1).bind fun y3=>
   (qgn n (⟨a_0.Aa.Ab,a_0.Aa.Ah,a_0.Aa.Af⟩:qe) y3 (W64 ((y2.Ah.length:Int)-1))).bind fun r10=>
   (qjP n a_0 a_1 r4 r5 ([(⟨W64 (2*r10),(⟨0,0⟩:qi),(⟨0,0⟩:qi)⟩:qw),(⟨W64 ((W64 (2*r10))+1),(⟨0,0⟩:qi),(⟨0,0⟩:qi)⟩:qw)]:List qw) r8).bind fun o=>match o with
    | (r12,r13)=>
     bif (!r13) then V (.ret ((⟨[],[]⟩:qg),3)) else
     (qbj a_0 a_1 a_5 r2 r3 r4 i1 r12 n x1 0).bind fun o=>match o with
     | .ret r=>V (.ret r)
     | .nxt (x4,_)=>
      qbP a_0 a_1 a_3 a_4 a_5 r2 r3 r4 r5 r8 n x4 x3 (W64 (i1+1))
  else
   V (.nxt (x1,x2,i1))
def qeW (n:Nat)(a_0:qd)(a_1:qy)(a_2:(List Int))(a_3:Int)(a_4:Int)(a_5:Int):Option (qg×Int):=
 (
  (qhS n a_0).bind fun r20=>
  bif (!r20) then V true else
  (qh5 n a_1).bind fun r21=>
  V (!r21)).bind fun b1=>
 bif b1 then V ((⟨[],[]⟩:qg),1) else
 (
  (qiR n a_0 a_2).bind fun r16=>
  bif (r16 != 0) then V true else
  (qaq n a_3 0 100000).bind fun r17=>
  bif (!r17) then V true else
  (qaq n a_4 a_3 100000).bind fun r18=>
  bif (!r18) then V true else
  (qaq n a_5 0 100000).bind fun r19=>
  V (!r19)).bind fun b2=>
 bif b2 then V ((⟨[],[]⟩:qg),2) else
 (qic n a_0).bind fun o=>match o with
  | (r2,r3)=>
   bif decide ((r2.length:Int) > 12) then V ((⟨[],[]⟩:qg),3) else
   (qhZ n a_0).bind fun r4=>
   (qkn n a_0 r4 a_2).bind fun r5=>
   (qh2 n a_0).bind fun r6=>
   (qjH n r6 r4 r5).bind fun o=>match o with
    | (r8,r9)=>
     bif (!r9) then V ((⟨[],[]⟩:qg),7) else
     (qbP a_0 a_1 a_3 a_4 a_5 r2 r3 r4 r5 r8 n ([]:List qf) ([]:List qE) 0).bind fun o=>match o with
     | .ret r=>V r
     | .nxt (x1,x2,_)=>
      V ((⟨x2,x1⟩:qg),0)
theorem qdl {a_0:qd}{a_1:qy}{a_2:(List Int)}{a_3:Int}{a_4:Int}{a_5:Int}(ha1:Ro w a_0 cs1)(ha2:Ro w a_1 cs2)(ha3:Ro w a_2 cs3){r:(qg×Int)}(F:qeW n a_0 a_1 a_2 a_3 a_4 a_5=V r):RetV prog 36 [GoT.v qd cs1,GoT.v qy cs2,GoT.v (List Int) cs3,.int .i64 a_3,.int .i64 a_4,.int .i64 a_5] w r:=by
 obtain⟨p1,k1,p2,k2,p3,k3,p4,k4,p5,k5,rfl,_,s2,s3,s4,_⟩:=qM ha1;obtain rfl:=qag ha2;obtain⟨p6,k6,rfl,s6⟩:=ha3;refine zV 186 func36 Z fun h=>zSR (qx h Z Z fun _ bb1 h=>qx h Z Z fun _ bb2 h=>qp qa h Z Z Z fun _ bb3 h=>X0 4 Z ?_);obtain⟨KF3,hKF3,_,F,hK5⟩:=bindE F;refine qbe (fun e w'=>∃(b1:Bool),KF3 b1=V r∧e=[(2,.slice p6 a_2.length k6),(3,.int .i64 a_3),(4,.int .i64 a_4),(5,.int .i64 a_5),(6,.pointer (V ⟨bb1,0,U⟩)),(7,.pointer (V ⟨bb2,0,U⟩)),(12,.pointer (V ⟨bb3,0,U⟩)),(36,.bool b1)]∧SH w w' [Ch.box bb3 [.slice U 0 0,.slice U 0 0] 91,Ch.box bb2 (qad a_1) 77,Ch.box bb1 (qT a_0 p1 p2 p3 p4 p5 k1 k2 k3 k4 k5) 53]) ?_ ?_
 ·refine X1 2 2 h Z (zcB h F (qmJ (h.old ha1)) Z fun _ _ h F=>zp2 Z (qm (t:=32) F Z ?_ ?_))<;>intro F
  ·refine X0 5 Z ?_;obtain rfl:=qb F;exact rG ⟨_,hK5,rfl,h⟩ Z
  refine X1 3 1 h Z (zcB h F (qpH (h.old ha2)) Z fun _ _ h F=>X0 4 Z ?_);obtain rfl:=qb F;exact rG ⟨_,hK5,rfl,h⟩ Z
 rintro _ _ ⟨b1,F,rfl,h⟩;subst hKF3;refine qh Z F ?_ ?_<;>intro F
 ·refine zSR (r_v (qJ qa [] [] Z Z Z Z Z Z Z Z) Z (zs 0 h Z fun _ h=>X0 2 Z ?_));obtain rfl:=qb F;exact qae qa (ρ:=(qg×Int)) [GoT.v qg [.slice U 0 0,.slice U 0 0],GoT.v Int [.int .i64 1]] h ⟨⟨_,_,_,rfl,rfl,h.box 0 Z,rfl⟩,rfl,trivial⟩ (PV.done h (qap h (qaS (⟨[],[]⟩:qg) h qb8 qb8 (by rfl)) (qaj (qA (S:=fun _=>False) Z)) (by rfl)))
 refine zKSS ?_;obtain⟨KF2,hKF2,_,F,hK4⟩:=bindE F;refine qbe (fun e w'=>∃(b2:Bool),KF2 b2=V r∧e=[(2,.slice p6 a_2.length k6),(3,.int .i64 a_3),(4,.int .i64 a_4),(5,.int .i64 a_5),(6,.pointer (V ⟨bb1,0,U⟩)),(7,.pointer (V ⟨bb2,0,U⟩)),(12,.pointer (V ⟨bb3,0,U⟩)),(57,.bool b2)]∧SH w w' [Ch.box bb3 [.slice U 0 0,.slice U 0 0] 91,Ch.box bb2 (qad a_1) 77,Ch.box bb1 (qT a_0 p1 p2 p3 p4 p5 k1 k2 k3 k4 k5) 53]) ?_ ?_
 ·refine X1 3 2 h Z (zcI h F (qqn (h.old ha1) ⟨_,_,rfl,(h.oldS s6)⟩) Z fun _ _ h F=>zp2 Z (qm (t:=42) F Z ?_ ?_))<;>intro F
  ·refine X0 16 Z ?_;obtain rfl:=qb F;exact rG ⟨_,hK4,rfl,h⟩ Z
  refine X0 3 Z (zcB h F qai Z fun _ _ h F=>X0 4 Z (qm (t:=47) F Z ?_ ?_))<;>intro F
  ·refine X0 11 Z ?_;obtain rfl:=qb F;exact rG ⟨_,hK4,rfl,h⟩ Z
  refine X0 5 Z (zcB h F qai Z fun _ _ h F=>X0 4 Z (qm (t:=53) F Z ?_ ?_))<;>intro F
  ·refine X0 5 Z ?_;obtain rfl:=qb F;exact rG ⟨_,hK4,rfl,h⟩ Z
  refine X0 3 Z (zcB h F qai Z fun _ _ h F=>X0 4 Z ?_);obtain rfl:=qb F;exact rG ⟨_,hK4,rfl,h⟩ Z
 rintro _ _ ⟨b2,F,rfl,h⟩;subst hKF2;refine qh Z F ?_ ?_<;>intro F
 ·refine zSR (r_v (qJ qa [] [] Z Z Z Z Z Z Z Z) Z (zs 0 h Z fun _ h=>X0 2 Z ?_));obtain rfl:=qb F;exact qae qa (ρ:=(qg×Int)) [GoT.v qg [.slice U 0 0,.slice U 0 0],GoT.v Int [.int .i64 2]] h ⟨⟨_,_,_,rfl,rfl,h.box 0 Z,rfl⟩,rfl,trivial⟩ (PV.done h (qap h (qaS (⟨[],[]⟩:qg) h qb8 qb8 (by rfl)) (qaj (qA (S:=fun _=>False) Z)) (by rfl)))
 refine X1 4 2 h Z ?_;obtain⟨r1,hr1,F⟩:=qc F;obtain⟨r2,r3⟩:=r1;refine qa3 (r2,r3) h (cB 92 Z) (qn9 (h.old ha1) hr1) Z Z Z Z fun _ _ _ hv1 hr2=>?_;obtain⟨S2,S3,p7,k7,_,rfl,hv2,hr3⟩:=hv1.consL hr2;obtain⟨p8,k8,rfl,h⟩:=hv2.lastL hr3;refine X0 13 Z (qh Z F ?_ ?_)<;>intro F
 ·refine zSR (r_v (qJ qa [] [] Z Z Z Z Z Z Z Z) Z (zs 2 h Z fun _ h=>X0 2 Z ?_));obtain rfl:=qb F;exact qae qa (ρ:=(qg×Int)) [GoT.v qg [.slice U 0 0,.slice U 0 0],GoT.v Int [.int .i64 3]] h ⟨⟨_,_,_,rfl,rfl,h.box 2 Z,rfl⟩,rfl,trivial⟩ (PV.done h (qap h (qaS (⟨[],[]⟩:qg) h qb8 qb8 (by rfl)) (qaj (qA (S:=fun _=>False) Z)) (by rfl)))
 refine X1 4 4 h Z (zcL h F (qma (h.old ha1)) Z fun r4 _ S5 p9 k9 h F=>X1 7 5 h Z (zcL h F (qqe (h.old ha1) (h.own 0 Z) ⟨_,_,rfl,(h.oldS s6)⟩) Z fun r5 _ S6 p10 k10 h F=>X1 5 6 h Z (zcI h F (ql6 (h.old ha1)) Z fun _ _ h F=>zp2 Z ?_)));obtain⟨r7,hr8,F⟩:=qc F;obtain⟨r8,r9⟩:=r7;refine qa3 (r8,r9) h (cB 95 Z) (qpm (h.own 1 Z) (h.own 0 Z) hr8) Z Z Z Z fun _ _ _ hv4 hr9=>?_;obtain⟨S8,_,p11,k11,_,rfl,hv5,hr10⟩:=hv4.consL hr9;obtain⟨rfl,h⟩:=hv5.lastB hr10;refine X0 12 Z (qh Z F ?_ ?_)<;>intro F
 ·refine zSR (r_v (qJ qa [] [] Z Z Z Z Z Z Z Z) Z (zs 5 h Z fun _ h=>X0 2 Z ?_));obtain rfl:=qb F;exact qae qa (ρ:=(qg×Int)) [GoT.v qg [.slice U 0 0,.slice U 0 0],GoT.v Int [.int .i64 7]] h ⟨⟨_,_,_,rfl,rfl,h.box 5 Z,rfl⟩,rfl,trivial⟩ (PV.done h (qap h (qaS (⟨[],[]⟩:qg) h qb8 qb8 (by rfl)) (qaj (qA (S:=fun _=>False) Z)) (by rfl)))
 refine zKSR (qK qa [] _ ([]:List qE) h Z Z Z Z Z Z Z Z Z trivial Z fun _ _ _ h=>qK qa [] _ ([]:List qf) h Z Z Z Z Z Z Z Z Z trivial Z fun _ _ _ h=>X0 8 Z ?_);obtain⟨o1,F,hK1⟩:=qc F;refine qn (rL (fun m e w'=>∃(S13:Nat→Prop) (p14:Option Addr) (ln1:Nat) (k12:Nat) (x1:(List qf)) (S14:Nat→Prop) (p15:Option Addr) (ln2:Nat) (k13:Nat) (x2:(List qE)) (i1:Int),qbP a_0 a_1 a_3 a_4 a_5 r2 r3 r4 r5 r8 m x1 x2 i1=V o1∧e=[(3,.int .i64 a_3),(4,.int .i64 a_4),(5,.int .i64 a_5),(6,.pointer (V ⟨bb1,0,U⟩)),(7,.pointer (V ⟨bb2,0,U⟩)),(12,.pointer (V ⟨bb3,0,U⟩)),(14,.slice p7 r2.length k7),(15,.slice p8 r3.length k8),(16,.slice p9 r4.length k9),(17,.slice p10 r5.length k10),(18,.slice p11 r8.length k11),(20,.slice p15 ln2 k13),(21,.slice p14 ln1 k12),(22,.int .i64 i1)]∧SH w w' [Ch.own S13 (x1:List qf) [.slice p14 ln1 k12],Ch.own S14 (x2:List qE) [.slice p15 ln2 k13],Ch.own S8 (r8:List Int) [.slice p11 r8.length k11],Ch.own S6 (r5:List Bool) [.slice p10 r5.length k10],Ch.own S5 (r4:List qt) [.slice p9 r4.length k9],Ch.own S3 (r3:List Int) [.slice p8 r3.length k8],Ch.own S2 (r2:List Int) [.slice p7 r2.length k7],Ch.box bb3 [.slice U 0 0,.slice U 0 0] 91,Ch.box bb2 (qad a_1) 77,Ch.box bb1 (qT a_0 p1 p2 p3 p4 p5 k1 k2 k3 k4 k5) 53]) n ⟨_,_,_,_,_,_,_,_,_,_,_,F,rfl,h⟩ Z ?_);rintro m1 _ _ ⟨S13,p14,ln1,k12,x1,S14,p15,ln2,k13,x2,i1,F,rfl,h⟩;obtain rfl:=(h.sl 0 Z).2;obtain rfl:=(h.sl 1 Z).2;rcases m1 with _|m1
 ·cases F
 refine X0 8 Z (qh Z F ?_ ?_)<;>intro F
 ·refine X0 8 Z (r_v (qJ qa [0,1] [.tmp 94,.tmp 95] Z Z Z Z Z Z Z Z) Z (qK qa [.tmp 96] _ ([(⟨a_3,a_4⟩:qE)]:List qE) h Z Z Z Z Z Z Z Z Z ⟨(qhv (⟨a_3,a_4⟩:qE)),trivial⟩ Z fun _ _ _ h=>?_));obtain⟨x3,hx1,F⟩:=qc F;obtain⟨g1,hx1⟩:=qan hx1;refine qbW qa 2 h Z (h.sl 0 Z).1 (h.sl 0 Z).2 Z Z Z Z Z Z Z Z Z g1 hx1 Z fun _ p17 k14 S16 h=>X0 3 Z (rD (Y1 3 10 h Z ?_));refine zd2 Z ?_;obtain⟨_,_,F,he1,_,_,_,_,hp1,hq1,rfl,hc6⟩:=(h.sl 7 Z).1.ix F;refine zdx hp1 hq1 ⟨he1.1,qC he1.2.1 (h.sl 7 Z).2⟩ Z (zdc 0 hc6 Z ?_);obtain⟨_,_,F,he2,_,_,_,_,hp2,hq2,hr13,hc7⟩:=s2.ix F;obtain⟨_,_,rfl,_⟩:=qF hr13;refine zdxe hp2 hq2 he2 Z (zd1 Z (zdc 2 (hc7.below h.below) Z (zd3 Z (dN h fun _ h=>qcQ (rD (Y1 2 10 h Z ?_))))));refine zd2 Z ?_;obtain⟨_,_,F,he3,_,_,_,_,hp3,hq3,rfl,hc8⟩:=(h.sl 7 Z).1.ix F;refine zdx hp3 hq3 ⟨he3.1,qC he3.2.1 (h.sl 7 Z).2⟩ Z (zdc 0 hc8 Z (zd1 Z ?_));obtain⟨r10,hr15,F⟩:=qc F;refine qbJ r10 (vsI _) (cB 97 Z) (fun _ hb=>qii (qao _ ((h.ext hb).oldS s2) ((h.ext hb).oldS s3) ((h.ext hb).oldS s4)) hr15) Z Z Z Z (zd2 Z (dN h fun _ h=>X2 7 10 9 h Z (r_v (qJ qa [0] [.tmp 125] Z Z Z Z Z Z Z Z) Z (zp2 Z (r_v (qJ qa [0] [.tmp 128] Z Z Z Z Z Z Z Z) Z (qK qa [.tmp 126,.tmp 129] _ ([(⟨W64 (2*r10),(⟨0,0⟩:qi),(⟨0,0⟩:qi)⟩:qw),(⟨W64 ((W64 (2*r10))+1),(⟨0,0⟩:qi),(⟨0,0⟩:qi)⟩:qw)]:List qw) h Z Z Z Z Z Z Z Z Z ⟨(qer (⟨W64 (2*r10),(⟨0,0⟩:qi),(⟨0,0⟩:qi)⟩:qw)),(qer (⟨W64 ((W64 (2*r10))+1),(⟨0,0⟩:qi),(⟨0,0⟩:qi)⟩:qw)),trivial⟩ Z fun _ _ _ h=>zp1 Z ?_))))));obtain⟨r11,hr16,F⟩:=qc F;obtain⟨r12,r13⟩:=r11;refine qa3 (r12,r13) h (cB 98 Z) (qqX (h.old ha1) (h.old ha2) (h.own 6 Z) (h.own 5 Z) (h.own 0 Z) (h.own 4 Z) hr16) Z Z Z Z fun _ _ _ hv7 hr17=>?_;obtain⟨S19,_,_,_,rfl,hv8,hr18⟩:=hv7.cons hr17;obtain⟨p20,k16,p21,k17,p22,k18,rfl,-,-,-⟩:=qfi (hv8.sh.own 0 Z);obtain⟨rfl,h⟩:=hv8.lastB hr18;refine zp3 Z (qp qa h Z Z Z fun _ bb4 h=>zs 0 h Z fun _ h=>X0 8 Z (qh Z F ?_ ?_))<;>intro F
  ·refine zSR (r_v (qJ qa [] [] Z Z Z Z Z Z Z Z) Z (zs 11 h Z fun _ h=>X0 2 Z ?_));obtain rfl:=qb F;replace F:=hK1;obtain rfl:=qb F;exact qae qa (ρ:=(qg×Int)) [GoT.v qg [.slice U 0 0,.slice U 0 0],GoT.v Int [.int .i64 3]] h ⟨⟨_,_,_,rfl,rfl,h.box 11 Z,rfl⟩,rfl,trivial⟩ (PV.done h (qap h (qaS (⟨[],[]⟩:qg) h qb8 qb8 (by rfl)) (qaj (qA (S:=fun _=>False) Z)) (by rfl)))
  refine X0 5 Z ?_;obtain⟨o2,F,hK2⟩:=qc F;refine qn ?_;replace h:=h.pick [0,1,4,5,6,7,8,9,10,11,12,13] Z;refine rL (fun m e w'=>∃(S22:Nat→Prop) (p23:Option Addr) (ln3:Nat) (k19:Nat) (x4:(List qf)) (i2:Int),qbj a_0 a_1 a_5 r2 r3 r4 i1 r12 m x4 i2=V o2∧e=[(3,.int .i64 a_3),(4,.int .i64 a_4),(5,.int .i64 a_5),(6,.pointer (V ⟨bb1,0,U⟩)),(7,.pointer (V ⟨bb2,0,U⟩)),(12,.pointer (V ⟨bb3,0,U⟩)),(14,.slice p7 r2.length k7),(15,.slice p8 r3.length k8),(16,.slice p9 r4.length k9),(17,.slice p10 r5.length k10),(18,.slice p11 r8.length k11),(20,.slice p17 x3.length k14),(21,.slice p23 ln3 k19),(22,.int .i64 i1),(25,.pointer (V ⟨bb4,0,U⟩)),(27,.int .i64 i2)]∧SH w w' [Ch.box bb4 (qbd r12 p20 p21 p22 k16 k17 k18) 57,Ch.own S19 (r12:qB) (qbd r12 p20 p21 p22 k16 k17 k18),Ch.own S22 (x4:List qf) [.slice p23 ln3 k19],Ch.own S16 (x3:List qE) [.slice p17 x3.length k14],Ch.own S8 (r8:List Int) [.slice p11 r8.length k11],Ch.own S6 (r5:List Bool) [.slice p10 r5.length k10],Ch.own S5 (r4:List qt) [.slice p9 r4.length k9],Ch.own S3 (r3:List Int) [.slice p8 r3.length k8],Ch.own S2 (r2:List Int) [.slice p7 r2.length k7],Ch.box bb3 [.slice U 0 0,.slice U 0 0] 91,Ch.box bb2 (qad a_1) 77,Ch.box bb1 (qT a_0 p1 p2 p3 p4 p5 k1 k2 k3 k4 k5) 53]) m1 ⟨_,_,_,_,_,_,F,rfl,h⟩ Z ?_;rintro m2 _ _ ⟨S22,p23,ln3,k19,x4,i2,F,rfl,h⟩;obtain rfl:=(h.sl 2 Z).2;rcases m2 with _|m2
  ·cases F
  refine X0 8 Z (qh Z F ?_ ?_)<;>intro F
  ·refine X0 4 Z (rD (Y1 1 11 h Z ?_));refine Y1 1 0 h Z ?_;refine zd2 Z ?_;obtain⟨_,_,F,he4,_,_,_,_,hp4,hq4,rfl,hc11⟩:=(h.sl 8 Z).1.ix F;refine zdx hp4 hq4 ⟨he4.1,qC he4.2.1 (h.sl 8 Z).2⟩ Z (zdc 0 hc11 Z (zd2 Z ?_));obtain⟨_,_,F,he5,_,_,_,_,hp5,hq5,rfl,hc12⟩:=(h.sl 7 Z).1.ix F;refine zdx hp5 hq5 ⟨he5.1,qC he5.2.1 (h.sl 7 Z).2⟩ Z (zdc 0 hc12 Z ?_);obtain⟨r14,hr22,F⟩:=qc F;refine qbJ r14 (vsI _) (cB 99 Z) (fun _ hb=>qp8 ((h.ext hb).old ha1) ((h.ext hb).own 1 Z) hr22) Z Z Z Z (zd1 Z (dN h fun _ h=>X0 6 Z (qh Z F ?_ ?_)))<;>intro F
   ·exact qq Z (X0 5 Z (rK ⟨_,_,_,_,_,_,F,rfl,h⟩ Z))
   refine zKS (rD (Y1 2 11 h Z ?_));refine Y1 1 10 h Z ?_;refine zd3 Z ?_;obtain⟨_,_,F,he6,_,_,_,_,hp6,hq6,rfl,hc14⟩:=(h.sl 8 Z).1.ix F;refine zdx hp6 hq6 ⟨he6.1,qC he6.2.1 (h.sl 8 Z).2⟩ Z (zdc 0 hc14 Z ?_);obtain⟨r15,hr24,F⟩:=qc F;refine qbJ r15 (vsI _) (cB 100 Z) (fun _ hb=>qoj ((h.ext hb).old ha1) ((h.ext hb).old ha2) ((h.ext hb).own 6 Z) hr24) Z Z Z Z (zd2 Z (dN h fun _ h=>zSS ?_));obtain⟨KF1,hKF1,_,F,hK3⟩:=bindE F;refine qbe (fun e w'=>∃(b9:Bool),KF1 b9=V o2∧e=[(3,.int .i64 a_3),(4,.int .i64 a_4),(5,.int .i64 a_5),(6,.pointer (V ⟨bb1,0,U⟩)),(7,.pointer (V ⟨bb2,0,U⟩)),(12,.pointer (V ⟨bb3,0,U⟩)),(14,.slice p7 r2.length k7),(15,.slice p8 r3.length k8),(16,.slice p9 r4.length k9),(17,.slice p10 r5.length k10),(18,.slice p11 r8.length k11),(20,.slice p17 x3.length k14),(21,.slice p23 x4.length k19),(22,.int .i64 i1),(25,.pointer (V ⟨bb4,0,U⟩)),(27,.int .i64 i2),(28,.int .i64 (W64 (r14+r15))),(173,.bool b9)]∧SH w w' [Ch.box bb4 (qbd r12 p20 p21 p22 k16 k17 k18) 57,Ch.own S19 (r12:qB) (qbd r12 p20 p21 p22 k16 k17 k18),Ch.own S22 (x4:List qf) [.slice p23 x4.length k19],Ch.own S16 (x3:List qE) [.slice p17 x3.length k14],Ch.own S8 (r8:List Int) [.slice p11 r8.length k11],Ch.own S6 (r5:List Bool) [.slice p10 r5.length k10],Ch.own S5 (r4:List qt) [.slice p9 r4.length k9],Ch.own S3 (r3:List Int) [.slice p8 r3.length k8],Ch.own S2 (r2:List Int) [.slice p7 r2.length k7],Ch.box bb3 [.slice U 0 0,.slice U 0 0] 91,Ch.box bb2 (qad a_1) 77,Ch.box bb1 (qT a_0 p1 p2 p3 p4 p5 k1 k2 k3 k4 k5) 53]) ?_ ?_
   ·refine X0 4 Z (qm (t:=169) F Z ?_ ?_)<;>intro F
    ·refine X0 5 Z ?_;obtain rfl:=qb F;exact rG ⟨_,hK3,rfl,h⟩ Z
    refine X0 8 Z ?_;obtain rfl:=qb F;exact rG ⟨_,hK3,rfl,h⟩ Z
   rintro _ _ ⟨b9,F,rfl,h⟩;subst hKF1;refine qh Z F ?_ ?_<;>intro F
   ·refine zSR (r_v (qJ qa [] [] Z Z Z Z Z Z Z Z) Z (zs 9 h Z fun _ h=>X0 2 Z ?_));obtain rfl:=qb F;replace F:=hK2;obtain rfl:=qb F;replace F:=hK1;obtain rfl:=qb F;exact qae qa (ρ:=(qg×Int)) [GoT.v qg [.slice U 0 0,.slice U 0 0],GoT.v Int [.int .i64 3]] h ⟨⟨_,_,_,rfl,rfl,h.box 9 Z,rfl⟩,rfl,trivial⟩ (PV.done h (qap h (qaS (⟨[],[]⟩:qg) h qb8 qb8 (by rfl)) (qaj (qA (S:=fun _=>False) Z)) (by rfl)))
   refine X0 7 Z (r_v (qJ qa [0,1,2,3] [.tmp 176,.tmp 177,.tmp 178,.tmp 179] Z Z Z Z Z Z Z Z) Z (qK qa [.tmp 180] _ ([(⟨i1,i2,W64 (r14+r15),a_5⟩:qf)]:List qf) h Z Z Z Z Z Z Z Z Z ⟨(qbI (⟨i1,i2,W64 (r14+r15),a_5⟩:qf)),trivial⟩ Z fun _ _ _ h=>?_));obtain⟨_,hx2,F⟩:=qc F;obtain⟨g2,hx2⟩:=qan hx2;refine qbW qa 3 h Z (h.sl 0 Z).1 (h.sl 0 Z).2 Z Z Z Z Z Z Z Z Z g2 hx2 Z fun _ _ _ _ h=>X0 8 Z ?_;replace h:=h.pick [1,2,3,4,5,6,7,8,9,10,11,12] Z;exact rK ⟨_,_,_,_,_,_,F,rfl,h⟩ Z
  refine qq Z ?_;obtain rfl:=qb F;replace F:=hK2;refine X0 6 Z ?_;replace h:=h.pick [2,3,4,5,6,7,8,9,10,11] Z;exact rK ⟨_,_,_,_,_,_,_,_,_,_,_,F,rfl,h⟩ Z
 refine qq Z ?_;obtain rfl:=qb F;replace F:=hK1;refine X0 4 Z (r_v (qJ qa [0,1] [.tmp 183,.tmp 184] Z Z Z Z Z Z Z Z) Z (zs 7 h Z fun _ h=>X0 2 Z ?_));obtain rfl:=qb F;exact qae qa (ρ:=(qg×Int)) [GoT.v qg [.slice p15 x2.length k13,.slice p14 x1.length k12],GoT.v Int [.int .i64 0]] h ⟨⟨_,_,_,rfl,rfl,h.box 7 Z,rfl⟩,rfl,trivial⟩ (PV.done h (qap h (qaS (⟨x2,x1⟩:qg) h (qaA 1 h Z) (qaA 0 h Z) (by rfl)) (qaj (qA (S:=fun _=>False) Z)) (by rfl)))
def qfX (_:Nat)(a:qH):Option Bool:=
 V (a.Aq==1)
theorem qkV {a:qH}(ha1:Ro w a cs1){r:Bool}(F:qfX n a=V r):RetV prog 181 [GoT.v qH cs1] w r:=by
 obtain⟨_,_,_,_,rfl,_,_⟩:=qX ha1;exact zV 6 func181 Z fun h=>zSR (qx h Z Z fun _ _ h=>X1 9 0 h Z (rb h F Z))
def qQ (s:(List qH)):Nat→Int→Option (Flow Int Int)
 | 0,_=>U
 | n+1,i1=>
  bif decide (i1<(s.length:Int)) then
   (idx s i1).bind fun y1=>
   (qfX n y1).bind fun r1=>
   bif r1 then V (.ret i1) else
   qQ s n (W64 (i1+1))
  else
   V (.nxt i1)
def qaB (n:Nat)(s:(List qH)):Option Int:=
 (qQ s n 0).bind fun o=>match o with
 | .ret r=>V r
 | .nxt _=>
  V (-1)
theorem qen {s:(List qH)}(ha1:Ro w s cs1){r:Int}(F:qaB n s=V r):RetV prog 180 [GoT.v (List qH) cs1,.func (.func 181) #[] #[]] w r:=by
 obtain⟨p1,k1,rfl,s1⟩:=ha1;refine zV 19 func180 Z fun h=>X0 11 Z ?_;obtain⟨o1,F,hK1⟩:=qc F;refine qn (rL (fun m e w'=>∃(i1:Int),qQ s m i1=V o1∧e=[(0,.slice p1 s.length k1),(1,.func (.func 181) #[] #[]),(7,.int .i64 (s.length:Int)),(8,.int .i64 i1)]∧SH w w' []) n ⟨_,F,rfl,h⟩ Z ?_);rintro m1 _ _ ⟨i1,F,rfl,h⟩;rcases m1 with _|m1
 ·cases F
 refine X0 5 Z (qh Z F ?_ ?_)<;>intro F
 ·refine X0 13 Z ?_;obtain⟨y1,_,F,he1,_,_,_,_,hp1,hq1,hr1,hc2⟩:=s1.ix F;obtain⟨_,_,_,_,rfl,s2,s3⟩:=qX hr1;refine zxe hp1 hq1 he1 Z (zc 0 (hc2.below h.below) Z (zcB h F (qkV (qfo y1 (h.oldS s2) (h.oldS s3))) Z fun _ _ h F=>qcP (qh Z F ?_ ?_)))<;>intro F
  ·refine X0 5 Z ?_;obtain rfl:=qb F;replace F:=hK1;exact ri h F Z
  exact X0 6 Z (rK ⟨_,F,rfl,h⟩ Z)
 refine qq Z ?_;obtain rfl:=qb F;replace F:=hK1;exact X0 4 Z (ri h F Z)
def qbb (b:qd):Nat→(List TlatchSite)→Int→Int→Option ((List TlatchSite)×Int×Int)
 | 0,_,_,_=>U
 | n+1,x1,i1,i2=>
  bif decide (i2<(b.Aa.Ab.length:Int)) then
   (idx b.Aa.Ab i2).bind fun y1=>
   (idx b.Ap.Am y1.Bp).bind fun y2=>
   bif (y2.Aq==3) then
    (qaB n y2.Ak).bind fun r1=>
    (appS x1 ([(⟨i2,i1,r1⟩:TlatchSite)]:List TlatchSite)).bind fun x2=>
    (qaL n y1.Ah).bind fun r2=>
    qbb b n x2 (W64 (i1+r2)) (W64 (i2+1))
   else
    (qaL n y1.Ah).bind fun r3=>
    qbb b n x1 (W64 (i1+r3)) (W64 (i2+1))
  else
   V (x1,i1,i2)
def qe1 (n:Nat)(b:qd):Option (List TlatchSite):=
 (qbb b n ([]:List TlatchSite) 0 0).bind fun o=>match o with
 | (x1,_,_)=>
  V x1
theorem qlL {b:qd}(ha1:Ro w b cs1){r:(List TlatchSite)}(F:qe1 n b=V r):RetV prog 104 [GoT.v qd cs1] w r:=by
 obtain⟨p1,k1,p2,k2,p3,k3,p4,k4,p5,k5,rfl,s1,s2,_,_,_⟩:=qM ha1;refine zV 45 func104 Z fun h=>zSR (qx h Z Z fun _ bb1 h=>X1 19 0 h Z ?_);replace h:=h.nil (α:=TlatchSite);obtain⟨o1,F,hK1⟩:=qc F;refine qn (rL (fun m e w'=>∃(S1:Nat→Prop) (p6:Option Addr) (ln1:Nat) (k6:Nat) (x1:(List TlatchSite)) (i1:Int) (i2:Int),qbb b m x1 i1 i2=V o1∧e=[(1,.pointer (V ⟨bb1,0,U⟩)),(3,.slice p6 ln1 k6),(4,.int .i64 i1),(11,.slice p2 b.Aa.Ab.length k2),(12,.int .i64 (b.Aa.Ab.length:Int)),(13,.int .i64 i2)]∧SH w w' [Ch.own S1 (x1:List TlatchSite) [.slice p6 ln1 k6],Ch.box bb1 (qT b p1 p2 p3 p4 p5 k1 k2 k3 k4 k5) 53]) n ⟨_,_,_,_,_,_,_,F,rfl,h⟩ Z ?_);rintro m1 _ _ ⟨S1,p6,ln1,k6,x1,i1,i2,F,rfl,h⟩;obtain rfl:=(h.sl 0 Z).2;rcases m1 with _|m1
 ·cases F
 refine X0 5 Z (qh Z F ?_ ?_)<;>intro F
 ·refine X0 6 Z ?_;obtain⟨_,_,F,he1,_,_,_,_,hp1,hq1,hr1,hc2⟩:=s2.ix F;obtain⟨_,_,rfl,s6⟩:=qF hr1;refine zxe hp1 hq1 he1 Z (zc 0 (hc2.below h.below) Z (qp qa h Z Z Z fun _ _ h=>zp1 Z (zs 0 h Z fun _ h=>X2 8 2 0 h Z ?_)));obtain⟨_,_,F,he2,_,_,_,_,hp2,hq2,hr2,hc3⟩:=s1.ix F;obtain⟨_,_,_,_,_,_,rfl,_,s8,_⟩:=qO hr2;refine zxe hp2 hq2 he2 Z (zc 0 (hc3.below h.below) Z (qp qa h Z Z Z fun _ _ h=>zs 0 h Z fun _ h=>X1 8 0 h Z (qh Z F ?_ ?_)))<;>intro F
  ·refine X1 4 0 h Z (zcI h F (qen ⟨_,_,rfl,(h.oldS s8)⟩) Z fun r1 _ h F=>X0 7 Z (r_v (qJ qa [0,1,2] [.tmp 32,.tmp 33,.tmp 34] Z Z Z Z Z Z Z Z) Z (qK qa [.tmp 35] _ ([(⟨i2,i1,r1⟩:TlatchSite)]:List TlatchSite) h Z Z Z Z Z Z Z Z Z ⟨(qk0 (⟨i2,i1,r1⟩:TlatchSite)),trivial⟩ Z fun _ _ _ h=>?_)));obtain⟨_,hx1,F⟩:=qc F;obtain⟨g1,hx1⟩:=qan hx1;refine qbW qa 3 h Z (h.sl 0 Z).1 (h.sl 0 Z).2 Z Z Z Z Z Z Z Z Z g1 hx1 Z fun _ _ _ _ h=>X1 6 2 h Z (zcI h F (qbD ⟨_,_,rfl,(h.oldS s6)⟩) Z fun _ _ h F=>X0 8 Z ?_);replace h:=h.pick [3,4] Z;exact rK ⟨_,_,_,_,_,_,_,F,rfl,h⟩ Z
  refine X1 5 1 h Z (zcI h F (qbD ⟨_,_,rfl,(h.oldS s6)⟩) Z fun _ _ h F=>X0 8 Z ?_);replace h:=h.pick [2,3] Z;exact rK ⟨_,_,_,_,_,_,_,F,rfl,h⟩ Z
 refine qq Z ?_;obtain rfl:=qb F;replace F:=hK1;refine X0 5 Z ?_;obtain rfl:=qb F;exact rO 0 h Z ⟨rfl,trivial⟩
def qcZ (_:Nat)(b:qd)(a_instance:Int):Option qv:=
 (idx b.Aa.Ab a_instance).bind fun y1=>
 (idx b.Ap.Am y1.Bp).bind fun y2=>
 V y2
theorem qhl {A:Nat→Prop}(hA:∀ b,A b→old w b){b:qd}{a_instance:Int}(ha1:GoT.R w A b cs1){r:qv}(F:qcZ n b a_instance=V r):RetG prog 182 [GoT.v qd cs1,.int .i64 a_instance] w A r:=by
 obtain⟨_,_,_,_,_,_,_,_,_,_,rfl,s1,s2,_,_,_⟩:=qM ha1;have hg:=Rg.start hA;refine qnm func182 Z (m:=17) Z Z (fun h=>?_);refine zSR (qx h Z Z fun _ _ h=>qp qa h Z Z Z fun _ _ h=>zNS (rA [] [1] h Z fun _ h=>M2 127 [0,1,2,3,4,5,6] 0 0 (h.pick [1] Z) Z ?_));obtain⟨_,_,F,he1,_,_,_,_,hp1,hq1,hr1,hc1⟩:=s2.ix F;obtain⟨_,_,rfl,_⟩:=qF hr1;refine Ae 7 255 hp1 hq1 he1 (h.pick [1] Z) Z (M0 511 [8] (h.pick [1] Z) Z (Al 9 1023 1 hc1 (h.pick [1] Z) Z ?_));obtain⟨y2,_,F,he2,_,_,_,_,hp2,hq2,hr2,hc2⟩:=s1.ix F;obtain⟨p7,k7,p8,k8,p9,k9,rfl,s7,s8,s9⟩:=qO hr2;refine Ae 10 2047 hp2 hq2 he2 (h.pick [1] Z) Z (Al 11 4095 0 hc2 (h.pick [1] Z) Z (Ao 12 8191 Z (zs 0 h Z fun _ h=>Ag (h.pick [1] Z) (Ad ?_))));obtain rfl:=qb F;have hv1:GoRs.Rs (ρ:=qv) h.wc (reg A w h.wc) y2 [GoT.v qv (qc2 y2 p7 p8 p9 k7 k8 k9)]:=⟨_,rfl,(hg.outR h (qjq y2 (hg.inS h s7) (hg.inS h s8) (hg.inS h s9)))⟩;exact qu1 qa (ρ:=qv) (r:=y2) [GoT.v qv (qc2 y2 p7 p8 p9 k7 k8 k9)] h ⟨⟨_,_,_,rfl,rfl,h.box 0 Z,rfl⟩,trivial⟩ hv1
def qec (n:Nat)(v:(Option Tview))(l:qt):Option Bool:=
 bif (l.Aq==1) then
  (v).bind fun y1=>
  (idx y1.places (W64 (l.To.tdiv 2))).bind fun y2=>
  (qcZ n (⟨(⟨y1.Bq.Ap.Am⟩:qr),(⟨y1.Bq.Aa.Ab,y1.Bq.Aa.Ah,y1.Bq.Aa.Af⟩:qe),y1.Bq.Ac⟩:qd) y2.instance_).bind fun r1=>
  V (r1.Aq==3)
 else
  V false
theorem qmF {v:(Option Tview)}{l:qt}(ha1:Ro w v cs1)(ha2:Ro w l cs2){r:Bool}(F:qec n v l=V r):RetV prog 106 [GoT.v (Option Tview) cs1,GoT.v qt cs2] w r:=by
 obtain⟨_,rfl,s1⟩:=qct ha1;obtain rfl:=qav ha2;refine zV 27 func106 Z fun h=>zSR (qx h Z Z fun _ _ h=>X0 3 Z (rA [] [0] h Z fun _ h=>M1 15 [0,1,2,3] 0 (h.pick [0] Z) Z (qvc (t:=8) F Z ?_ ?_)))<;>intro F
 ·refine qeh 4 Z (by kernel_rfl) (bits 23 31) (by kernel_rfl) (by kernel_rfl) (fun w' hw=>v_p qa Z w') (h.pick [0] Z) Z ?_;obtain⟨_,hy1,F⟩:=qc F;obtain⟨_,o_1,_,rfl,-,hr1,hc1⟩:=PtR.get s1 hy1;obtain⟨_,_,_,_,_,_,_,_,_,_,_,_,_,_,_,_,_,_,_,_,rfl,s2,s3,s4,s5,s6,s7,s8,s9,s10,s11⟩:=qb3 hr1;refine qeh 5 Z (by kernel_rfl) (bits 23 63) (by kernel_rfl) (by kernel_rfl) (fun w' hw=>v_p qa Z w') (h.pick [0] Z) Z (qeh 6 Z (by kernel_rfl) (bits 23 127) (by kernel_rfl) (by kernel_rfl) (fun w' hw=>v_p qa Z w') (h.pick [0] Z) Z (qeh 7 Z (by kernel_rfl) (bits 23 255) (by kernel_rfl) (by kernel_rfl) (fun w' hw=>qhX qa (hc1.below hw.below) (j:=0) Z Z Z) (h.pick [0] Z) Z (qeh 8 Z (by kernel_rfl) (bits 23 511) (by kernel_rfl) (by kernel_rfl) (fun w' hw=>v_p qa Z w') (h.pick [0] Z) Z (qeh 9 Z (by kernel_rfl) (bits 23 1023) (by kernel_rfl) (by kernel_rfl) (fun w' hw=>v_p qa Z w') (h.pick [0] Z) Z (qeh 10 Z (by kernel_rfl) (bits 23 2047) (by kernel_rfl) (by kernel_rfl) (fun w' hw=>v_p qa Z w') (h.pick [0] Z) Z (qeh 11 Z (by kernel_rfl) (bits 23 4095) (by kernel_rfl) (by kernel_rfl) (fun w' hw=>qhX qa (hc1.below hw.below) (j:=5) Z Z Z) (h.pick [0] Z) Z (qeh 12 Z (by kernel_rfl) (bits 23 8191) (by kernel_rfl) (by kernel_rfl) (fun w' hw=>v_p qa Z w') (h.pick [0] Z) Z (qeh 13 Z (by kernel_rfl) (bits 23 16383) (by kernel_rfl) (by kernel_rfl) (fun w' hw=>qhX qa (hw.box 0 Z) (j:=1) Z Z Z) (h.pick [0] Z) Z (qeh 14 Z (by kernel_rfl) (bits 23 32767) (by kernel_rfl) (by kernel_rfl) (fun w' hw=>v_p qa Z w') (h.pick [0] Z) Z ?_)))))))));obtain⟨_,_,F,he1,_,_,_,_,hp1,hq1,hr2,hc2⟩:=s7.ix F;obtain rfl:=qfk hr2;refine qeh 15 Z (by kernel_rfl) (bits 23 65535) (by kernel_rfl) (by kernel_rfl) (fun w' hw=>qvw qa hp1 hq1 ⟨he1.1,he1.2.1⟩ Z Z Z Z Z Z) (h.pick [0] Z) Z (qeh 16 Z (by kernel_rfl) (bits 23 131071) (by kernel_rfl) (by kernel_rfl) (fun w' hw=>v_p qa Z w') (h.pick [0] Z) Z (qeh 17 Z (by kernel_rfl) (bits 23 262143) (by kernel_rfl) (by kernel_rfl) (fun w' hw=>qhX qa (hc2.below hw.below) (j:=0) Z Z Z) (h.pick [0] Z) Z (Ao 18 524287 Z (X0 1 Z ?_))));have hg1:Rg (old w) w (old w) w:=.start (fun _ h=>h);obtain⟨r1,hr3,F⟩:=qc F;refine qnC r1 hg1 h (cB 182 Z) (qhl (hg1.regOld h) (qk9 _ (hg1.inS h s2) (hg1.inS h s3) (hg1.inS h s4) (hg1.inS h s5) (hg1.inS h s6)) hr3) Z Z Z Z fun _ _ _ hg2 hu1 hz1 hv1=>?_;have hL1:=h.ext hu1.below;have hc3:=Up.C h hu1 hc1;have s12:=Up.S hg1 h hu1 s2;have s13:=Up.S hg1 h hu1 s3;have s14:=Up.S hg1 h hu1 s4;have s15:=Up.S hg1 h hu1 s5;have s16:=Up.S hg1 h hu1 s6;have s17:=Up.S hg1 h hu1 s7;have s18:=Up.S hg1 h hu1 s8;have s19:=Up.S hg1 h hu1 s9;have s20:=Up.S hg1 h hu1 s10;have s21:=Up.S hg1 h hu1 s11;have hb1:=h.below.trans (hu1.below.mono h.below.size);have hC1:=((h.pick [0] Z)).ext hu1.below;replace h:=hz1;obtain⟨_,rfl,hr4⟩:=qon hv1;have ha3:=hr4;obtain⟨_,_,_,_,_,_,rfl,_,_,_⟩:=qO hr4;refine qbf (fun _=>(hC1.ext h.below)) (qeh 19 Z (by kernel_rfl) (bits 23 1048575) (by kernel_rfl) (by kernel_rfl) (fun w' hw=>v_p qa Z w') (hC1.ext h.below) Z (qeh 20 Z (by kernel_rfl) (bits 23 2097151) (by kernel_rfl) (by kernel_rfl) (fun w' hw=>v_p qa Z w') (hC1.ext h.below) Z (qhs 21 Z (bits 23 4194303) (by kernel_rfl) (by kernel_rfl) (fun w' hw=>v_p qa Z w') (hC1.ext h.below) Z (qhs 22 Z (bits 23 8388607) (by kernel_rfl) (by kernel_rfl) (fun w' hw=>v_p qa Z w') (hC1.ext h.below) Z (Ad ?_)))));replace h:=h.unbase hg2.below (show NoD [] from trivial);exact rb h F Z
 exact qh3 4 Z (by kernel_rfl) Z (bits 23 31) (by kernel_rfl) (by kernel_rfl) (h.pick [0] Z) Z (qh3 5 Z (by kernel_rfl) Z (bits 23 63) (by kernel_rfl) (by kernel_rfl) (h.pick [0] Z) Z (qh3 6 Z (by kernel_rfl) Z (bits 23 127) (by kernel_rfl) (by kernel_rfl) (h.pick [0] Z) Z (qh3 7 Z (by kernel_rfl) Z (bits 23 255) (by kernel_rfl) (by kernel_rfl) (h.pick [0] Z) Z (qh3 8 Z (by kernel_rfl) Z (bits 23 511) (by kernel_rfl) (by kernel_rfl) (h.pick [0] Z) Z (qh3 9 Z (by kernel_rfl) Z (bits 23 1023) (by kernel_rfl) (by kernel_rfl) (h.pick [0] Z) Z (qh3 10 Z (by kernel_rfl) Z (bits 23 2047) (by kernel_rfl) (by kernel_rfl) (h.pick [0] Z) Z (qh3 11 Z (by kernel_rfl) Z (bits 23 4095) (by kernel_rfl) (by kernel_rfl) (h.pick [0] Z) Z (qh3 12 Z (by kernel_rfl) Z (bits 23 8191) (by kernel_rfl) (by kernel_rfl) (h.pick [0] Z) Z (qh3 13 Z (by kernel_rfl) Z (bits 23 16383) (by kernel_rfl) (by kernel_rfl) (h.pick [0] Z) Z (qh3 14 Z (by kernel_rfl) Z (bits 23 32767) (by kernel_rfl) (by kernel_rfl) (h.pick [0] Z) Z (qh3 15 Z (by kernel_rfl) Z (bits 23 65535) (by kernel_rfl) (by kernel_rfl) (h.pick [0] Z) Z (qh3 16 Z (by kernel_rfl) Z (bits 23 131071) (by kernel_rfl) (by kernel_rfl) (h.pick [0] Z) Z (qh3 17 Z (by kernel_rfl) Z (bits 23 262143) (by kernel_rfl) (by kernel_rfl) (h.pick [0] Z) Z (qh3 18 Z (by kernel_rfl) Z (bits 23 524287) (by kernel_rfl) (by kernel_rfl) (h.pick [0] Z) Z (qh3 19 Z (by kernel_rfl) Z (bits 23 1048575) (by kernel_rfl) (by kernel_rfl) (h.pick [0] Z) Z (qh3 20 Z (by kernel_rfl) Z (bits 23 2097151) (by kernel_rfl) (by kernel_rfl) (h.pick [0] Z) Z (M0 8388607 [21,22] (h.pick [0] Z) Z (Ad (rb h F Z)))))))))))))))))))
def qb5 (v:(Option Tview))(c:qy)(x:TlatchSite)(y1:Tview):Nat→Int→Int→Option (Int×Int)
 | 0,_,_=>U
 | n+1,i1,i2=>
  bif decide (i2<(y1.links.length:Int)) then
   (idx y1.links i2).bind fun y2=>
   (
    bif (y2.Aq==1) then
     bif (y2.Bw==x.arc) then
      (idx y1.places (W64 (y2.To.tdiv 2))).bind fun y3=>
      V (y3.instance_==x.instance_)
     else
      V false
    else
     V false).bind fun b3=>
   bif b3 then
    (qbo n v c i2 0 1).bind fun r1=>
    qb5 v c x y1 n (if r1 > i1 then r1 else i1) (W64 (i2+1))
   else
    qb5 v c x y1 n i1 (W64 (i2+1))
  else
   V (i1,i2)
def qg2 (n:Nat)(v:(Option Tview))(c:qy)(x:TlatchSite):Option Int:=
 (v).bind fun y1=>
 (qb5 v c x y1 n 0 0).bind fun o=>match o with
 | (i1,_)=>
  V i1
theorem qm1 {v:(Option Tview)}{c:qy}{x:TlatchSite}(ha1:Ro w v cs1)(ha2:Ro w c cs2)(ha3:Ro w x cs3){r:Int}(F:qg2 n v c x=V r):RetV prog 190 [GoT.v (Option Tview) cs1,GoT.v qy cs2,GoT.v TlatchSite cs3] w r:=by
 obtain⟨_,rfl,s1⟩:=qct ha1;obtain rfl:=qag ha2;obtain rfl:=qkd ha3;refine zV 53 func190 Z fun h=>zSR (qx h Z Z fun _ bb1 h=>qx h Z Z fun _ bb2 h=>X0 10 Z ?_);obtain⟨y1,hy1,F⟩:=qc F;obtain⟨b1,o_1,_,rfl,-,hr1,hc1⟩:=PtR.get s1 hy1;obtain⟨_,_,_,_,_,_,_,_,_,_,_,_,p8,k7,_,_,_,_,_,_,rfl,_,_,_,_,_,s7,s8,_,_,_⟩:=qb3 hr1;refine zp2 Z (zc 6 (hc1.below h.below) Z (X0 3 Z ?_));obtain⟨o1,F,hK1⟩:=qc F;refine qn (rL (fun m e w'=>∃(i1:Int) (i2:Int),qb5 v c x y1 m i1 i2=V o1∧e=[(0,.pointer (V ⟨b1,o_1,U⟩)),(4,.pointer (V ⟨bb1,0,U⟩)),(5,.pointer (V ⟨bb2,0,U⟩)),(7,.int .i64 i1),(13,.slice p8 y1.links.length k7),(14,.int .i64 (y1.links.length:Int)),(15,.int .i64 i2)]∧SH w w' [Ch.box bb2 (qkF x) 271,Ch.box bb1 (qad c) 77]) n ⟨_,_,F,rfl,h⟩ Z ?_);rintro m1 _ _ ⟨i1,i2,F,rfl,h⟩;rcases m1 with _|m1
 ·cases F
 refine X0 5 Z (qh Z F ?_ ?_)<;>intro F
 ·refine X0 6 Z ?_;obtain⟨_,_,F,he1,_,_,_,_,hp1,hq1,hr2,hc3⟩:=s8.ix F;obtain rfl:=qav hr2;refine zxe hp1 hq1 he1 Z (zc 0 (hc3.below h.below) Z (qp qa h Z Z Z fun _ _ h=>zp1 Z (zs 0 h Z fun _ h=>zNS ?_)));obtain⟨KF1,hKF1,_,F,hK2⟩:=bindE F;refine qbe (fun e w'=>∃(b3:Bool),KF1 b3=V o1∧e=[(0,.pointer (V ⟨b1,o_1,U⟩)),(4,.pointer (V ⟨bb1,0,U⟩)),(5,.pointer (V ⟨bb2,0,U⟩)),(7,.int .i64 i1),(8,.int .i64 i2),(13,.slice p8 y1.links.length k7),(14,.int .i64 (y1.links.length:Int)),(15,.int .i64 i2),(44,.bool b3)]∧SH w w' [Ch.box bb2 (qkF x) 271,Ch.box bb1 (qad c) 77]) ?_ ?_
  ·refine rD (Y1 2 0 h Z ?_);refine zd2 Z (qbZ (t:=23) F Z ?_ ?_)<;>intro F
   ·refine Y1 4 0 h Z ?_;refine Y1 4 1 h Z ?_;refine Y0 4 Z (qbZ (t:=30) F Z ?_ ?_)<;>intro F
    ·refine Y0 7 Z (zdc 5 (hc1.below h.below) Z (Y1 4 0 h Z ?_));refine Y0 3 Z ?_;obtain⟨_,_,F,he2,_,_,_,_,hp2,hq2,hr4,hc5⟩:=s7.ix F;obtain rfl:=qfk hr4;refine zdxe hp2 hq2 he2 Z (Y0 3 Z (zdc 0 (hc5.below h.below) Z (Y1 4 1 h Z ?_)));refine Y0 3 Z (dN h fun _ h=>?_);replace h:=h.pick [1,2] Z;obtain rfl:=qb F;exact rG ⟨_,hK2,rfl,h⟩ Z
    refine Y0 14 Z (dN h fun _ h=>?_);replace h:=h.pick [1,2] Z;obtain rfl:=qb F;exact rG ⟨_,hK2,rfl,h⟩ Z
   refine Y0 21 Z (dN h fun _ h=>?_);replace h:=h.pick [1,2] Z;obtain rfl:=qb F;exact rG ⟨_,hK2,rfl,h⟩ Z
  rintro _ _ ⟨b3,F,rfl,h⟩;subst hKF1;refine qh Z F ?_ ?_<;>intro F
  ·exact X1 5 1 h Z (zcI h F (qau (h.old s1) (h.old ha2)) Z fun _ _ h F=>X0 8 Z (rK ⟨_,_,F,rfl,h⟩ Z))
  exact X0 6 Z (rK ⟨_,_,F,rfl,h⟩ Z)
 refine qq Z ?_;obtain rfl:=qb F;replace F:=hK1;exact X0 5 Z (ri h F Z)
def qaP (a_1:qy)(a_3:(List TlatchSite))(a_4:Int)(a_5:Int)(y1:TlatchSite)(y2:Tgraph)(y3:Tview)(r4:qB):Nat→(List qf)→Int→Option (Flow ((List qf)×Bool) ((List qf)×Int))
 | 0,_,_=>U
 | n+1,x1,i1=>
  bif decide (i1<(a_3.length:Int)) then
   (idx a_3 i1).bind fun y4=>
   (qcZ n (⟨(⟨y3.Bq.Ap.Am⟩:qr),(⟨y3.Bq.Aa.Ab,y3.Bq.Aa.Ah,y3.Bq.Aa.Af⟩:qe),y3.Bq.Ac⟩:qd) y4.instance_).bind fun r6=>
   (idx r6.Ak y4.arc).bind fun y5=>
   (qlq n r4 ([W64 (2*(W64 (y4.first+y5.Bc))),W64 ((W64 (2*(W64 (y4.first+y5.Bc))))+1)]:List Int)).bind fun o=>match o with
    | (r8,r9)=>
     bif (!r9) then qaP a_1 a_3 a_4 a_5 y1 y2 y3 r4 n x1 (W64 (i1+1)) else
     (qg2 n y2.view a_1 y1).bind fun r10=>
     bif decide ((W64 ((if 0 > r8.Ay then 0 else r8.Ay)+r10)) > 100000) then V (.ret ([],false)) else
     (appS x1 ([(⟨a_4,i1,W64 ((if 0 > r8.Ay then 0 else r8.Ay)+r10),a_5⟩:qf)]:List qf)).bind fun x2=>
     qaP a_1 a_3 a_4 a_5 y1 y2 y3 r4 n x2 (W64 (i1+1))
  else
   V (.nxt (x1,i1))
def qeZ (n:Nat)(a_0:(Option Tgraph))(a_1:qy)(a_2:(List Int))(a_3:(List TlatchSite))(a_4:Int)(a_5:Int):Option ((List qf)×Bool):=
 (idx a_3 a_4).bind fun y1=>
 (a_0).bind fun y2=>
 (y2.view).bind fun y3=>
 (qcZ n (⟨(⟨y3.Bq.Ap.Am⟩:qr),(⟨y3.Bq.Aa.Ab,y3.Bq.Aa.Ah,y3.Bq.Aa.Af⟩:qe),y3.Bq.Ac⟩:qd) y1.instance_).bind fun r1=>
 (qcb n r1).bind fun r2=>
 (qdK n a_0 a_1 ([(⟨W64 (2*(W64 (y1.first+r2))),(⟨0,0⟩:qi),(⟨0,0⟩:qi)⟩:qw),(⟨W64 ((W64 (2*(W64 (y1.first+r2))))+1),(⟨0,0⟩:qi),(⟨0,0⟩:qi)⟩:qw)]:List qw) a_2).bind fun o=>match o with
  | (r4,r5)=>
   bif (!r5) then V ([],false) else
   (qaP a_1 a_3 a_4 a_5 y1 y2 y3 r4 n ([]:List qf) 0).bind fun o=>match o with
   | .ret r=>V r
   | .nxt (x1,_)=>
    V (x1,true)
theorem qlR {a_0:(Option Tgraph)}{a_1:qy}{a_2:(List Int)}{a_3:(List TlatchSite)}{a_4:Int}{a_5:Int}(ha1:Ro w a_0 cs1)(ha2:Ro w a_1 cs2)(ha3:Ro w a_2 cs3)(ha4:Ro w a_3 cs4){r:((List qf)×Bool)}(F:qeZ n a_0 a_1 a_2 a_3 a_4 a_5=V r):RetV prog 108 [GoT.v (Option Tgraph) cs1,GoT.v qy cs2,GoT.v (List Int) cs3,GoT.v (List TlatchSite) cs4,.int .i64 a_4,.int .i64 a_5] w r:=by
 obtain⟨_,rfl,s1⟩:=qct ha1;obtain rfl:=qag ha2;obtain⟨_,_,rfl,s2⟩:=ha3;obtain⟨p3,k2,rfl,s3⟩:=ha4;refine zV 120 func108 Z fun h=>zSR (qx h Z Z fun _ bb1 h=>X0 7 Z ?_);obtain⟨y1,_,F,he1,_,_,_,_,hp1,hq1,hr1,hc1⟩:=s3.ix F;obtain rfl:=qkd hr1;refine zxe hp1 hq1 he1 Z (zc 0 (hc1.below h.below) Z (qp qa h Z Z Z fun _ bb2 h=>zs 0 h Z fun _ h=>zNS (rA [] [0] h Z fun _ h=>M1 7 [0,1,2] 0 (h.pick [0] Z) Z ?_)));obtain⟨y2,hy2,F⟩:=qc F;obtain⟨b2,o_2,_,rfl,-,hr2,hc2⟩:=PtR.get s1 hy2;obtain⟨_,_,_,rfl,s4,s5⟩:=qhg hr2;refine M0 31 [3,4] (h.pick [0] Z) Z (Al 5 63 0 hc2 (h.pick [0] Z) Z ?_);obtain⟨y3,hy3,F⟩:=qc F;obtain⟨_,o_3,_,rfl,-,hr3,hc3⟩:=PtR.get s4 hy3;obtain⟨_,_,_,_,_,_,_,_,_,_,_,_,_,_,_,_,_,_,_,_,rfl,s6,s7,s8,s9,s10,s11,s12,s13,s14,s15⟩:=qb3 hr3;refine M0 255 [6,7] (h.pick [0] Z) Z (Al 8 511 0 hc3 (h.pick [0] Z) Z (M1 2047 [9,10] 0 (h.pick [0] Z) Z (Ao 11 4095 Z ?_)));have hg1:Rg (old w) w (old w) w:=.start (fun _ h=>h);obtain⟨r1,hr4,F⟩:=qc F;refine qnC r1 hg1 h (cB 182 Z) (qhl (hg1.regOld h) (qk9 _ (hg1.inS h s6) (hg1.inS h s7) (hg1.inS h s8) (hg1.inS h s9) (hg1.inS h s10)) hr4) Z Z Z Z fun w5 _ _ hg2 hu1 hz1 hv1=>?_;have hL1:=h.ext hu1.below;have s16:=Up.Pt hg1 h hu1 s1;have hc4:=Up.box 0 h hu1 Z;have ha5:=Up.boxP (x:=y1) hg1 0 h hu1 Z (qk0 y1);have s17:=Up.S hg1 h hu1 s2;have s18:=Up.S hg1 h hu1 s3;have hc5:=Up.box 1 h hu1 Z;have s19:=Up.R hg1 h hu1 ha2;have ha6:=Up.boxP (x:=a_1) hg1 1 h hu1 Z (hg1.inR h ha2);have hc6:=Up.C h hu1 hc2;have s20:=Up.Pt hg1 h hu1 s4;have s21:=Up.S hg1 h hu1 s5;have hc7:=Up.C h hu1 hc3;have s22:=Up.S hg1 h hu1 s6;have s23:=Up.S hg1 h hu1 s7;have s24:=Up.S hg1 h hu1 s8;have s25:=Up.S hg1 h hu1 s9;have s26:=Up.S hg1 h hu1 s10;have s27:=Up.S hg1 h hu1 s11;have s28:=Up.S hg1 h hu1 s12;have s29:=Up.S hg1 h hu1 s13;have s30:=Up.S hg1 h hu1 s14;have s31:=Up.S hg1 h hu1 s15;have hb1:=h.below.trans (hu1.below.mono h.below.size);have hC1:=((h.pick [0] Z)).ext hu1.below;replace h:=hz1;obtain⟨_,rfl,hr5⟩:=qon hv1;have ha7:=hr5;obtain⟨_,_,_,_,_,_,rfl,_,_,_⟩:=qO hr5;refine qbf (fun _=>(hC1.ext h.below)) (Ao 12 8191 Z (zcI h F (qfR (h.old (GoT.mono ha7 hg2.old))) Z fun r2 _ h F=>qbf (fun _=>(hC1.ext h.below)) (qhs 13 Z (bits 16 16383) (by kernel_rfl) (by kernel_rfl) (fun w' hw=>v_p qa Z w') (hC1.ext h.below) Z (qhs 14 Z (bits 16 32767) (by kernel_rfl) (by kernel_rfl) (fun w' hw=>v_p qa Z w') (hC1.ext h.below) Z (qhs 15 Z (bits 16 65535) (by kernel_rfl) (by kernel_rfl) (fun w' hw=>v_p qa Z w') (hC1.ext h.below) Z (Ad (X0 3 Z (zc 0 (hc5.below h.below) Z (zp1 Z (r_v (qJ qa [0] [.tmp 47] Z Z Z Z Z Z Z Z) Z (zp2 Z (r_v (qJ qa [0] [.tmp 50] Z Z Z Z Z Z Z Z) Z (qK qa [.tmp 48,.tmp 51] _ ([(⟨W64 (2*(W64 (y1.first+r2))),(⟨0,0⟩:qi),(⟨0,0⟩:qi)⟩:qw),(⟨W64 ((W64 (2*(W64 (y1.first+r2))))+1),(⟨0,0⟩:qi),(⟨0,0⟩:qi)⟩:qw)]:List qw) h Z Z Z Z Z Z Z Z Z ⟨(qer (⟨W64 (2*(W64 (y1.first+r2))),(⟨0,0⟩:qi),(⟨0,0⟩:qi)⟩:qw)),(qer (⟨W64 ((W64 (2*(W64 (y1.first+r2))))+1),(⟨0,0⟩:qi),(⟨0,0⟩:qi)⟩:qw)),trivial⟩ Z fun _ _ _ h=>zp1 Z ?_)))))))))))));obtain⟨r3,hr7,F⟩:=qc F;obtain⟨r4,r5⟩:=r3;refine qa3 (r4,r5) h (cB 79 Z) (qlU (h.old (GoT.mono s16 hg2.old)) (h.old (GoT.mono s19 hg2.old)) (h.own 0 Z) ⟨_,_,rfl,(h.oldS (s17.mono hg2.old))⟩ hr7) Z Z Z Z fun _ _ _ hv2 hr8=>?_;obtain⟨S3,_,_,_,rfl,hv3,hr9⟩:=hv2.cons hr8;obtain⟨p20,k17,p21,k18,p22,k19,rfl,-,-,-⟩:=qfi (hv3.sh.own 0 Z);obtain⟨rfl,h⟩:=hv3.lastB hr9;refine zp3 Z (qp qa h Z Z Z fun _ bb3 h=>zs 0 h Z fun _ h=>X0 8 Z (qh Z F ?_ ?_))<;>intro F
 ·refine X0 5 Z ?_;replace h:=h.unbase hg2.below ⟨fun _ h=>h,⟨fun _ h=>h,⟨fun _ h=>h,trivial⟩⟩⟩;obtain rfl:=qb F;exact qae qa (ρ:=((List qf)×Bool)) [GoT.v (List qf) [.slice U 0 0],GoT.v Bool [.bool false]] h ⟨rfl,rfl,trivial⟩ (PV.done h (qap h qb8 (qaj (qA (S:=fun _=>False) Z)) (by rfl)))
 refine X0 12 Z ?_;replace h:=h.nil (α:=qf);obtain⟨o1,F,hK1⟩:=qc F;refine qn ?_;replace h:=h.pick [0,1,2] Z;refine rL (fun m e w'=>∃(S6:Nat→Prop) (p23:Option Addr) (ln1:Nat) (k20:Nat) (x1:(List qf)) (i1:Int),qaP a_1 a_3 a_4 a_5 y1 y2 y3 r4 m x1 i1=V o1∧e=[(0,.pointer (V ⟨b2,o_2,U⟩)),(4,.int .i64 a_4),(5,.int .i64 a_5),(7,.pointer (V ⟨bb1,0,U⟩)),(14,.pointer (V ⟨bb2,0,U⟩)),(16,.pointer (V ⟨bb3,0,U⟩)),(18,.slice p23 ln1 k20),(59,.slice p3 a_3.length k2),(60,.int .i64 (a_3.length:Int)),(61,.int .i64 i1)]∧SH w5 w' [Ch.own S6 (x1:List qf) [.slice p23 ln1 k20],Ch.box bb3 (qbd r4 p20 p21 p22 k17 k18 k19) 57,Ch.own S3 (r4:qB) (qbd r4 p20 p21 p22 k17 k18 k19)]) n ⟨_,_,_,_,_,_,F,rfl,h⟩ Z ?_;rintro m1 _ _ ⟨S6,p23,ln1,k20,x1,i1,F,rfl,h⟩;obtain rfl:=(h.sl 0 Z).2;rcases m1 with _|m1
 ·cases F
 refine X0 5 Z (qh Z F ?_ ?_)<;>intro F
 ·refine X0 6 Z ?_;obtain⟨y4,_,F,he2,_,_,_,_,hp2,hq2,hr11,hc10⟩:=s18.ix F;obtain rfl:=qkd hr11;refine zxe hp2 hq2 he2 Z (zc 0 (hc10.below h.below) Z (qp qa h Z Z Z fun _ _ h=>zp1 Z (zs 0 h Z fun _ h=>zNS (rA [] [0] h Z fun _ h=>M1 31 [0,1,2,3,4] 0 (h.pick [0] Z) Z (Al 5 63 0 hc6 (h.pick [0] Z) Z (M0 255 [6,7] (h.pick [0] Z) Z (Al 8 511 0 hc7 (h.pick [0] Z) Z (M2 26623 [9,10,13,14] 0 0 (h.pick [0] Z) Z (Ao 11 28671 Z ?_)))))))));obtain⟨r6,hr12,F⟩:=qc F;refine qyL r6 hg2 h (cB 182 Z) (qhl (hg2.atB h) (qk9 _ (hg2.inBS h s22) (hg2.inBS h s23) (hg2.inBS h s24) (hg2.inBS h s25) (hg2.inBS h s26)) hr12) Z Z Z Z fun _ _ _ h hv5=>?_;obtain⟨_,rfl,hr13⟩:=qon hv5;have hr14:=hr13;obtain⟨_,_,_,_,_,_,rfl,_,_,_⟩:=qO hr13;replace h:=h.grpAdd 0 Z hr14;refine G0 32767 [12] (h.pick [1] Z) Z ?_;obtain⟨y5,_,F,he3,_,_,_,_,hp3,hq3,hr15,hc11⟩:=(qrT (h.grpS 0 0 Z Z)).2.1.1.ix F;have hr16:=hr15;obtain⟨_,_,_,_,rfl,_,_⟩:=qX hr15;replace h:=h.grpAdd 0 Z hr16;refine Ax 15 65535 hp3 hq3 ⟨he3.1,qC he3.2.1 (qrT (h.grpS 0 1 Z Z)).2.1.2⟩ (h.pick [1] Z) Z (M0 131071 [16] (h.pick [1] Z) Z (Ao 17 262143 Z (zc 1 hc11 Z (G0 2097151 [18,19,20] (h.pick [1] Z) Z (Ad (X1 6 3 h Z (qK qa [.tmp 88,.tmp 90] _ ([W64 (2*(W64 (y4.first+y5.Bc))),W64 ((W64 (2*(W64 (y4.first+y5.Bc))))+1)]:List Int) h Z Z Z Z Z Z Z Z Z ⟨rfl,rfl,trivial⟩ Z fun _ _ _ h=>?_)))))));obtain⟨r7,hr17,F⟩:=qc F;obtain⟨r8,r9⟩:=r7;refine qa3 (r8,r9) h (cB 189 Z) (qq0 (h.own 5 Z) (h.own 0 Z) hr17) Z Z Z Z fun _ _ _ hv6 hr18=>?_;obtain⟨_,_,_,_,rfl,hv7,hr19⟩:=hv6.cons hr18;obtain rfl:=qD (hv7.sh.own 0 Z);obtain⟨rfl,h⟩:=hv7.lastB hr19;refine zp3 Z (qp qa h Z Z Z fun _ _ h=>zs 0 h Z fun _ h=>X0 8 Z (qh Z F ?_ ?_))<;>intro F
  ·refine qq Z (X0 4 Z ?_);replace h:=h.pick [0,1,2,4,5,6,7] Z;replace h:=h.pick [4,5,6] Z;exact rK ⟨_,_,_,_,_,_,F,rfl,h⟩ Z
  refine zKS (rD (Y1 2 0 h Z ?_));refine zd4 Z (zdc 0 (hc6.below h.below) Z (zdc 0 (hc5.below h.below) Z (zdc 0 (hc4.below h.below) Z ?_)));obtain⟨r10,hr21,F⟩:=qc F;refine qbJ r10 (vsI _) (cB 190 Z) (fun _ hb=>qm1 ((h.ext hb).old (GoT.mono s20 hg2.old)) ((h.ext hb).old (GoT.mono s19 hg2.old)) (qk0 y1) hr21) Z Z Z Z (zd2 Z (dN h fun _ h=>X0 6 Z (qh Z F ?_ ?_)))<;>intro F
  ·refine X0 5 Z ?_;replace h:=h.pick [0,1,2,4,5,6,7] Z;replace h:=h.unbase hg2.below ⟨fun _ h=>h,⟨fun _ h=>h,⟨fun _ h=>h,⟨fun _ h=>h,⟨fun _ h=>h,⟨fun _ h=>h,⟨fun _ h=>h,trivial⟩⟩⟩⟩⟩⟩⟩;obtain rfl:=qb F;replace F:=hK1;obtain rfl:=qb F;exact qae qa (ρ:=((List qf)×Bool)) [GoT.v (List qf) [.slice U 0 0],GoT.v Bool [.bool false]] h ⟨rfl,rfl,trivial⟩ (PV.done h (qap h qb8 (qaj (qA (S:=fun _=>False) Z)) (by rfl)))
  refine X0 7 Z (r_v (qJ qa [0,1,2,3] [.tmp 111,.tmp 112,.tmp 113,.tmp 114] Z Z Z Z Z Z Z Z) Z (qK qa [.tmp 115] _ ([(⟨a_4,i1,W64 ((if 0 > r8.Ay then 0 else r8.Ay)+r10),a_5⟩:qf)]:List qf) h Z Z Z Z Z Z Z Z Z ⟨(qbI (⟨a_4,i1,W64 ((if 0 > r8.Ay then 0 else r8.Ay)+r10),a_5⟩:qf)),trivial⟩ Z fun _ _ _ h=>?_));obtain⟨_,hx1,F⟩:=qc F;obtain⟨g1,hx1⟩:=qan hx1;refine qbW qa 6 h Z (h.sl 0 Z).1 (h.sl 0 Z).2 Z Z Z Z Z Z Z Z Z g1 hx1 Z fun _ _ _ _ h=>X0 7 Z ?_;replace h:=h.pick [0,1,2,3,5,6,7,8] Z;replace h:=h.pick [5,6,7] Z;exact rK ⟨_,_,_,_,_,_,F,rfl,h⟩ Z
 refine qq Z ?_;obtain rfl:=qb F;replace F:=hK1;refine X0 6 Z ?_;replace h:=h.unbase hg2.below ⟨fun _ h=>h,⟨fun _ h=>h,⟨fun _ h=>h,trivial⟩⟩⟩;obtain rfl:=qb F;exact qae qa (ρ:=((List qf)×Bool)) [GoT.v (List qf) [.slice p23 x1.length k20],GoT.v Bool [.bool true]] h ⟨rfl,rfl,trivial⟩ (PV.done h (qap h (qaA 0 h Z) (qaj (qA (S:=fun _=>False) Z)) (by rfl)))
def qbU (a_0:qd)(a_1:qy)(a_3:Int)(a_4:Int)(a_5:Int)(x1:(List (List Int)))(x2:(List Int))(x3:(List qt))(x4:(List Tplace))(r2:(List TlatchSite))(x6:(List Bool))(r6:(List Int)):Nat→(List qf)→(List qE)→Int→Option (Flow (qg×Int) ((List qf)×(List qE)×Int))
 | 0,_,_,_=>U
 | n+1,x7,x8,i2=>
  bif decide (i2<(r2.length:Int)) then
   (qeZ n (V (⟨(V (⟨(⟨(⟨a_0.Ap.Am⟩:qr),(⟨a_0.Aa.Ab,a_0.Aa.Ah,a_0.Aa.Af⟩:qe),a_0.Ac⟩:qd),x4,x3,x2,x1,[]⟩:Tview)),x6⟩:Tgraph)) a_1 r6 r2 i2 a_5).bind fun o=>match o with
    | (r9,r10)=>
     bif (!r10) then V (.ret ((⟨[],[]⟩:qg),3)) else
     (appS x8 ([(⟨a_3,a_4⟩:qE)]:List qE)).bind fun x9=>
     (appS x7 r9).bind fun x10=>
     qbU a_0 a_1 a_3 a_4 a_5 x1 x2 x3 x4 r2 x6 r6 n x10 x9 (W64 (i2+1))
  else
   V (.nxt (x7,x8,i2))
def qbi (a_0:qd)(x1:(List (List Int)))(x2:(List Int))(x3:(List qt))(x4:(List Tplace)):Nat→(List Bool)→Int→Option ((List Bool)×Int)
 | 0,_,_=>U
 | n+1,x6,i1=>
  bif decide (i1<(x3.length:Int)) then
   (idx x3 i1).bind fun y1=>
   (idx x6 i1).bind fun y2=>
   bif y2 then
    (qec n (V (⟨(⟨(⟨a_0.Ap.Am⟩:qr),(⟨a_0.Aa.Ab,a_0.Aa.Ah,a_0.Aa.Af⟩:qe),a_0.Ac⟩:qd),x4,x3,x2,x1,[]⟩:Tview)) y1).bind fun r4=>
    (idx x6 i1).bind fun _=>
    qbi a_0 x1 x2 x3 x4 n (setS x6 i1 (!r4)) (W64 (i1+1))
   else
    (idx x6 i1).bind fun _=>
    qbi a_0 x1 x2 x3 x4 n (setS x6 i1 false) (W64 (i1+1))
  else
   V (x6,i1)
def qdC (n:Nat)(a_0:qd)(a_1:qy)(a_2:(List Int))(a_3:Int)(a_4:Int)(a_5:Int):Option (qg×Int):=
 (
  (qiP n a_0).bind fun r13=>
  bif (!r13) then V true else
  (qh0 n a_1).bind fun r14=>
  V (!r14)).bind fun b1=>
 bif b1 then V ((⟨[],[]⟩:qg),1) else
 (qkk n a_0).bind fun o=>match o with
  | some (⟨_,x4,x3,x2,x1,_⟩)=>
   ((
    (qeR n (V (⟨(⟨(⟨a_0.Ap.Am⟩:qr),(⟨a_0.Aa.Ab,a_0.Aa.Ah,a_0.Aa.Af⟩:qe),a_0.Ac⟩:qd),x4,x3,x2,x1,[]⟩:Tview)) a_2).bind fun r11=>
    bif (!r11) then V true else
    bif decide (a_3<0) then V true else
    bif decide (a_3 > a_4) then V true else
    bif decide (a_4 > 100000) then V true else
    (qaY n a_5 0 100000).bind fun r12=>
    V (!r12)).bind fun b2=>
   bif b2 then V ((⟨[],[]⟩:qg),2) else
   (qe1 n a_0).bind fun r2=>
   bif decide ((r2.length:Int) > 12) then V ((⟨[],[]⟩:qg),3) else
   (qg4 n (V (⟨(⟨(⟨a_0.Ap.Am⟩:qr),(⟨a_0.Aa.Ab,a_0.Aa.Ah,a_0.Aa.Af⟩:qe),a_0.Ac⟩:qd),x4,x3,x2,x1,[]⟩:Tview)) a_2).bind fun o=>match o with
    | some (⟨_,x5⟩)=>
     ((qbi a_0 x1 x2 x3 x4 n x5 0).bind fun o=>match o with
     | (x6,_)=>
      (qhH n (V (⟨(V (⟨(⟨(⟨a_0.Ap.Am⟩:qr),(⟨a_0.Aa.Ab,a_0.Aa.Ah,a_0.Aa.Af⟩:qe),a_0.Ac⟩:qd),x4,x3,x2,x1,[]⟩:Tview)),x6⟩:Tgraph))).bind fun o=>match o with
       | (r6,r7)=>
        bif (!r7) then V ((⟨[],[]⟩:qg),7) else
        (qbU a_0 a_1 a_3 a_4 a_5 x1 x2 x3 x4 r2 x6 r6 n ([]:List qf) ([]:List qE) 0).bind fun o=>match o with
        | .ret r=>V r
        | .nxt (x7,x8,_)=>
         bif decide ((x7.length:Int) > 60) then V ((⟨[],[]⟩:qg),3) else
         V ((⟨x8,x7⟩:qg),0))
    | _=>U)
  | _=>U
theorem qbk {a_0:qd}{a_1:qy}{a_2:(List Int)}{a_3:Int}{a_4:Int}{a_5:Int}(ha1:Ro w a_0 cs1)(ha2:Ro w a_1 cs2)(ha3:Ro w a_2 cs3){r:(qg×Int)}(F:qdC n a_0 a_1 a_2 a_3 a_4 a_5=V r):RetV prog 37 [GoT.v qd cs1,GoT.v qy cs2,GoT.v (List Int) cs3,.int .i64 a_3,.int .i64 a_4,.int .i64 a_5] w r:=by
 obtain⟨p1,k1,p2,k2,p3,k3,p4,k4,p5,k5,rfl,s1,s2,s3,s4,s5⟩:=qM ha1;obtain rfl:=qag ha2;obtain⟨p6,k6,rfl,s6⟩:=ha3;refine zV 147 func37 Z fun h=>zSR (qx h Z Z fun w1 bb1 h=>qx h Z Z fun _ bb2 h=>qp qa h Z Z Z fun _ bb3 h=>X0 4 Z ?_);obtain⟨KF2,hKF2,_,F,hK4⟩:=bindE F;refine qbe (fun e w'=>∃(b1:Bool),KF2 b1=V r∧e=[(2,.slice p6 a_2.length k6),(3,.int .i64 a_3),(4,.int .i64 a_4),(5,.int .i64 a_5),(6,.pointer (V ⟨bb1,0,U⟩)),(7,.pointer (V ⟨bb2,0,U⟩)),(12,.pointer (V ⟨bb3,0,U⟩)),(32,.bool b1)]∧SH w w' [Ch.box bb3 [.slice U 0 0,.slice U 0 0] 91,Ch.box bb2 (qad a_1) 77,Ch.box bb1 (qT a_0 p1 p2 p3 p4 p5 k1 k2 k3 k4 k5) 53]) ?_ ?_
 ·refine X1 2 2 h Z (zcB h F (qqr (h.old ha1)) Z fun _ _ h F=>zp2 Z (qm (t:=28) F Z ?_ ?_))<;>intro F
  ·refine X0 5 Z ?_;obtain rfl:=qb F;exact rG ⟨_,hK4,rfl,h⟩ Z
  refine X1 3 1 h Z (zcB h F (qpo (h.old ha2)) Z fun _ _ h F=>X0 4 Z ?_);obtain rfl:=qb F;exact rG ⟨_,hK4,rfl,h⟩ Z
 rintro _ _ ⟨b1,F,rfl,h⟩;subst hKF2;refine qh Z F ?_ ?_<;>intro F
 ·refine zSR (r_v (qJ qa [] [] Z Z Z Z Z Z Z Z) Z (zs 0 h Z fun _ h=>X0 2 Z ?_));obtain rfl:=qb F;exact qae qa (ρ:=(qg×Int)) [GoT.v qg [.slice U 0 0,.slice U 0 0],GoT.v Int [.int .i64 1]] h ⟨⟨_,_,_,rfl,rfl,h.box 0 Z,rfl⟩,rfl,trivial⟩ (PV.done h (qap h (qaS (⟨[],[]⟩:qg) h qb8 qb8 (by rfl)) (qaj (qA (S:=fun _=>False) Z)) (by rfl)))
 refine X1 4 2 h Z ?_;obtain⟨_,hr1,F⟩:=qc F;refine qvg (cB 101 Z) (qpL (h.old ha1) hr1) Z Z Z Z ?_;rintro _ _ _ hs1 ⟨S1,p7,ln1,k7,x1,S2,p8,ln2,k8,x2,S3,p9,ln3,k9,x3,bb4,S4,p10,ln4,k10,x4,rfl,rfl,rfl⟩;replace h:SH _ _ [Ch.own S1 (x1:List (List Int)) [.slice p7 ln1 k7],Ch.own S2 (x2:List Int) [.slice p8 ln2 k8],Ch.own S3 (x3:List qt) [.slice p9 ln3 k9],Ch.box bb4 [.slice p1 a_0.Ap.Am.length k1,.slice p2 a_0.Aa.Ab.length k2,.slice p3 a_0.Aa.Ah.length k3,.slice p4 a_0.Aa.Af.length k4,.slice p5 a_0.Ac.length k5,.slice p10 ln4 k10,.slice p9 ln3 k9,.slice p8 ln2 k8,.slice p7 ln1 k7,.slice U 0 0] 155,Ch.own S4 (x4:List Tplace) [.slice p10 ln4 k10],Ch.box bb3 [.slice U 0 0,.slice U 0 0] 91,Ch.box bb2 (qad a_1) 77,Ch.box bb1 (qT a_0 p1 p2 p3 p4 p5 k1 k2 k3 k4 k5) 53]:=SH.appendN h hs1 ⟨fun _ h=>h,⟨fun _ h=>h,⟨fun _ h=>h,⟨fun _ h=>h,⟨fun _ h=>h,trivial⟩⟩⟩⟩⟩;obtain rfl:=(h.sl 0 Z).2;obtain rfl:=(h.sl 1 Z).2;obtain rfl:=(h.sl 2 Z).2;obtain rfl:=(h.sl 4 Z).2;refine X0 4 Z ?_;obtain⟨KF1,hKF1,_,F,hK3⟩:=bindE F;refine qbe (fun e w'=>∃(b2:Bool),KF1 b2=V r∧e=[(2,.slice p6 a_2.length k6),(3,.int .i64 a_3),(4,.int .i64 a_4),(5,.int .i64 a_5),(6,.pointer (V ⟨bb1,0,U⟩)),(7,.pointer (V ⟨bb2,0,U⟩)),(12,.pointer (V ⟨bb3,0,U⟩)),(14,.pointer (V ⟨bb4,0,U⟩)),(57,.bool b2)]∧SH w w' [Ch.own S1 (x1:List (List Int)) [.slice p7 x1.length k7],Ch.own S2 (x2:List Int) [.slice p8 x2.length k8],Ch.own S3 (x3:List qt) [.slice p9 x3.length k9],Ch.box bb4 [.slice p1 a_0.Ap.Am.length k1,.slice p2 a_0.Aa.Ab.length k2,.slice p3 a_0.Aa.Ah.length k3,.slice p4 a_0.Aa.Af.length k4,.slice p5 a_0.Ac.length k5,.slice p10 x4.length k10,.slice p9 x3.length k9,.slice p8 x2.length k8,.slice p7 x1.length k7,.slice U 0 0] 155,Ch.own S4 (x4:List Tplace) [.slice p10 x4.length k10],Ch.box bb3 [.slice U 0 0,.slice U 0 0] 91,Ch.box bb2 (qad a_1) 77,Ch.box bb1 (qT a_0 p1 p2 p3 p4 p5 k1 k2 k3 k4 k5) 53]) ?_ ?_
 ·refine X0 3 Z (zcB h F (qmQ (qeb (x:=(⟨(⟨(⟨a_0.Ap.Am⟩:qr),(⟨a_0.Aa.Ab,a_0.Aa.Ah,a_0.Aa.Af⟩:qe),a_0.Ac⟩:qd),x4,x3,x2,x1,[]⟩:Tview)) 3 h Z (⟨[.slice p1 a_0.Ap.Am.length k1,.slice p2 a_0.Aa.Ab.length k2,.slice p3 a_0.Aa.Ah.length k3,.slice p4 a_0.Aa.Af.length k4,.slice p5 a_0.Ac.length k5],[.slice p10 x4.length k10,.slice p9 x3.length k9,.slice p8 x2.length k8,.slice p7 x1.length k7,.slice U 0 0],rfl,⟨[.slice p1 a_0.Ap.Am.length k1],[.slice p2 a_0.Aa.Ab.length k2,.slice p3 a_0.Aa.Ah.length k3,.slice p4 a_0.Aa.Af.length k4,.slice p5 a_0.Ac.length k5],rfl,⟨_,_,rfl,(h.oldS s1)⟩,⟨[.slice p2 a_0.Aa.Ab.length k2,.slice p3 a_0.Aa.Ah.length k3,.slice p4 a_0.Aa.Af.length k4],[.slice p5 a_0.Ac.length k5],rfl,⟨[.slice p2 a_0.Aa.Ab.length k2],[.slice p3 a_0.Aa.Ah.length k3,.slice p4 a_0.Aa.Af.length k4],rfl,⟨_,_,rfl,(h.oldS s2)⟩,⟨[.slice p3 a_0.Aa.Ah.length k3],[.slice p4 a_0.Aa.Af.length k4],rfl,⟨_,_,rfl,(h.oldS s3)⟩,⟨_,_,rfl,(h.oldS s4)⟩⟩⟩,⟨_,_,rfl,(h.oldS s5)⟩⟩⟩,⟨[.slice p10 x4.length k10],[.slice p9 x3.length k9,.slice p8 x2.length k8,.slice p7 x1.length k7,.slice U 0 0],rfl,(h.own 4 Z),⟨[.slice p9 x3.length k9],[.slice p8 x2.length k8,.slice p7 x1.length k7,.slice U 0 0],rfl,(h.own 2 Z),⟨[.slice p8 x2.length k8],[.slice p7 x1.length k7,.slice U 0 0],rfl,(h.own 1 Z),⟨[.slice p7 x1.length k7],[.slice U 0 0],rfl,(h.own 0 Z),⟨_,_,rfl,qo1⟩⟩⟩⟩⟩⟩)) ⟨_,_,rfl,(h.oldS s6)⟩) Z fun _ _ h F=>zp2 Z (qm (t:=40) F Z ?_ ?_))<;>intro F
  ·refine X0 18 Z ?_;obtain rfl:=qb F;exact rG ⟨_,hK3,rfl,h⟩ Z
  refine X0 6 Z (qm (t:=44) F Z ?_ ?_)<;>intro F
  ·refine X0 14 Z ?_;obtain rfl:=qb F;exact rG ⟨_,hK3,rfl,h⟩ Z
  refine X0 8 Z (qm (t:=49) F Z ?_ ?_)<;>intro F
  ·refine X0 9 Z ?_;obtain rfl:=qb F;exact rG ⟨_,hK3,rfl,h⟩ Z
  refine X0 6 Z (qm (t:=53) F Z ?_ ?_)<;>intro F
  ·refine X0 5 Z ?_;obtain rfl:=qb F;exact rG ⟨_,hK3,rfl,h⟩ Z
  refine X0 3 Z (zcB h F qaN Z fun _ _ h F=>X0 4 Z ?_);obtain rfl:=qb F;exact rG ⟨_,hK3,rfl,h⟩ Z
 rintro _ _ ⟨b2,F,rfl,h⟩;subst hKF1;refine qh Z F ?_ ?_<;>intro F
 ·refine zSR (r_v (qJ qa [] [] Z Z Z Z Z Z Z Z) Z (zs 5 h Z fun _ h=>X0 2 Z ?_));obtain rfl:=qb F;exact qae qa (ρ:=(qg×Int)) [GoT.v qg [.slice U 0 0,.slice U 0 0],GoT.v Int [.int .i64 2]] h ⟨⟨_,_,_,rfl,rfl,h.box 5 Z,rfl⟩,rfl,trivial⟩ (PV.done h (qap h (qaS (⟨[],[]⟩:qg) h qb8 qb8 (by rfl)) (qaj (qA (S:=fun _=>False) Z)) (by rfl)))
 refine X1 4 7 h Z (zcL h F (qlL (h.old ha1)) Z fun r2 _ S5 p11 k11 h F=>X0 9 Z (qh Z F ?_ ?_))<;>intro F
 ·refine zSR (r_v (qJ qa [] [] Z Z Z Z Z Z Z Z) Z (zs 6 h Z fun _ h=>X0 2 Z ?_));obtain rfl:=qb F;exact qae qa (ρ:=(qg×Int)) [GoT.v qg [.slice U 0 0,.slice U 0 0],GoT.v Int [.int .i64 3]] h ⟨⟨_,_,_,rfl,rfl,h.box 6 Z,rfl⟩,rfl,trivial⟩ (PV.done h (qap h (qaS (⟨[],[]⟩:qg) h qb8 qb8 (by rfl)) (qaj (qA (S:=fun _=>False) Z)) (by rfl)))
 refine X0 5 Z ?_;obtain⟨_,hr3,F⟩:=qc F;refine qvg (cB 105 Z) (qmP (qeb (x:=(⟨(⟨(⟨a_0.Ap.Am⟩:qr),(⟨a_0.Aa.Ab,a_0.Aa.Ah,a_0.Aa.Af⟩:qe),a_0.Ac⟩:qd),x4,x3,x2,x1,[]⟩:Tview)) 4 h Z (⟨[.slice p1 a_0.Ap.Am.length k1,.slice p2 a_0.Aa.Ab.length k2,.slice p3 a_0.Aa.Ah.length k3,.slice p4 a_0.Aa.Af.length k4,.slice p5 a_0.Ac.length k5],[.slice p10 x4.length k10,.slice p9 x3.length k9,.slice p8 x2.length k8,.slice p7 x1.length k7,.slice U 0 0],rfl,⟨[.slice p1 a_0.Ap.Am.length k1],[.slice p2 a_0.Aa.Ab.length k2,.slice p3 a_0.Aa.Ah.length k3,.slice p4 a_0.Aa.Af.length k4,.slice p5 a_0.Ac.length k5],rfl,⟨_,_,rfl,(h.oldS s1)⟩,⟨[.slice p2 a_0.Aa.Ab.length k2,.slice p3 a_0.Aa.Ah.length k3,.slice p4 a_0.Aa.Af.length k4],[.slice p5 a_0.Ac.length k5],rfl,⟨[.slice p2 a_0.Aa.Ab.length k2],[.slice p3 a_0.Aa.Ah.length k3,.slice p4 a_0.Aa.Af.length k4],rfl,⟨_,_,rfl,(h.oldS s2)⟩,⟨[.slice p3 a_0.Aa.Ah.length k3],[.slice p4 a_0.Aa.Af.length k4],rfl,⟨_,_,rfl,(h.oldS s3)⟩,⟨_,_,rfl,(h.oldS s4)⟩⟩⟩,⟨_,_,rfl,(h.oldS s5)⟩⟩⟩,⟨[.slice p10 x4.length k10],[.slice p9 x3.length k9,.slice p8 x2.length k8,.slice p7 x1.length k7,.slice U 0 0],rfl,(h.own 5 Z),⟨[.slice p9 x3.length k9],[.slice p8 x2.length k8,.slice p7 x1.length k7,.slice U 0 0],rfl,(h.own 3 Z),⟨[.slice p8 x2.length k8],[.slice p7 x1.length k7,.slice U 0 0],rfl,(h.own 2 Z),⟨[.slice p7 x1.length k7],[.slice U 0 0],rfl,(h.own 1 Z),⟨_,_,rfl,qo1⟩⟩⟩⟩⟩⟩)) ⟨_,_,rfl,(h.oldS s6)⟩ hr3) Z Z Z Z ?_;rintro _ _ _ hs2 ⟨bb5,S6,p12,ln5,k12,x5,rfl,rfl,rfl⟩;replace h:SH _ _ [Ch.box bb5 [.pointer (V ⟨bb4,0,U⟩),.slice p12 ln5 k12] 150,Ch.own S6 (x5:List Bool) [.slice p12 ln5 k12],Ch.own S5 (r2:List TlatchSite) [.slice p11 r2.length k11],Ch.own S1 (x1:List (List Int)) [.slice p7 x1.length k7],Ch.own S2 (x2:List Int) [.slice p8 x2.length k8],Ch.own S3 (x3:List qt) [.slice p9 x3.length k9],Ch.box bb4 [.slice p1 a_0.Ap.Am.length k1,.slice p2 a_0.Aa.Ab.length k2,.slice p3 a_0.Aa.Ah.length k3,.slice p4 a_0.Aa.Af.length k4,.slice p5 a_0.Ac.length k5,.slice p10 x4.length k10,.slice p9 x3.length k9,.slice p8 x2.length k8,.slice p7 x1.length k7,.slice U 0 0] 155,Ch.own S4 (x4:List Tplace) [.slice p10 x4.length k10],Ch.box bb3 [.slice U 0 0,.slice U 0 0] 91,Ch.box bb2 (qad a_1) 77,Ch.box bb1 (qT a_0 p1 p2 p3 p4 p5 k1 k2 k3 k4 k5) 53]:=SH.appendN h hs2 ⟨fun _ h=>h,⟨fun _ h=>h,trivial⟩⟩;obtain rfl:=(h.sl 1 Z).2;refine X2 15 0 6 h Z ?_;obtain⟨o1,F,hK1⟩:=qc F;refine qn ?_;replace h:=h.pick [0,1,2,3,4,5,6,7,8,9] Z;refine rL (fun m e w'=>∃(x6:(List Bool)) (i1:Int),qbi a_0 x1 x2 x3 x4 m x6 i1=V o1∧e=[(3,.int .i64 a_3),(4,.int .i64 a_4),(5,.int .i64 a_5),(7,.pointer (V ⟨bb2,0,U⟩)),(12,.pointer (V ⟨bb3,0,U⟩)),(14,.pointer (V ⟨bb4,0,U⟩)),(15,.slice p11 r2.length k11),(16,.pointer (V ⟨bb5,0,U⟩)),(74,.slice p9 x3.length k9),(75,.int .i64 (x3.length:Int)),(76,.int .i64 i1)]∧SH w w' [Ch.box bb5 [.pointer (V ⟨bb4,0,U⟩),.slice p12 x5.length k12] 150,Ch.own S6 (x6:List Bool) [.slice p12 x5.length k12],Ch.own S5 (r2:List TlatchSite) [.slice p11 r2.length k11],Ch.own S1 (x1:List (List Int)) [.slice p7 x1.length k7],Ch.own S2 (x2:List Int) [.slice p8 x2.length k8],Ch.own S3 (x3:List qt) [.slice p9 x3.length k9],Ch.box bb4 [.slice p1 a_0.Ap.Am.length k1,.slice p2 a_0.Aa.Ab.length k2,.slice p3 a_0.Aa.Ah.length k3,.slice p4 a_0.Aa.Af.length k4,.slice p5 a_0.Ac.length k5,.slice p10 x4.length k10,.slice p9 x3.length k9,.slice p8 x2.length k8,.slice p7 x1.length k7,.slice U 0 0] 155,Ch.own S4 (x4:List Tplace) [.slice p10 x4.length k10],Ch.box bb3 [.slice U 0 0,.slice U 0 0] 91,Ch.box bb2 (qad a_1) 77]) n ⟨_,_,F,rfl,h⟩ Z ?_;rintro m1 _ _ ⟨x6,i1,F,rfl,h⟩;rcases m1 with _|m1
 ·cases F
 refine X0 5 Z (qh Z F ?_ ?_)<;>intro F
 ·refine X0 6 Z ?_;obtain⟨y1,_,F,he1,_,_,_,_,hp1,hq1,hr4,hc5⟩:=(h.sl 5 Z).1.ix F;obtain rfl:=qav hr4;refine zx hp1 hq1 ⟨he1.1,qC he1.2.1 (h.sl 5 Z).2⟩ Z (zc 0 hc5 Z (qp qa h Z Z Z fun _ _ h=>zp1 Z (zs 0 h Z fun _ h=>qcP (rA [19] [0,1,2] h Z fun _ h=>M2 1023 [0,1,2,3,4,5,6,7,8,9] 1 1 (h.pick [0,1,2] Z) Z ?_))));obtain⟨_,hy2,F,he2,_,_,_,_,hp2,hq2,rfl,_⟩:=(h.sl 2 Z).1.ix F;refine Ax 10 2047 hp2 hq2 ⟨he2.1,qC he2.2.1 (h.sl 2 Z).2⟩ (h.pick [0,1,2] Z) Z (Aw 11 4095 (fun w' hw=>qhX qa (qbY (w1:=w) (S1:=fun _=>False) hw 2 Z hy2 hp2 hq2 Z) (j:=0) Z Z Z) (h.pick [0,1,2] Z) Z ?_);refine M0 8191 [12] (h.pick [0,1,2] Z) Z (qvc (t:=93) F Z ?_ ?_)<;>intro F
  ·refine qeh 13 Z (by kernel_rfl) (bits 20 16383) (by kernel_rfl) (by kernel_rfl) (fun w' hw=>v_p qa Z w') (h.pick [0,1,2] Z) Z (qeh 14 Z (by kernel_rfl) (bits 20 32767) (by kernel_rfl) (by kernel_rfl) (fun w' hw=>qhX qa (hw.box 0 Z) (j:=0) Z Z Z) (h.pick [0,1,2] Z) Z (Ao 15 65535 Z (X0 1 Z (zcB h F (qmF (qeb (x:=(⟨(⟨(⟨a_0.Ap.Am⟩:qr),(⟨a_0.Aa.Ab,a_0.Aa.Ah,a_0.Aa.Af⟩:qe),a_0.Ac⟩:qd),x4,x3,x2,x1,[]⟩:Tview)) 7 h Z (⟨[.slice p1 a_0.Ap.Am.length k1,.slice p2 a_0.Aa.Ab.length k2,.slice p3 a_0.Aa.Ah.length k3,.slice p4 a_0.Aa.Af.length k4,.slice p5 a_0.Ac.length k5],[.slice p10 x4.length k10,.slice p9 x3.length k9,.slice p8 x2.length k8,.slice p7 x1.length k7,.slice U 0 0],rfl,⟨[.slice p1 a_0.Ap.Am.length k1],[.slice p2 a_0.Aa.Ab.length k2,.slice p3 a_0.Aa.Ah.length k3,.slice p4 a_0.Aa.Af.length k4,.slice p5 a_0.Ac.length k5],rfl,⟨_,_,rfl,(h.oldS s1)⟩,⟨[.slice p2 a_0.Aa.Ab.length k2,.slice p3 a_0.Aa.Ah.length k3,.slice p4 a_0.Aa.Af.length k4],[.slice p5 a_0.Ac.length k5],rfl,⟨[.slice p2 a_0.Aa.Ab.length k2],[.slice p3 a_0.Aa.Ah.length k3,.slice p4 a_0.Aa.Af.length k4],rfl,⟨_,_,rfl,(h.oldS s2)⟩,⟨[.slice p3 a_0.Aa.Ah.length k3],[.slice p4 a_0.Aa.Af.length k4],rfl,⟨_,_,rfl,(h.oldS s3)⟩,⟨_,_,rfl,(h.oldS s4)⟩⟩⟩,⟨_,_,rfl,(h.oldS s5)⟩⟩⟩,⟨[.slice p10 x4.length k10],[.slice p9 x3.length k9,.slice p8 x2.length k8,.slice p7 x1.length k7,.slice U 0 0],rfl,(h.own 8 Z),⟨[.slice p9 x3.length k9],[.slice p8 x2.length k8,.slice p7 x1.length k7,.slice U 0 0],rfl,(h.own 6 Z),⟨[.slice p8 x2.length k8],[.slice p7 x1.length k7,.slice U 0 0],rfl,(h.own 5 Z),⟨[.slice p7 x1.length k7],[.slice U 0 0],rfl,(h.own 4 Z),⟨_,_,rfl,qo1⟩⟩⟩⟩⟩⟩)) (qcf y1)) Z fun r4 _ h F=>Ag (h.pick [0,1,2] Z) (qeh 16 Z (by kernel_rfl) (bits 20 131071) (by kernel_rfl) (by kernel_rfl) (fun w' hw=>v_p qa Z w') (h.pick [0,1,2] Z) Z (M0 262143 [17] (h.pick [0,1,2] Z) Z ?_))))));obtain⟨_,hy3,F,he3,_,_,_,_,hp3,hq3,rfl,hc7⟩:=(h.sl 2 Z).1.ix F;refine Ax 18 524287 hp3 hq3 ⟨he3.1,qC he3.2.1 (h.sl 2 Z).2⟩ (h.pick [0,1,2] Z) Z (Ao 19 1048575 Z (qay qa 2 0 (!r4) h Z hy3 hp3 hq3 Z hc7 Z Z Z Z Z Z Z fun _ h=>qbf (fun hs=>absurd (hs 19 (by decide)) (by decide)) (Ad (X0 5 Z ?_))));replace h:=h.pick [1,2,3,4,5,6,7,8,9,10] Z;exact rK ⟨_,_,F,rfl,h⟩ Z
  refine qh3 13 Z (by kernel_rfl) Z (bits 20 16383) (by kernel_rfl) (by kernel_rfl) (h.pick [0,1,2] Z) Z (qh3 14 Z (by kernel_rfl) Z (bits 20 32767) (by kernel_rfl) (by kernel_rfl) (h.pick [0,1,2] Z) Z (qh3 15 Z (by kernel_rfl) Z (bits 20 65535) (by kernel_rfl) (by kernel_rfl) (h.pick [0,1,2] Z) Z (qh3 16 Z (by kernel_rfl) Z (bits 20 131071) (by kernel_rfl) (by kernel_rfl) (h.pick [0,1,2] Z) Z (M0 262143 [17] (h.pick [0,1,2] Z) Z ?_))));obtain⟨_,hy4,F,he4,_,_,_,_,hp4,hq4,rfl,hc8⟩:=(h.sl 2 Z).1.ix F;refine Ax 18 524287 hp4 hq4 ⟨he4.1,qC he4.2.1 (h.sl 2 Z).2⟩ (h.pick [0,1,2] Z) Z (Ao 19 1048575 Z (qay qa 2 0 false h Z hy4 hp4 hq4 Z hc8 Z Z Z Z Z Z Z fun _ h=>qbf (fun hs=>absurd (hs 19 (by decide)) (by decide)) (Ad (X0 5 Z ?_))));replace h:=h.pick [1,2,3,4,5,6,7,8,9,10] Z;exact rK ⟨_,_,F,rfl,h⟩ Z
 refine qq Z ?_;obtain rfl:=qb F;replace F:=hK1;refine X0 3 Z ?_;obtain⟨r5,hr9,F⟩:=qc F;obtain⟨r6,r7⟩:=r5;refine qa3 (r6,r7) h (cB 107 Z) (qnW (qeb (x:=(⟨(V (⟨(⟨(⟨a_0.Ap.Am⟩:qr),(⟨a_0.Aa.Ab,a_0.Aa.Ah,a_0.Aa.Af⟩:qe),a_0.Ac⟩:qd),x4,x3,x2,x1,[]⟩:Tview)),x6⟩:Tgraph)) 0 h Z (⟨[.pointer (V ⟨bb4,0,U⟩)],[.slice p12 x5.length k12],rfl,(qeb (x:=(⟨(⟨(⟨a_0.Ap.Am⟩:qr),(⟨a_0.Aa.Ab,a_0.Aa.Ah,a_0.Aa.Af⟩:qe),a_0.Ac⟩:qd),x4,x3,x2,x1,[]⟩:Tview)) 6 h Z (⟨[.slice p1 a_0.Ap.Am.length k1,.slice p2 a_0.Aa.Ab.length k2,.slice p3 a_0.Aa.Ah.length k3,.slice p4 a_0.Aa.Af.length k4,.slice p5 a_0.Ac.length k5],[.slice p10 x4.length k10,.slice p9 x3.length k9,.slice p8 x2.length k8,.slice p7 x1.length k7,.slice U 0 0],rfl,⟨[.slice p1 a_0.Ap.Am.length k1],[.slice p2 a_0.Aa.Ab.length k2,.slice p3 a_0.Aa.Ah.length k3,.slice p4 a_0.Aa.Af.length k4,.slice p5 a_0.Ac.length k5],rfl,⟨_,_,rfl,(h.oldS s1)⟩,⟨[.slice p2 a_0.Aa.Ab.length k2,.slice p3 a_0.Aa.Ah.length k3,.slice p4 a_0.Aa.Af.length k4],[.slice p5 a_0.Ac.length k5],rfl,⟨[.slice p2 a_0.Aa.Ab.length k2],[.slice p3 a_0.Aa.Ah.length k3,.slice p4 a_0.Aa.Af.length k4],rfl,⟨_,_,rfl,(h.oldS s2)⟩,⟨[.slice p3 a_0.Aa.Ah.length k3],[.slice p4 a_0.Aa.Af.length k4],rfl,⟨_,_,rfl,(h.oldS s3)⟩,⟨_,_,rfl,(h.oldS s4)⟩⟩⟩,⟨_,_,rfl,(h.oldS s5)⟩⟩⟩,⟨[.slice p10 x4.length k10],[.slice p9 x3.length k9,.slice p8 x2.length k8,.slice p7 x1.length k7,.slice U 0 0],rfl,(h.own 7 Z),⟨[.slice p9 x3.length k9],[.slice p8 x2.length k8,.slice p7 x1.length k7,.slice U 0 0],rfl,(h.own 5 Z),⟨[.slice p8 x2.length k8],[.slice p7 x1.length k7,.slice U 0 0],rfl,(h.own 4 Z),⟨[.slice p7 x1.length k7],[.slice U 0 0],rfl,(h.own 3 Z),⟨_,_,rfl,qo1⟩⟩⟩⟩⟩⟩)),(h.own 1 Z)⟩)) hr9) Z Z Z Z fun _ _ _ hv1 hr10=>?_;obtain⟨S8,_,p13,k13,_,rfl,hv2,hr11⟩:=hv1.consL hr10;obtain⟨rfl,h⟩:=hv2.lastB hr11;refine X0 12 Z (qh Z F ?_ ?_)<;>intro F
 ·refine zSR (r_v (qJ qa [] [] Z Z Z Z Z Z Z Z) Z (zs 9 h Z fun _ h=>X0 2 Z ?_));obtain rfl:=qb F;exact qae qa (ρ:=(qg×Int)) [GoT.v qg [.slice U 0 0,.slice U 0 0],GoT.v Int [.int .i64 7]] h ⟨⟨_,_,_,rfl,rfl,h.box 9 Z,rfl⟩,rfl,trivial⟩ (PV.done h (qap h (qaS (⟨[],[]⟩:qg) h qb8 qb8 (by rfl)) (qaj (qA (S:=fun _=>False) Z)) (by rfl)))
 refine zKSR (qp qa h Z Z Z fun _ bb7 h=>X0 8 Z ?_);replace h:=h.nil (α:=qE);replace h:=h.nil (α:=qf);obtain⟨o2,F,hK2⟩:=qc F;refine qn (rL (fun m e w'=>∃(S11:Nat→Prop) (p14:Option Addr) (ln6:Nat) (k14:Nat) (x7:(List qf)) (S12:Nat→Prop) (p15:Option Addr) (ln7:Nat) (k15:Nat) (x8:(List qE)) (i2:Int),qbU a_0 a_1 a_3 a_4 a_5 x1 x2 x3 x4 r2 x6 r6 m x7 x8 i2=V o2∧e=[(3,.int .i64 a_3),(4,.int .i64 a_4),(5,.int .i64 a_5),(7,.pointer (V ⟨bb2,0,U⟩)),(12,.pointer (V ⟨bb3,0,U⟩)),(15,.slice p11 r2.length k11),(16,.pointer (V ⟨bb5,0,U⟩)),(19,.slice p13 r6.length k13),(21,.pointer (V ⟨bb7,0,U⟩)),(110,.int .i64 (r2.length:Int)),(111,.int .i64 i2)]∧SH w w' [Ch.own S11 (x7:List qf) [.slice p14 ln6 k14],Ch.own S12 (x8:List qE) [.slice p15 ln7 k15],Ch.box bb7 [.slice p15 ln7 k15,.slice p14 ln6 k14] 91,Ch.own S8 (r6:List Int) [.slice p13 r6.length k13],Ch.box bb5 [.pointer (V ⟨bb4,0,U⟩),.slice p12 x5.length k12] 150,Ch.own S6 (x6:List Bool) [.slice p12 x5.length k12],Ch.own S5 (r2:List TlatchSite) [.slice p11 r2.length k11],Ch.own S1 (x1:List (List Int)) [.slice p7 x1.length k7],Ch.own S2 (x2:List Int) [.slice p8 x2.length k8],Ch.own S3 (x3:List qt) [.slice p9 x3.length k9],Ch.box bb4 [.slice p1 a_0.Ap.Am.length k1,.slice p2 a_0.Aa.Ab.length k2,.slice p3 a_0.Aa.Ah.length k3,.slice p4 a_0.Aa.Af.length k4,.slice p5 a_0.Ac.length k5,.slice p10 x4.length k10,.slice p9 x3.length k9,.slice p8 x2.length k8,.slice p7 x1.length k7,.slice U 0 0] 155,Ch.own S4 (x4:List Tplace) [.slice p10 x4.length k10],Ch.box bb3 [.slice U 0 0,.slice U 0 0] 91,Ch.box bb2 (qad a_1) 77]) n ⟨_,_,_,_,_,_,_,_,_,_,_,F,rfl,h⟩ Z ?_);rintro m2 _ _ ⟨S11,p14,ln6,k14,x7,S12,p15,ln7,k15,x8,i2,F,rfl,h⟩;obtain rfl:=(h.sl 0 Z).2;obtain rfl:=(h.sl 1 Z).2;rcases m2 with _|m2
 ·cases F
 refine X0 5 Z (qh Z F ?_ ?_)<;>intro F
 ·refine X1 16 13 h Z ?_;obtain⟨r8,hr13,F⟩:=qc F;obtain⟨r9,r10⟩:=r8;refine qa3 (r9,r10) h (cB 108 Z) (qlR (qeb (x:=(⟨(V (⟨(⟨(⟨a_0.Ap.Am⟩:qr),(⟨a_0.Aa.Ab,a_0.Aa.Ah,a_0.Aa.Af⟩:qe),a_0.Ac⟩:qd),x4,x3,x2,x1,[]⟩:Tview)),x6⟩:Tgraph)) 4 h Z (⟨[.pointer (V ⟨bb4,0,U⟩)],[.slice p12 x5.length k12],rfl,(qeb (x:=(⟨(⟨(⟨a_0.Ap.Am⟩:qr),(⟨a_0.Aa.Ab,a_0.Aa.Ah,a_0.Aa.Af⟩:qe),a_0.Ac⟩:qd),x4,x3,x2,x1,[]⟩:Tview)) 10 h Z (⟨[.slice p1 a_0.Ap.Am.length k1,.slice p2 a_0.Aa.Ab.length k2,.slice p3 a_0.Aa.Ah.length k3,.slice p4 a_0.Aa.Af.length k4,.slice p5 a_0.Ac.length k5],[.slice p10 x4.length k10,.slice p9 x3.length k9,.slice p8 x2.length k8,.slice p7 x1.length k7,.slice U 0 0],rfl,⟨[.slice p1 a_0.Ap.Am.length k1],[.slice p2 a_0.Aa.Ab.length k2,.slice p3 a_0.Aa.Ah.length k3,.slice p4 a_0.Aa.Af.length k4,.slice p5 a_0.Ac.length k5],rfl,⟨_,_,rfl,(h.oldS s1)⟩,⟨[.slice p2 a_0.Aa.Ab.length k2,.slice p3 a_0.Aa.Ah.length k3,.slice p4 a_0.Aa.Af.length k4],[.slice p5 a_0.Ac.length k5],rfl,⟨[.slice p2 a_0.Aa.Ab.length k2],[.slice p3 a_0.Aa.Ah.length k3,.slice p4 a_0.Aa.Af.length k4],rfl,⟨_,_,rfl,(h.oldS s2)⟩,⟨[.slice p3 a_0.Aa.Ah.length k3],[.slice p4 a_0.Aa.Af.length k4],rfl,⟨_,_,rfl,(h.oldS s3)⟩,⟨_,_,rfl,(h.oldS s4)⟩⟩⟩,⟨_,_,rfl,(h.oldS s5)⟩⟩⟩,⟨[.slice p10 x4.length k10],[.slice p9 x3.length k9,.slice p8 x2.length k8,.slice p7 x1.length k7,.slice U 0 0],rfl,(h.own 11 Z),⟨[.slice p9 x3.length k9],[.slice p8 x2.length k8,.slice p7 x1.length k7,.slice U 0 0],rfl,(h.own 9 Z),⟨[.slice p8 x2.length k8],[.slice p7 x1.length k7,.slice U 0 0],rfl,(h.own 8 Z),⟨[.slice p7 x1.length k7],[.slice U 0 0],rfl,(h.own 7 Z),⟨_,_,rfl,qo1⟩⟩⟩⟩⟩⟩)),(h.own 5 Z)⟩)) (h.old ha2) (h.own 3 Z) (h.own 6 Z) hr13) Z Z Z Z fun _ _ _ hv4 hr14=>?_;obtain⟨_,_,_,_,_,rfl,hv5,hr15⟩:=hv4.consL hr14;obtain⟨rfl,h⟩:=hv5.lastB hr15;refine X0 12 Z (qh Z F ?_ ?_)<;>intro F
  ·refine zSR (r_v (qJ qa [] [] Z Z Z Z Z Z Z Z) Z (zs 13 h Z fun _ h=>X0 2 Z ?_));obtain rfl:=qb F;replace F:=hK2;obtain rfl:=qb F;exact qae qa (ρ:=(qg×Int)) [GoT.v qg [.slice U 0 0,.slice U 0 0],GoT.v Int [.int .i64 3]] h ⟨⟨_,_,_,rfl,rfl,h.box 13 Z,rfl⟩,rfl,trivial⟩ (PV.done h (qap h (qaS (⟨[],[]⟩:qg) h qb8 qb8 (by rfl)) (qaj (qA (S:=fun _=>False) Z)) (by rfl)))
  refine X1 7 3 h Z (r_v (qJ qa [0,1] [.tmp 129,.tmp 130] Z Z Z Z Z Z Z Z) Z (qK qa [.tmp 131] _ ([(⟨a_3,a_4⟩:qE)]:List qE) h Z Z Z Z Z Z Z Z Z ⟨(qhv (⟨a_3,a_4⟩:qE)),trivial⟩ Z fun _ _ _ h=>?_));obtain⟨_,hx1,F⟩:=qc F;obtain⟨g1,hx1⟩:=qan hx1;refine qbW qa 3 h Z (h.sl 0 Z).1 (h.sl 0 Z).2 Z Z Z Z Z Z Z Z Z g1 hx1 Z fun _ _ _ _ h=>zp1 Z (zs 4 h Z fun _ h=>X1 5 4 h Z ?_);obtain⟨_,hx2,F⟩:=qc F;obtain⟨g2,hx2⟩:=qan hx2;refine qbW qa 2 h Z (h.sl 1 Z).1 (h.sl 1 Z).2 Z Z Z Z Z Z Z Z Z g2 hx2 Z fun _ _ _ _ h=>zp1 Z (zs 4 h Z fun _ h=>X0 6 Z ?_);replace h:=h.pick [2,3,4,5,6,7,8,9,10,11,12,13,14,15] Z;exact rK ⟨_,_,_,_,_,_,_,_,_,_,_,F,rfl,h⟩ Z
 refine qq Z ?_;obtain rfl:=qb F;replace F:=hK2;refine X1 8 2 h Z (qh Z F ?_ ?_)<;>intro F
 ·refine zSR (r_v (qJ qa [] [] Z Z Z Z Z Z Z Z) Z (zs 12 h Z fun _ h=>X0 2 Z ?_));obtain rfl:=qb F;exact qae qa (ρ:=(qg×Int)) [GoT.v qg [.slice U 0 0,.slice U 0 0],GoT.v Int [.int .i64 3]] h ⟨⟨_,_,_,rfl,rfl,h.box 12 Z,rfl⟩,rfl,trivial⟩ (PV.done h (qap h (qaS (⟨[],[]⟩:qg) h qb8 qb8 (by rfl)) (qaj (qA (S:=fun _=>False) Z)) (by rfl)))
 refine X1 4 2 h Z (zs 12 h Z fun _ h=>X0 2 Z ?_);obtain rfl:=qb F;exact qae qa (ρ:=(qg×Int)) [GoT.v qg [.slice p15 x8.length k15,.slice p14 x7.length k14],GoT.v Int [.int .i64 0]] h ⟨⟨_,_,_,rfl,rfl,h.box 12 Z,rfl⟩,rfl,trivial⟩ (PV.done h (qap h (qaS (⟨x8,x7⟩:qg) h (qaA 1 h Z) (qaA 0 h Z) (by rfl)) (qaj (qA (S:=fun _=>False) Z)) (by rfl)))
def qi9 (_:Nat)(a:qE)(b:qE):Option Bool:=
 bif (a.Cc != b.Cc) then V false else
 bif (a.Ca != b.Ca) then V false else
 V true
theorem qqu {a:qE}{b:qE}(ha1:Ro w a cs1)(ha2:Ro w b cs2){r:Bool}(F:qi9 n a b=V r):RetV prog 191 [GoT.v qE cs1,GoT.v qE cs2] w r:=by
 obtain rfl:=qgg ha1;obtain rfl:=qgg ha2;refine zV 15 func191 Z fun h=>zSR (qx h Z Z fun _ _ h=>qx h Z Z fun _ _ h=>X2 11 1 0 h Z (qh Z F ?_ ?_))<;>intro F
 ·exact X0 4 Z (rb h F Z)
 refine X2 10 1 0 h Z (qh Z F ?_ ?_)<;>intro F
 ·exact X0 4 Z (rb h F Z)
 exact X0 5 Z (rb h F Z)
def qf3 (a:(List qE))(b:(List qE)):Nat→Int→Option (Flow Bool Int)
 | 0,_=>U
 | n+1,i1=>
  bif decide (i1<(a.length:Int)) then
   (idx a i1).bind fun y1=>
   (idx b i1).bind fun y2=>
   (qi9 n y1 y2).bind fun r1=>
   bif (!r1) then V (.ret false) else
   qf3 a b n (W64 (i1+1))
  else
   V (.nxt i1)
def qjC (n:Nat)(a:(List qE))(b:(List qE)):Option Bool:=
 bif ((a.length:Int) != (b.length:Int)) then V false else
 (qf3 a b n 0).bind fun o=>match o with
 | .ret r=>V r
 | .nxt _=>
  V true
theorem qpu {a:(List qE)}{b:(List qE)}(ha1:Ro w a cs1)(ha2:Ro w b cs2){r:Bool}(F:qjC n a b=V r):RetV prog 109 [GoT.v (List qE) cs1,GoT.v (List qE) cs2] w r:=by
 obtain⟨p1,k1,rfl,s1⟩:=ha1;obtain⟨p2,k2,rfl,s2⟩:=ha2;refine zV 27 func109 Z fun h=>X0 13 Z (qh Z F ?_ ?_)<;>intro F
 ·exact X0 4 Z (rb h F Z)
 refine X0 6 Z ?_;obtain⟨o1,F,hK1⟩:=qc F;refine qn (rL (fun m e w'=>∃(i1:Int),qf3 a b m i1=V o1∧e=[(0,.slice p1 a.length k1),(1,.slice p2 b.length k2),(5,.int .i64 i1)]∧SH w w' []) n ⟨_,F,rfl,h⟩ Z ?_);rintro m1 _ _ ⟨i1,F,rfl,h⟩;rcases m1 with _|m1
 ·cases F
 refine X0 8 Z (qh Z F ?_ ?_)<;>intro F
 ·refine X0 4 Z (rD (zd2 Z ?_));obtain⟨y1,_,F,he1,_,_,_,_,hp1,hq1,hr1,hc3⟩:=s1.ix F;obtain rfl:=qgg hr1;refine zdxe hp1 hq1 he1 Z (zdc 0 (hc3.below h.below) Z (zd2 Z ?_));obtain⟨y2,_,F,he2,_,_,_,_,hp2,hq2,hr2,hc4⟩:=s2.ix F;obtain rfl:=qgg hr2;refine zdxe hp2 hq2 he2 Z (zdc 0 (hc4.below h.below) Z ?_);obtain⟨r1,hr3,F⟩:=qc F;refine qbJ r1 (vsB _) (cB 191 Z) (fun _ hb=>qqu (qhv y1) (qhv y2) hr3) Z Z Z Z (zd1 Z (dN h fun _ h=>qh Z F ?_ ?_))<;>intro F
  ·refine X0 4 Z ?_;obtain rfl:=qb F;replace F:=hK1;exact rb h F Z
  exact X0 7 Z (rK ⟨_,F,rfl,h⟩ Z)
 refine qq Z ?_;obtain rfl:=qb F;replace F:=hK1;exact X0 4 Z (rb h F Z)
def qge (_:Nat)(a:qf)(b:qf):Option Bool:=
 bif (a.Bc != b.Bc) then V false else
 bif (a.To != b.To) then V false else
 bif (a.Bk != b.Bk) then V false else
 bif (a.Cb != b.Cb) then V false else
 V true
theorem qnS {a:qf}{b:qf}(ha1:Ro w a cs1)(ha2:Ro w b cs2){r:Bool}(F:qge n a b=V r):RetV prog 192 [GoT.v qf cs1,GoT.v qf cs2] w r:=by
 obtain rfl:=qbn ha1;obtain rfl:=qbn ha2;refine zV 25 func192 Z fun h=>zSR (qx h Z Z fun _ _ h=>qx h Z Z fun _ _ h=>X2 11 1 0 h Z (qh Z F ?_ ?_))<;>intro F
 ·exact X0 4 Z (rb h F Z)
 refine X2 10 1 0 h Z (qh Z F ?_ ?_)<;>intro F
 ·exact X0 4 Z (rb h F Z)
 refine X2 10 1 0 h Z (qh Z F ?_ ?_)<;>intro F
 ·exact X0 4 Z (rb h F Z)
 refine X2 10 1 0 h Z (qh Z F ?_ ?_)<;>intro F
 ·exact X0 4 Z (rb h F Z)
 exact X0 5 Z (rb h F Z)
def qdH (a:(List qf))(b:(List qf)):Nat→Int→Option (Flow Bool Int)
 | 0,_=>U
 | n+1,i1=>
  bif decide (i1<(a.length:Int)) then
   (idx a i1).bind fun y1=>
   (idx b i1).bind fun y2=>
   (qge n y1 y2).bind fun r1=>
   bif (!r1) then V (.ret false) else
   qdH a b n (W64 (i1+1))
  else
   V (.nxt i1)
def qg3 (n:Nat)(a:(List qf))(b:(List qf)):Option Bool:=
 bif ((a.length:Int) != (b.length:Int)) then V false else
 (qdH a b n 0).bind fun o=>match o with
 | .ret r=>V r
 | .nxt _=>
  V true
theorem qm2 {a:(List qf)}{b:(List qf)}(ha1:Ro w a cs1)(ha2:Ro w b cs2){r:Bool}(F:qg3 n a b=V r):RetV prog 110 [GoT.v (List qf) cs1,GoT.v (List qf) cs2] w r:=by
 obtain⟨p1,k1,rfl,s1⟩:=ha1;obtain⟨p2,k2,rfl,s2⟩:=ha2;refine zV 27 func110 Z fun h=>X0 13 Z (qh Z F ?_ ?_)<;>intro F
 ·exact X0 4 Z (rb h F Z)
 refine X0 6 Z ?_;obtain⟨o1,F,hK1⟩:=qc F;refine qn (rL (fun m e w'=>∃(i1:Int),qdH a b m i1=V o1∧e=[(0,.slice p1 a.length k1),(1,.slice p2 b.length k2),(5,.int .i64 i1)]∧SH w w' []) n ⟨_,F,rfl,h⟩ Z ?_);rintro m1 _ _ ⟨i1,F,rfl,h⟩;rcases m1 with _|m1
 ·cases F
 refine X0 8 Z (qh Z F ?_ ?_)<;>intro F
 ·refine X0 4 Z (rD (zd2 Z ?_));obtain⟨y1,_,F,he1,_,_,_,_,hp1,hq1,hr1,hc3⟩:=s1.ix F;obtain rfl:=qbn hr1;refine zdxe hp1 hq1 he1 Z (zdc 0 (hc3.below h.below) Z (zd2 Z ?_));obtain⟨y2,_,F,he2,_,_,_,_,hp2,hq2,hr2,hc4⟩:=s2.ix F;obtain rfl:=qbn hr2;refine zdxe hp2 hq2 he2 Z (zdc 0 (hc4.below h.below) Z ?_);obtain⟨r1,hr3,F⟩:=qc F;refine qbJ r1 (vsB _) (cB 192 Z) (fun _ hb=>qnS (qbI y1) (qbI y2) hr3) Z Z Z Z (zd1 Z (dN h fun _ h=>qh Z F ?_ ?_))<;>intro F
  ·refine X0 4 Z ?_;obtain rfl:=qb F;replace F:=hK1;exact rb h F Z
  exact X0 7 Z (rK ⟨_,F,rfl,h⟩ Z)
 refine qq Z ?_;obtain rfl:=qb F;replace F:=hK1;exact X0 4 Z (rb h F Z)
def qdp (n:Nat)(a:qg)(b:qg):Option Bool:=
 (qjC n a.Av b.Av).bind fun r1=>
 bif (!r1) then V false else
 (qg3 n a.Bg b.Bg).bind fun r2=>
 bif (!r2) then V false else
 V true
theorem qgY {a:qg}{b:qg}(ha1:Ro w a cs1)(ha2:Ro w b cs2){r:Bool}(F:qdp n a b=V r):RetV prog 38 [GoT.v qg cs1,GoT.v qg cs2] w r:=by
 obtain⟨_,_,_,_,rfl,s1,s2⟩:=qax ha1;obtain⟨_,_,_,_,rfl,s3,s4⟩:=qax ha2;refine zV 17 func38 Z fun h=>zSR (qx h Z Z fun _ _ h=>qx h Z Z fun _ _ h=>X2 9 1 0 h Z (zcB h F (qpu ⟨_,_,rfl,(h.oldS s1)⟩ ⟨_,_,rfl,(h.oldS s3)⟩) Z fun _ _ h F=>X0 2 Z (qh Z F ?_ ?_)))<;>intro F
 ·exact X0 4 Z (rb h F Z)
 refine X2 8 1 0 h Z (zcB h F (qm2 ⟨_,_,rfl,(h.oldS s2)⟩ ⟨_,_,rfl,(h.oldS s4)⟩) Z fun _ _ h F=>X0 2 Z (qh Z F ?_ ?_))<;>intro F
 ·exact X0 4 Z (rb h F Z)
 exact X0 5 Z (rb h F Z)
end Go.Fw


namespace Go.Fw
open Go Go.Proofs Go.Proofs.Tryz
open Go.RowKit (Below)
set_option maxRecDepth 100000
set_option maxHeartbeats 1600000
variable {n:Nat}{w:World}{cs1 cs2 cs3 cs4 cs5 cs6 cs7 cs8 cs9:List Value}
def qcA (a:(List Int)):Nat→(List Int)→Int→Int→Option ((List Int)×Int×Int)
 | 0,_,_,_=>U
 | n+1,x1,i1,i2=>
  bif decide (i2<(a.length:Int)) then
   (idx x1 i2).bind fun _=>
   qcA a n (setS x1 i2 i1) (W64 (i1+1)) (W64 (i2+1))
  else
   V (x1,i1,i2)
def qaR (n:Nat)(a:(List Int))(k:Int):Option (Int×(List Int)):=
 (qcA a n a k 0).bind fun o=>match o with
 | (x1,i1,_)=>
  V (i1,x1)
theorem qa0 {n:Nat}{w0 w:World}{F:List Ch}{a:(List Int)}{k:Int}{S1:Nat→Prop}{p1:Option Addr}{ln1 k1:Nat}(h:SH w0 w (Ch.own S1 (a:List Int) [.slice p1 ln1 k1]::F)){r:(Int×(List Int))}(hF:qaR n a k=V r):RetN prog 22 [.slice p1 ln1 k1,.int .i64 k] w (fun w'=>∃ Z0:Nat→Prop,SH w0 w' (Ch.own Z0 (r.2:List Int) [.slice p1 ln1 k1]::F)) r.1:=by
 refine qb9 func22 Z (m:=19) Z Z ?_;obtain rfl:=(h.sl 0 Z).2;refine X0 9 Z ?_;obtain⟨o1,hF,hK1⟩:=qc hF;refine qn (rL (fun m e w'=>∃(x1:(List Int)) (i1:Int) (i2:Int),qcA a m x1 i1 i2=V o1∧e=[(0,.slice p1 a.length k1),(1,.int .i64 i1),(5,.int .i64 i2)]∧SH w0 w' (Ch.own S1 (x1:List Int) [.slice p1 a.length k1]::F)) n ⟨_,_,_,hF,rfl,h⟩ Z ?_);rintro m1 _ _ ⟨x1,i1,i2,hF,rfl,h⟩;rcases m1 with _|m1
 ·cases hF
 refine X0 8 Z (qh Z hF ?_ ?_)<;>intro hF
 ·refine X0 8 Z ?_;obtain⟨_,hy1,hF,he1,_,_,_,_,hp1,hq1,rfl,hc2⟩:=(h.sl 0 Z).1.ix hF;exact zx hp1 hq1 ⟨he1.1,qC he1.2.1 (h.sl 0 Z).2⟩ Z (qay qa 0 0 i1 h Z hy1 hp1 hq1 Z hc2 Z Z Z Z Z Z Z fun _ h=>X0 12 Z (rK ⟨_,_,_,hF,rfl,h⟩ Z))
 refine qq Z ?_;obtain rfl:=qb hF;replace hF:=hK1;refine X0 5 Z ?_;obtain rfl:=qb hF;exact qir qa ⟨_,h⟩ ⟨rfl,trivial⟩
end Go.Fw


namespace Go.Fw
open Go
structure qzc (x:qjp):Prop where
 A:okI x.A
 B:okI x.B
 Cd:okI x.Cd
structure qxG (x:qE):Prop where
 Cc:okI x.Cc
 Ca:okI x.Ca
theorem qwv {a:qE}:Ev (fun n=>qi9 n a a) true:=by
 unfold qi9;exact Ev.ff qaX (Ev.ff qaX (.done))
structure qsY (x:qf):Prop where
 Bc:okI x.Bc
 To:okI x.To
 Bk:okI x.Bk
 Cb:okI x.Cb
theorem qtb {a:qf}:Ev (fun n=>qge n a a) true:=by
 unfold qge;exact Ev.ff qaX (Ev.ff qaX (Ev.ff qaX (Ev.ff qaX (.done))))
def qja (a:(List qf)):Nat:=a.length
theorem qrG {a:(List qf)}(h:qja a≤1048576):Ev (fun n=>qg3 n a a) true:=by
 have hl:a.length≤1048576:=by simp only[qja] at h;omega
 unfold qg3;exact Ev.ff (by simp) (Ev.bind (b:=.nxt (a.length:Int)) (qje (eqf:=qge) (fun x hx=>qtb)
  (fun n=>by simp only[qdH,ql (je _),cond_false])
  (fun n j x hx=>by
   have hj:=(List.getElem?_eq_some_iff.1 hx).1;simp only[qdH,qj hj,cond_true,qas hx,jd,wS j])) .done)
def qm0 (a:(List qE)):Nat:=a.length
theorem qvE {a:(List qE)}(h:qm0 a≤1048576):Ev (fun n=>qjC n a a) true:=by
 have hl:a.length≤1048576:=by simp only[qm0] at h;omega
 unfold qjC;exact Ev.ff (by simp) (Ev.bind (b:=.nxt (a.length:Int)) (qje (eqf:=qi9) (fun x hx=>qwv)
  (fun n=>by simp only[qf3,ql (je _),cond_false])
  (fun n j x hx=>by
   have hj:=(List.getElem?_eq_some_iff.1 hx).1;simp only[qf3,qj hj,cond_true,qas hx,jd,wS j])) .done)
def qfJ (x:qg):Nat:=qm0 x.Av+qja x.Bg
structure qxf (x:qg):Prop where
 Av:(okL qxG) x.Av
 Bg:(okL qsY) x.Bg
theorem qlb {a:qg}(h:qfJ a≤1048576):Ev (fun n=>qdp n a a) true:=by
 unfold qdp;simp only[qfJ] at h;exact Ev.bind (qvE (a:=a.Av) (by omega)) (Ev.ff Z (Ev.bind (qrG (a:=a.Bg) (by omega)) (Ev.ff Z (.done))))
structure qqx (x:qi):Prop where
 Ar:okI x.Ar
 Ay:okI x.Ay
structure qzP (x:qw):Prop where
 Bt:okI x.Bt
 Ai:qqx x.Ai
 Ba:qqx x.Ba
structure qzO (x:qB):Prop where
 Bb:(okL okT) x.Bb
 Ai:(okL qqx) x.Ai
 Ba:(okL qqx) x.Ba
def qmj (x:qy):Prop:=rngS x.Au∧rngI x.Be∧rngI x.Bh∧rngI x.Bf∧rngI x.Bj
def qlY (x:qy):Nat:=x.Au.size
structure qvX (x:qy):Prop where
 Au:okS x.Au
 Be:okI x.Be
 Bh:okI x.Bh
 Bf:okI x.Bf
 Bj:okI x.Bj
theorem qtm {x:qy}(h:qmj x)(w:qlY x≤1048576):qvX x:=⟨(by unfold okS;simp only[qlY] at w;omega),h.2.1,h.2.2.1,h.2.2.2.1,h.2.2.2.2⟩
theorem qwb {a:qy}{left:Int}(h:qmj a)(h0:0≤left)(h1:left≤1048576):Sz (fun n=>qjG n a left) (fun r=>r=left-(qlY a:Int)):=by
 unfold qjG;obtain⟨h_0,h_1,h_2,h_3,h_4⟩:=h;exact Sz.strStep h_0 (by omega) (by omega) fun p0 q0=>Sz.done p0 (by simp only[qlY];omega)
theorem qpn {a:qy}(_:qlY a≤1048576):Ev (fun n=>qgS n a) a:=by
 unfold qgS;exact .done
end Go.Fw


namespace Go.Fw
open Go
set_option maxRecDepth 100000
abbrev lkB (b:qd):Nat:=(linksL b).length
abbrev ndB (b:qd):Nat:=2*(places b.Aa).length
abbrev lvJ (b:qd)(br:List Int):List Bool:=lvB br (lkB b)
structure TgOk (b:qd)(c:qy)(br:List Int)(xs:List qw)(R:List Nat):Prop where
 bl:blockB b=true
 co:cornerB c=true
 br_:brB br (lkB b)=true
 sr:srcB xs (ndB b)=true
 or_:ordL (linksL b) (lvJ b br) (ndB b) (ndB b) []=V R
theorem TgOk.len {b:qd}{c:qy}{br:List Int}{xs:List qw}{R:List Nat}(h:TgOk b c br xs R):R.length=ndB b:=by
 have:=qua (ndB b) [] R h.or_;simpa using this
end Go.Fw


namespace Go.Fw
open Go
set_option maxRecDepth 100000
def winO (t:qB)(m:Nat):qi×Bool:=
 bif gt t.Bb m then bif gt t.Bb (m+1) then(hullS (gt t.Ai m) (gt t.Ai (m+1)),true) else(gt t.Ai m,true) else bif gt t.Bb (m+1) then(gt t.Ai (m+1),true) else(zSp,false)
section
variable {b:qd}{t:qB}{net:Int}
theorem qwa {m:Nat}(h1:m+1<t.Bb.length)(h2:m+1<t.Ai.length):Ev (fun n=>qlq n t [(m:Int),((m+1:Nat):Int)]) (winO t m):=by
 have d:decide ((0:Int)<(([(m:Int),((m+1:Nat):Int)]:List Int).length:Int))=true:=rfl;have d2:decide ((1:Int)<(([(m:Int),((m+1:Nat):Int)]:List Int).length:Int))=true:=rfl;have d3:decide ((2:Int)<(([(m:Int),((m+1:Nat):Int)]:List Int).length:Int))=false:=rfl;have x1:idx [(m:Int),((m+1:Nat):Int)] 0=V (m:Int):=rfl;have x2:idx [(m:Int),((m+1:Nat):Int)] 1=V ((m+1:Nat):Int):=rfl;have w1:W64 (0+1)=1:=rfl;have w2:W64 (1+1)=2:=rfl;unfold qlq winO;cases r1:gt t.Bb m<;>cases r2:gt t.Bb (m+1)<;>refine⟨3,fun n hn=>?_⟩<;>obtain⟨n,rfl⟩:∃ k,n=k+3:=⟨n-3,by omega⟩ <;>
  simp only[qhi,d,d2,d3,x1,x2,w1,w2,cond_true,cond_false,jd,qz (show m<t.Bb.length by omega),qz h1,qz (show m<t.Ai.length by omega),qz h2,r1,r2,qdt,qhz,jW,Bool.not_false]<;>rfl
end
section
variable {b:qd}{t:qB}{ks:List qjp}
end
section
variable {b:qd}{ks:List qjp}{used:List Int}
end
end Go.Fw


namespace Go.Fw
open Go
set_option maxRecDepth 100000
def lchQ (b:qd)(i:Nat):Bool:=(cellAt b (i:Int)).Aq==3
def lchL (b:qd)(j:Nat):List Nat:=selN (lchQ b) j
def cmbN (c:qv):Nat:=(ixL (fun a:qH=>a.Aq==1) c.Ak).toNat
theorem qzx {α:Type}[Inhabited α]{p:α→Bool}:∀ {xs:List α},xs.any p=true→∃ k:Nat,ixL p xs=(k:Int)∧k<xs.length∧p (gt xs k)=true∧∀ j,j<k→p (gt xs j)=false:=by
 intro xs h;unfold ixL;cases hf:xs.findIdx? p with
 | none=>
  rw[List.findIdx?_eq_none_iff] at hf;obtain⟨x,hx,hp⟩:=List.any_eq_true.1 h;rw[hf x hx] at hp;cases hp
 | some k=>
  rw[List.findIdx?_eq_some_iff_getElem] at hf;obtain⟨hk,hp,hn⟩:=hf;refine⟨k,rfl,hk,by rw[qdW hk];exact hp,fun j hj=>?_⟩;rw[qdW (by omega)];simpa using hn j hj
theorem qro {c:qv}(h:cellB c=true)(hk:(c.Aq==3)=true):ixL (fun a:qH=>a.Aq==1) c.Ak=(cmbN c:Int)∧cmbN c<c.Ak.length∧(gt c.Ak (cmbN c)).Aq=1∧∀ j,j<cmbN c→((gt c.Ak j).Aq==1)=false:=by
 have hh:hasB c.Ak 1=true:=by
  have hk':c.Aq=3:=by simpa using hk
  unfold cellB at h;simp only[jf] at h;obtain⟨_,_,_,_,_,h⟩:=h;unfold kindB at h;rw[hk'] at h;have h1:((3:Int)==1)=false:=rfl;have h2:((3:Int)==2)=false:=rfl;have h3:((3:Int)==3)=true:=rfl;rw[h1,h2,h3] at h;simp only[cond_true,cond_false,jf] at h;exact h.2.2.1
 obtain⟨k,h1,h2,h3,h4⟩:=qzx (p:=fun a:qH=>a.Aq==1) hh;have e:cmbN c=k:=by unfold cmbN;rw[h1];rfl
 rw[e];exact⟨h1,h2,by simpa using h3,h4⟩
def siteL (b:qd)(i:Nat):TlatchSite:=⟨(i:Int),(off b.Aa i:Int),(cmbN (cellAt b (i:Int)):Int)⟩
def pinN (b:qd)(i:Nat):Nat:=(gt (cellAt b (i:Int)).Ak (cmbN (cellAt b (i:Int)))).Bc.toNat
theorem qmA {b:qd}(h:blockB b=true){i:Nat}(hi:i<b.Aa.Ab.length) :
  ∃ hc:cellB (cellAt b (i:Int))=true,(0≤(gt b.Aa.Ab i).Bp∧(gt b.Aa.Ab i).Bp<b.Ap.Am.length)∧gt b.Ap.Am (gt b.Aa.Ab i).Bp.toNat=cellAt b (i:Int)∧(gt b.Aa.Ab i).Ah.length=(cellAt b (i:Int)).As.length ∧
   (cellAt b (i:Int)).Ak.length≤8∧(gt b.Aa.Ab i).Ah.length≤5:=by
 obtain⟨hc,hn,hb⟩:=qgW (qar h) hi;have hp:=(qfD (qhr hb)).1;exact⟨hb,hc,rfl,hn,qjm hb,by omega⟩
theorem qwr {xs:List qH}(hl:xs.length≤1048576):Ev (fun n=>qaB n xs) (ixL (fun a:qH=>a.Aq==1) xs):=
 qfS (fin:=(xs.length:Int)) (Lf:=qQ xs) (xs:=xs) (pf:=fun n x=>qfX n x) (fun x _=>.done)
  (fun n=>by simp only[qQ,ql (je _),cond_false])
  (fun n j x hx=>by
   have hj:=(List.getElem?_eq_some_iff.1 hx).1;simp only[qQ,qj hj,cond_true,qas hx,jd,wS j])
  (fun n=>by unfold qaB;congr 1;funext o;cases o<;>rfl)
theorem qsq {b:qd}(h:blockB b=true){i:Nat}(hi:i≤b.Aa.Ab.length):off b.Aa i≤78:=by
 have:=qbc (qU (qar h));rw[qgh] at this;have:=qs7 (d:=b.Aa) hi;omega
theorem qoi {b:qd}(h:blockB b=true):b.Aa.Ab.length≤14:=by
 have:=qU (qar h);exact this.1
theorem qrE {b:qd}(h:blockB b=true):Ev (fun n=>qe1 n b) ((lchL b b.Aa.Ab.length).map (siteL b)):=by
 have hi14:=qoi h;unfold qe1;have hL:=loopF (Lf:=fun n (s:List TlatchSite×Int) i=>qbb b n s.1 s.2 i) (S:=fun j=>((lchL b j).map (siteL b),(off b.Aa j:Int))) (len:=b.Aa.Ab.length) (fin:=((lchL b b.Aa.Ab.length).map (siteL b),(off b.Aa b.Aa.Ab.length:Int),(b.Aa.Ab.length:Int)))
  (fun n=>by simp only[qbb,ql (je _),cond_false])
  (fun j hj X hX=>by
   obtain⟨hc,⟨c0,c1⟩,ec,hn,ha,hn5⟩:=qmA h hj;have ho:=qsq h (show j≤b.Aa.Ab.length by omega);have eo:W64 ((off b.Aa j:Int)+((gt b.Aa.Ab j).Ah.length:Int))=(off b.Aa (j+1):Int):=by
    rw[qjW,qI (by omega) (by omega)];omega
   have hlen:(lchL b j).length≤j:=qk4;simp only[qbb,qj hj,cond_true,qz hj,jd,qd4 c0 c1,ec,wS j,qaL,eo];cases hk:(cellAt b (j:Int)).Aq==3
   ·have e:lchL b (j+1)=lchL b j:=by unfold lchL;rw[qiF];unfold lchQ;rw[hk];simp
    rw[e] at hX;exact hX
   ·have e:lchL b (j+1)=lchL b j++[j]:=by unfold lchL;rw[qiF];unfold lchQ;rw[hk];rfl
    rw[e,jF] at hX;obtain⟨k1,_⟩:=qro hc hk;have hI:=qwr (xs:=(cellAt b (j:Int)).Ak) (by omega);rw[k1] at hI;exact Ev.bind hI (Ev.bindN (qb0 (by rw[ju];simp only[jA,jV];omega)) hX))
 have e0:off b.Aa 0=0:=rfl;simp only[e0] at hL;exact Ev.bind hL .done
theorem qx4 {c:qv}(h:cellB c=true)(hk:(c.Aq==3)=true):Ev (fun n=>qb2 c n (-1) 0) ((gt c.Ak (cmbN c)).Bc,(c.Ak.length:Int)):=by
 obtain⟨_,h2,h3,h4⟩:=qro h hk;have ha:=qjm h;have hf:=(qiI h h2).2.1.1;have hL:=loopF (Lf:=fun n (s:Int) i=>qb2 c n s i) (S:=fun j=>if cmbN c<j then(gt c.Ak (cmbN c)).Bc else -1) (len:=c.Ak.length) (fin:=((gt c.Ak (cmbN c)).Bc,(c.Ak.length:Int)))
  (fun n=>by simp only[qb2,ql (je _),cond_false,if_pos h2])
  (fun j hj X hX=>by
   simp only[qb2,qj hj,cond_true,qz hj,jd,wS j];by_cases h1:cmbN c<j
   ·rw[if_pos (show cmbN c<j+1 by omega)] at hX;rw[if_pos h1];have e:decide ((gt c.Ak (cmbN c)).Bc<0)=false:=by simp;omega
    rw[e];exact hX
   ·rw[if_neg h1];have e:decide ((-1:Int)<0)=true:=rfl;rw[e];by_cases h5:j=cmbN c
    ·subst h5;rw[if_pos (show cmbN c<cmbN c+1 by omega)] at hX;have e2:((gt c.Ak (cmbN c)).Aq==1)=true:=by simp[h3]
     simp only[cond_true,e2,jd];exact hX
    ·rw[if_neg (show ¬ cmbN c<j+1 by omega)] at hX;have e2:=h4 j (by omega);simp only[cond_true,cond_false,e2,jd];exact hX)
 simpa using hL
theorem qtC {b:qd}(h:blockB b=true):Ev (fun n=>qic n b) (ints (lchL b b.Aa.Ab.length),(lchL b b.Aa.Ab.length).map fun i=>(pinN b i:Int)):=by
 have hi14:=qoi h;unfold qic;have hL:=loopF (Lf:=fun n (s:List Int×List Int) i=>qcB b n s.1 s.2 i) (S:=fun j=>((lchL b j).map (fun i=>(pinN b i:Int)),ints (lchL b j))) (len:=b.Aa.Ab.length) (fin:=((lchL b b.Aa.Ab.length).map (fun i=>(pinN b i:Int)),ints (lchL b b.Aa.Ab.length),(b.Aa.Ab.length:Int)))
  (fun n=>by simp only[qcB,ql (je _),cond_false])
  (fun j hj X hX=>by
   obtain⟨hc,⟨c0,c1⟩,ec,hn,ha,hn5⟩:=qmA h hj;have hlen:(lchL b j).length≤j:=qk4;simp only[qcB,qj hj,cond_true,qz hj,jd,qd4 c0 c1,ec,wS j];cases hk:(cellAt b (j:Int)).Aq==3
   ·have e:lchL b (j+1)=lchL b j:=by unfold lchL;rw[qiF];unfold lchQ;rw[hk];simp
    rw[e] at hX;have e2:((cellAt b (j:Int)).Aq != 3)=true:=by unfold bne;rw[hk];rfl
    rw[e2];exact hX
   ·have e:lchL b (j+1)=lchL b j++[j]:=by unfold lchL;rw[qiF];unfold lchQ;rw[hk];rfl
    rw[e,jF,qjv] at hX;have e2:((cellAt b (j:Int)).Aq != 3)=false:=by unfold bne;rw[hk];rfl
    rw[e2];obtain⟨_,h2,_⟩:=qro hc hk;have hf:=(qiI hc h2).2.1.1;have ep:(gt (cellAt b (j:Int)).Ak (cmbN (cellAt b (j:Int)))).Bc=(pinN b j:Int):=by unfold pinN;omega
    refine Ev.ff Z (Ev.bind (qx4 hc hk) ?_);rw[ep];refine Ev.bindN (qb0 (by rw[qcG];simp only[jA,jV];omega)) (Ev.bindN (qb0 (by rw[ju];simp only[jA,jV];omega)) hX))
 exact Ev.bind hL .done
end Go.Fw


namespace Go.Fw
open Go
set_option maxRecDepth 100000
def insO (b:qd)(k:Nat):Int:=(gt (places b.Aa) (W64 ((gt (linksL b) k).To.tdiv 2)).toNat).instance_
def ltQ (b:qd)(k:Nat):Bool:=((gt (linksL b) k).Aq==1)&&((cellAt b (insO b k)).Aq==3)
def lvM (b:qd)(lv:List Bool):List Bool:=pre (fun k=>gt lv k&&!ltQ b k) (lkB b)
theorem qoH {b:qd}(h:blockB b=true){k:Nat}(hk:k<lkB b) :
  (∃ i j,(gt (linksL b) k).Aq=1∧i<b.Aa.Ab.length∧j<(places b.Aa).length∧(gt (places b.Aa) j).instance_=(i:Int)∧W64 ((gt (linksL b) k).To.tdiv 2)=(j:Int)∧insO b k=(i:Int))∨(gt (linksL b) k).Aq=2:=by
 obtain⟨hx,_⟩:=qhm h (qlM (show k<(linksL b).length from hk));rcases hx with⟨i,j,m,net,a,hx⟩|⟨j,net,q,hx⟩
 ·refine .inl ⟨i,j,hx.kind,hx.il,hx.jl,hx.inst,hx.half,?_⟩;unfold insO;rw[hx.half];exact hx.inst
 ·exact .inr hx.kind
theorem qza {b:qd}{j:Nat}(hj:j<(places b.Aa).length):idx ((places b.Aa).map toSp) (j:Int)=V (toSp (gt (places b.Aa) j)):=by
 refine qas ?_;rw[Jc,ji hj,qdW hj];rfl
theorem qiE {b:qd}(h:blockB b=true):lkB b≤10000:=qoa h
theorem qpM {b:qd}(h:blockB b=true){i:Nat}(hi:i<b.Aa.Ab.length)(n:Nat):qcZ n b (i:Int)=V (cellAt b (i:Int)):=by
 obtain⟨_,⟨c0,c1⟩,ec,_⟩:=qmA h hi;unfold qcZ;rw[qz hi,jd,qd4 c0 c1,ec];rfl
theorem qs5 {b:qd}{ex:List Int}(h:blockB b=true){k:Nat}(hk:k<lkB b)(n:Nat):qec n (V (viewE b ex)) (gt (linksL b) k)=V (ltQ b k):=by
 unfold qec ltQ;rcases qoH h hk with⟨i,j,e1,hi,hj,e2,e3,e4⟩|e1
 ·have e:((gt (linksL b) k).Aq==1)=true:=by simp[e1]
  rw[e,e4];show(idx (places b.Aa) (W64 ((gt (linksL b) k).To.tdiv 2))).bind _=_;rw[e3,qz hj,jd,e2];show(qcZ n b (i:Int)).bind _=_;rw[qpM h hi];rfl
 ·have e:((gt (linksL b) k).Aq==1)=false:=by simp[e1]
  rw[e];rfl
def lvS (b:qd)(lv:List Bool)(j k:Nat):Bool:=gt lv k&&!(decide (k<j)&&ltQ b k)
theorem que {b:qd}{lv:List Bool}{j M:Nat}{v:Bool}(hv:v=(gt lv j&&!ltQ b j)):setS (pre (lvS b lv j) M) (j:Int) v=pre (lvS b lv (j+1)) M:=by
 rw[qnz];refine qe6 fun k hk=>?_;unfold lvS;by_cases h:k=j
 ·subst h;rw[if_pos Z,hv];simp
 ·rw[if_neg h];have:decide (k<j+1)=decide (k<j):=by rw[jj];simp;omega
  rw[this]
theorem qw9 {b:qd}{lv:List Bool}{j M:Nat}(hj:j<M):gt (pre (lvS b lv j) M) j=gt lv j:=by
 rw[qux hj];unfold lvS;simp
theorem qxP {b:qd}{lv:List Bool}{j M:Nat}(h:ltQ b j=false):pre (lvS b lv (j+1)) M=pre (lvS b lv j) M:=by
 refine qe6 fun k hk=>?_;unfold lvS;by_cases e:k=j
 ·subst e;rw[h];simp
 ·have:decide (k<j+1)=decide (k<j):=by rw[jj];simp;omega
  rw[this]
theorem qvd {b:qd}{lv:List Bool}:pre (lvS b lv (lkB b)) (lkB b)=lvM b lv:=qe6 fun k hk=>by unfold lvS;simp[hk]
theorem qse {b:qd}{lv:List Bool}(hl:lv.length=lkB b):pre (lvS b lv 0) (lkB b)=lv:=by
 refine jZ (by rw[qjE,hl]) fun k h1 h2=>?_;rw[←qdW h1,←qdW h2,qux (by rw[←hl];exact h2)];unfold lvS;simp
theorem qw2 {b:qd}{lv:List Bool}(h:blockB b=true)(hl:lv.length=lkB b):Ev (fun n=>qbi b (pre (exactL b) b.Ac.length) (pre (load0 b) b.Ac.length) (linksL b) (places b.Aa) n lv 0) (lvM b lv,(lkB b:Int)):=by
 have hs:=qiE h;have hL:=loopF (Lf:=fun n s i=>qbi b (pre (exactL b) b.Ac.length) (pre (load0 b) b.Ac.length) (linksL b) (places b.Aa) n s i) (S:=fun j=>pre (lvS b lv j) (lkB b)) (len:=lkB b) (fin:=(lvM b lv,(lkB b:Int)))
  (fun n=>by simp only[qbi,ql (je _),cond_false,qvd])
  (fun j hj X hX=>by
   have e1:idx (pre (lvS b lv j) (lkB b)) (j:Int)=V (gt lv j):=by rw[qz (by rw[qjE];exact hj),qw9 hj]
   simp only[qbi,qj hj,cond_true,qz hj,jd,e1,wS j];rw[←que (v:=gt lv j&&!ltQ b j) Z] at hX;have hq:Ev (fun n=>qec n (V (viewE b [])) (gt (linksL b) j)) (ltQ b j):=⟨0,fun n _=>qs5 (ex:=[]) h hj n⟩;cases hv:gt lv j
   ·rw[hv] at hX;exact hX
   ·rw[hv] at hX;exact Ev.tt Z (Ev.bind hq hX))
 rw[qse hl] at hL;exact hL
theorem qwz {b:qd}{br:List Int}(h:blockB b=true)(hbl:br.length≤1048576):Ev (fun n=>qkn n b (linksL b) br) (lvM b (lvJ b br)):=by
 have hs:=qiE h;have hd:=qU (qar h);unfold qkn;refine Ev.bind (qus hs hbl) (Ev.bind (qgt hd) ?_);have hL:=loopF (Lf:=fun n s i=>qda b (linksL b) ((places b.Aa).map toSp) n s i) (S:=fun j=>pre (lvS b (lvJ b br) j) (lkB b)) (len:=lkB b) (fin:=(lvM b (lvJ b br),(lkB b:Int)))
  (fun n=>by simp only[qda,ql (je _),cond_false,qvd])
  (fun j hj X hX=>by
   have e1:idx (pre (lvS b (lvJ b br) j) (lkB b)) (j:Int)=V (gt (lvJ b br) j):=by rw[qz (by rw[qjE];exact hj),qw9 hj]
   simp only[qda,qj hj,cond_true,qz hj,jd,e1,wS j];rcases qoH h hj with⟨i,q,k1,hi,hq,k2,k3,k4⟩|k1
   ·have e:((gt (linksL b) j).Aq != 1)=false:=by simp[k1]
    obtain⟨_,⟨c0,c1⟩,ec,_⟩:=qmA h hi;have hq2:(toSp (gt (places b.Aa) q)).instance_=(i:Int):=k2;have elt:ltQ b j=((cellAt b (i:Int)).Aq==3):=by unfold ltQ;rw[k4];simp[k1]
    rw[←que (v:=gt (lvJ b br) j&&!ltQ b j) Z] at hX;simp only[e,cond_false,k3,qza hq,jd,hq2,qz hi,qd4 c0 c1,ec];cases hv:gt (lvJ b br) j
    ·rw[hv] at hX;exact hX
    ·rw[hv,elt] at hX;have e3:((cellAt b (i:Int)).Aq != 3) = !((cellAt b (i:Int)).Aq==3):=rfl;simp only[cond_true,jd,e3];exact hX
   ·have e:((gt (linksL b) j).Aq != 1)=true:=by simp[k1]
    have elt:ltQ b j=false:=by unfold ltQ;simp[k1]
    rw[qxP elt] at hX;rw[e];exact hX)
 rw[qse qvf] at hL;exact Ev.bind hL .done
def maxB (x y:Int):Int:=if y > x then y else x
def thrN (q:Nat→Bool)(d:Nat→Int):Nat→Int
 | 0=>0
 | j+1=>bif q j then maxB (thrN q d j) (d j) else thrN q d j
def thrQ (b:qd)(i:Nat)(k:Nat):Bool:=((gt (linksL b) k).Aq==1)&&((insO b k==(i:Int))&&((gt (linksL b) k).Bw==(cmbN (cellAt b (i:Int)):Int)))
def DelS (b:qd)(c:qy)(d:Nat→Int):Prop:=∀ k,k<lkB b→Ev (fun n=>qca n b c (gt (linksL b) k) 0 1) (d k)∧∀ ex,Ev (fun n=>qbo n (V (viewE b ex)) c (k:Int) 0 1) (d k)
theorem qzA {b:qd}{c:qy}(h:blockB b=true)(hc:cornerB c=true):∃ d,DelS b c d:=by
 have:∀ k,∃ D:Int,k<lkB b→Ev (fun n=>qca n b c (gt (linksL b) k) 0 1) D∧∀ ex,Ev (fun n=>qbo n (V (viewE b ex)) c (k:Int) 0 1) D:=fun k=>by
  by_cases hk:k<lkB b
  ·obtain⟨⟨D,h1,h2⟩,_⟩:=qoS (sl:=0) (mode:=1) h hc hk (jY _) (by omega) (.inr Z);exact⟨D,fun _=>⟨h1,h2⟩⟩
  ·exact⟨0,fun hk'=>absurd hk' hk⟩
 obtain⟨d,hd⟩:=Classical.axiomOfChoice this;exact⟨d,hd⟩
section
variable {b:qd}{c:qy}{d:Nat→Int}{i:Nat}
theorem qvZ {cl:qv}(h:cellB cl=true)(hk:(cl.Aq==3)=true):Ev (fun n=>qcz cl n 0) (cmbN cl:Int):=by
 obtain⟨_,h2,h3,h4⟩:=qro h hk;have ha:=qjm h;have:=loopF (Lf:=fun n (_:Unit) i=>qcz cl n i) (S:=fun _=>()) (len:=cmbN cl) (fin:=(cmbN cl:Int))
  (fun n=>by
   have e:((gt cl.Ak (cmbN cl)).Aq != 1)=false:=by simp[h3]
   simp only[qcz,qz h2,jd,e,cond_false])
  (fun j hj X hX=>by
   have e:((gt cl.Ak j).Aq != 1)=true:=by have:=h4 j hj;simpa using this
   simp only[qcz,qz (show j<cl.Ak.length by omega),jd,e,cond_true,wS j];exact hX)
 exact this
theorem qtO (h:blockB b=true)(hd:DelS b c d)(hi:i<b.Aa.Ab.length)(hk:lchQ b i=true):Ev (fun n=>qid n b c (linksL b) (i:Int)) (thrN (thrQ b i) d (lkB b)):=by
 have hs:=qiE h;have hsd:=qU (qar h);obtain⟨hcb,⟨c0,c1⟩,ec,_⟩:=qmA h hi;unfold qid;refine Ev.bind (qgt hsd) ?_;rw[qz hi];refine Ev.bindN Z ?_;rw[qd4 c0 c1,ec];refine Ev.bindN Z (Ev.bind (qvZ hcb hk) ?_);have hL:=loopF (Lf:=fun n s k=>qcy b c (linksL b) (i:Int) ((places b.Aa).map toSp) (cmbN (cellAt b (i:Int)):Int) n s k) (S:=fun j=>thrN (thrQ b i) d j) (len:=lkB b) (fin:=(thrN (thrQ b i) d (lkB b),(lkB b:Int)))
  (fun n=>by simp only[qcy,ql (je _),cond_false])
  (fun j hj X hX=>by
   simp only[qcy,qj hj,cond_true,qz hj,jd,wS j];rcases qoH h hj with⟨m,q,k1,hm,hq,k2,k3,k4⟩|k1
   ·have e:((gt (linksL b) j).Aq==1)=true:=by simp[k1]
    have hq2:(toSp (gt (places b.Aa) q)).instance_=(m:Int):=k2;simp only[e,cond_true,k3,qza hq,jd,hq2];cases e1:((m:Int)==(i:Int))
    ·have eq:thrQ b i j=false:=by unfold thrQ;rw[k4,e1];simp
     have:thrN (thrQ b i) d (j+1)=thrN (thrQ b i) d j:=by rw[thrN,eq];rfl
     rw[this] at hX;exact hX
    ·cases e2:((gt (linksL b) j).Bw==(cmbN (cellAt b (i:Int)):Int))
     ·have eq:thrQ b i j=false:=by unfold thrQ;rw[e2];simp
      have:thrN (thrQ b i) d (j+1)=thrN (thrQ b i) d j:=by rw[thrN,eq];rfl
      rw[this] at hX;exact hX
     ·have eq:thrQ b i j=true:=by unfold thrQ;rw[k4,e1,e2,e];rfl
      have:thrN (thrQ b i) d (j+1)=maxB (thrN (thrQ b i) d j) (d j):=by rw[thrN,eq];rfl
      rw[this] at hX;exact Ev.bindN (b:=true) Z (Ev.bind (hd j hj).1 hX)
   ·have e:((gt (linksL b) j).Aq==1)=false:=by simp[k1]
    have eq:thrQ b i j=false:=by unfold thrQ;rw[e];rfl
    have:thrN (thrQ b i) d (j+1)=thrN (thrQ b i) d j:=by rw[thrN,eq];rfl
    rw[this] at hX;rw[e];exact hX)
 exact Ev.bind hL .done
theorem quL {ex:List Int}(h:blockB b=true)(hd:DelS b c d)(hi:i<b.Aa.Ab.length):Ev (fun n=>qg2 n (V (viewE b ex)) c (siteL b i)) (thrN (thrQ b i) d (lkB b)):=by
 have hs:=qiE h;unfold qg2;refine Ev.bindN Z ?_;have hL:=loopF (Lf:=fun n s k=>qb5 (V (viewE b ex)) c (siteL b i) (viewE b ex) n s k) (S:=fun j=>thrN (thrQ b i) d j) (len:=lkB b) (fin:=(thrN (thrQ b i) d (lkB b),(lkB b:Int)))
  (fun n=>by
   have e:decide ((lkB b:Int)<((viewE b ex).links.length:Int))=false:=ql (je _);simp only[qb5,e,cond_false])
  (fun j hj X hX=>by
   have e0:decide ((j:Int)<((viewE b ex).links.length:Int))=true:=qj hj;have e1:idx (viewE b ex).links (j:Int)=V (gt (linksL b) j):=qz hj;simp only[qb5,e0,e1,cond_true,jd,wS j];rcases qoH h hj with⟨m,q,k1,hm,hq,k2,k3,k4⟩|k1
   ·have e:((gt (linksL b) j).Aq==1)=true:=by simp[k1]
    have e4:idx (viewE b ex).places (q:Int)=V (gt (places b.Aa) q):=qz hq;simp only[e,cond_true,k3,e4,jd,k2,siteL];cases e2:((gt (linksL b) j).Bw==(cmbN (cellAt b (i:Int)):Int))
    ·have eq:thrQ b i j=false:=by unfold thrQ;rw[e2];simp
     have:thrN (thrQ b i) d (j+1)=thrN (thrQ b i) d j:=by rw[thrN,eq];rfl
     rw[this] at hX;exact hX
    ·cases e3:((m:Int)==(i:Int))
     ·have eq:thrQ b i j=false:=by unfold thrQ;rw[k4,e3];simp
      have:thrN (thrQ b i) d (j+1)=thrN (thrQ b i) d j:=by rw[thrN,eq];rfl
      rw[this] at hX;exact hX
     ·have eq:thrQ b i j=true:=by unfold thrQ;rw[k4,e3,e2,e];rfl
      have:thrN (thrQ b i) d (j+1)=maxB (thrN (thrQ b i) d j) (d j):=by rw[thrN,eq];rfl
      rw[this] at hX;exact Ev.bindN (b:=true) Z (Ev.bind ((hd j hj).2 ex) hX)
   ·have e:((gt (linksL b) j).Aq==1)=false:=by simp[k1]
    have eq:thrQ b i j=false:=by unfold thrQ;rw[e];rfl
    have:thrN (thrQ b i) d (j+1)=thrN (thrQ b i) d j:=by rw[thrN,eq];rfl
    rw[this] at hX;rw[e];exact hX)
 exact Ev.bind hL .done
end
def lnkV (t:qB)(m:Nat):Int:=bif (winO t m).2 then maxB (winO t m).1.Ay 0 else -1
theorem qwB {b:qd}(h:blockB b=true){i:Nat}(hi:i<b.Aa.Ab.length)(hk:lchQ b i=true):cmbN (cellAt b (i:Int))<(cellAt b (i:Int)).Ak.length∧(gt (cellAt b (i:Int)).Ak (cmbN (cellAt b (i:Int)))).Bc=(pinN b i:Int)∧pinN b i<(gt b.Aa.Ab i).Ah.length∧off b.Aa i+pinN b i<(places b.Aa).length:=by
 obtain⟨hc,_,_,hn,_⟩:=qmA h hi;obtain⟨_,h2,_⟩:=qro hc hk;obtain⟨_,⟨f0,f1⟩,_⟩:=qiI hc h2;have e:(gt (cellAt b (i:Int)).Ak (cmbN (cellAt b (i:Int)))).Bc=(pinN b i:Int):=by unfold pinN;omega
 have hp:pinN b i<(gt b.Aa.Ab i).Ah.length:=by omega
 exact⟨h2,e,hp,(qiH hi hp).1⟩
theorem qwO {b:qd}{t:qB}(h:blockB b=true)(h1:t.Bb.length=ndB b)(h2:t.Ai.length=ndB b){i:Nat}(hi:i<b.Aa.Ab.length)(hk:lchQ b i=true) :
  Ev (fun n=>qki n b t (i:Int) (pinN b i:Int)) (lnkV t (2*(off b.Aa i+pinN b i))):=by
 obtain⟨_,_,hp,hpl⟩:=qwB h hi hk;have hpl78:=qbc (qU (qar h));have eM:ndB b=2*(places b.Aa).length:=rfl;unfold qki;refine Ev.bind (qmx h hi hp) ?_;generalize off b.Aa i+pinN b i=m at hpl;have e1:W64 (2*(m:Int))=((2*m:Nat):Int):=by rw[qI (by omega) (by omega)];omega
 have e2:W64 (((2*m:Nat):Int)+0)=((2*m:Nat):Int):=by rw[qI (by omega) (by omega)];omega
 have e3:W64 (((2*m:Nat):Int)+1)=((2*m+1:Nat):Int):=by rw[qI (by omega) (by omega)];omega
 have d0:decide ((0:Int)<2)=true:=rfl;have d1:decide ((1:Int)<2)=true:=rfl;have d2:decide ((2:Int)<2)=false:=rfl;have w1:W64 (0+1)=1:=rfl;have w2:W64 (1+1)=2:=rfl;unfold lnkV winO;cases r1:gt t.Bb (2*m)<;>cases r2:gt t.Bb (2*m+1)<;>refine⟨3,fun n hn=>?_⟩<;>obtain⟨n,rfl⟩:∃ k,n=k+3:=⟨n-3,by omega⟩ <;>
  simp only[qgJ,d0,d1,d2,e1,e2,e3,w1,w2,cond_true,cond_false,jd,qz (show 2*m<t.Bb.length by omega),qz (show 2*m+1<t.Bb.length by omega),qz (show 2*m<t.Ai.length by omega),qz (show 2*m+1<t.Ai.length by omega),r1,r2,Option.some.injEq,maxB,hullS]
 all_goals (repeat' split)
 all_goals omega
end Go.Fw


namespace Go.Fw
open Go
set_option maxRecDepth 100000
instance:Inhabited TlatchSite:=⟨⟨0,0,0⟩⟩
section
variable {b:qd}{c:qy}{d:Nat→Int}{F:Nat→qi→qi×qi}{R:List Nat}{LV:List Bool}{period a_open close:Int}{t:qB}
def glN (b:qd)(k:Nat):Nat:=gt (lchL b b.Aa.Ab.length) k
def lcN (b:qd):Nat:=(lchL b b.Aa.Ab.length).length
theorem qsu {k:Nat}(hk:k<lcN b):glN b k<b.Aa.Ab.length∧lchQ b (glN b k)=true:=by
 have:glN b k ∈ lchL b b.Aa.Ab.length:=by unfold glN;rw[qdW hk];exact jo hk
 exact qnj.1 this
theorem qoL (h:blockB b=true):lcN b≤14:=by
 have:=qoi h;have:lcN b≤b.Aa.Ab.length:=qk4;omega
theorem qtn {k:Nat}(hk:k<lcN b):idx ((lchL b b.Aa.Ab.length).map (siteL b)) (k:Int)=V (siteL b (glN b k)):=by
 refine qas ?_;rw[Jc,ji (show k<(lchL b b.Aa.Ab.length).length from hk)];unfold glN;rw[qdW hk];rfl
theorem qqy {k:Nat}(hk:k<lcN b):idx (ints (lchL b b.Aa.Ab.length)) (k:Int)=V (glN b k:Int):=by
 rw[qnI (show k<(lchL b b.Aa.Ab.length).length from hk)];unfold glN;rw[qdW hk];rfl
theorem qyx {k:Nat}(hk:k<lcN b):idx ((lchL b b.Aa.Ab.length).map fun i=>(pinN b i:Int)) (k:Int)=V (pinN b (glN b k):Int):=by
 refine qas ?_;rw[Jc,ji (show k<(lchL b b.Aa.Ab.length).length from hk)];unfold glN;rw[qdW hk];rfl
def outN (b:qd)(i:Nat):Nat:=off b.Aa i+((gt b.Aa.Ab i).Ah.length-1)
def src2 (o:Nat):List qw:=[⟨((2*o:Nat):Int),⟨0,0⟩,⟨0,0⟩⟩,⟨((2*o+1:Nat):Int),⟨0,0⟩,⟨0,0⟩⟩]
theorem qtd {o:Nat}:SrcOk (src2 o) where
 len:=by simp[src2]
 inc j i hij hj:=by
  have hj2:j<2:=by simpa [src2] using hj
  have hj1:j=1:=by omega
  have hi0:i=0:=by omega
  subst hj1 hi0;show((2*o:Nat):Int)<((2*o+1:Nat):Int);omega
 sl x hx:=by
  have:x.Ba=⟨0,0⟩:=by
   rcases List.mem_cons.1 hx with rfl|hx
   ·rfl
   ·rcases List.mem_cons.1 hx with rfl|hx
    ·rfl
    ·cases hx
  rw[this];exact qu6
def ltT (b:qd)(F:Nat→qi→qi×qi)(LV:List Bool)(R:List Nat)(f:Nat):Option qB:=rnO F (linksL b) LV (src2 (outN b (glN b f))) R (zTm (ndB b))
def mN (b:qd)(k:Nat):Nat:=2*(off b.Aa (glN b k)+pinN b (glN b k))
def rcQ (b:qd)(t:qB)(k:Nat):Bool:=(winO t (mN b k)).2
def vlN (b:qd)(d:Nat→Int)(f:Nat)(t:qB)(k:Nat):Int:=W64 (lnkV t (mN b k)+thrN (thrQ b (glN b f)) d (lkB b))
def bdQ (b:qd)(d:Nat→Int)(f:Nat)(t:qB)(k:Nat):Bool:=decide (vlN b d f t k > 100000)
def mkL (b:qd)(d:Nat→Int)(period:Int)(f:Nat)(t:qB)(k:Nat):qf:=⟨(f:Int),(k:Int),vlN b d f t k,period⟩
def rowI (b:qd)(d:Nat→Int)(period:Int)(f:Nat)(t:qB):Option (List qf):=innI (rcQ b t) (bdQ b d f t) (mkL b d period f t) (lcN b) 0 []
def rowO (b:qd)(d:Nat→Int)(F:Nat→qi→qi×qi)(LV:List Bool)(R:List Nat)(period:Int)(f:Nat):Option (List qf):=(ltT b F LV R f).bind fun t=>rowI b d period f t
def rowCap (b:qd)(d:Nat→Int)(F:Nat→qi→qi×qi)(LV:List Bool)(R:List Nat)(period:Int)(f:Nat)(out:List qf):Option (List qf):=(ltT b F LV R f).bind fun t=>innS 60 (rcQ b t) (bdQ b d f t) (mkL b d period f t) (lcN b) 0 out
theorem qxs {f:Nat}{out:List qf}(ho:out.length≤60):rowCap b d F LV R period f out=capL 60 ((rowO b d F LV R period f).map (out++·)):=by
 unfold rowCap rowO;cases ltT b F LV R f with
 | none=>rfl
 | some t=>exact qyh (lcN b) 0 out ho
theorem qxw {ε:Type}{rc bd:Nat→Bool}{mk:Nat→ε}:∀ m j acc l,innI rc bd mk m j acc=V l→l.length≤acc.length+m:=by
 intro m
 induction m with
 | zero=>intro j acc l h;obtain rfl:=Option.some.inj h;omega
 | succ m ih=>
  intro j acc l h;unfold innI at h;cases h1:rc j
  ·rw[h1] at h;have:=ih _ _ _ h;omega
  ·rw[h1] at h;cases h2:bd j
   ·rw[h2] at h;have:=ih _ _ _ h;rw[jh] at this;simp only[jA,jV] at this;omega
   ·rw[h2] at h;cases h
theorem qw4 {ε:Type}{cap:Nat}{o:Option (List ε)}{l:List ε}(h:capL cap o=V l):l.length≤cap:=by
 cases o with
 | none=>cases h
 | some x=>
  have:(if x.length≤cap then V x else U)=V l:=h;split at this
  ·rename_i hx;obtain rfl:=Option.some.inj this;exact hx
  ·cases this
structure LsOk (b:qd)(c:qy)(d:Nat→Int)(F:Nat→qi→qi×qi)(LV:List Bool)(R:List Nat):Prop where
 bl:blockB b=true
 dl:DelS b c d
 fs:SpansS b c F
 fi:SpansI b c [] F
 lv:LV.length=lkB b
 rb:∀ k,k ∈ R→k<ndB b
 rn:∀ j,∀ hj:j<R.length,R[j]<ndB b∧R[j] ∉ R.take j
 rl:R.length≤1000
theorem qwQ (h:blockB b=true){i:Nat}(hi:i<b.Aa.Ab.length):outN b i<(places b.Aa).length∧(cellAt b (i:Int)).As.length=(gt b.Aa.Ab i).Ah.length∧1≤(gt b.Aa.Ab i).Ah.length∧(gt b.Aa.Ab i).Ah.length≤5:=by
 obtain⟨hc,_,_,hn,_,hn5⟩:=qmA h hi;have hp:=(qfD (qhr hc)).1.1;have:=(qiH (d:=b.Aa) hi (show(gt b.Aa.Ab i).Ah.length-1<(gt b.Aa.Ab i).Ah.length by omega)).1;exact⟨this,hn.symm,by omega,hn5⟩
theorem qy4 (H:LsOk b c d F LV R){f:Nat}(e:ltT b F LV R f=V t):TmOk t (ndB b):=qzj H.bl H.fs qtd R (zTm (ndB b)) t H.rb quw e
theorem qyE (H:LsOk b c d F LV R)(f:Nat):Ev (fun n=>qjP n b c (linksL b) LV (src2 (outN b (glN b f))) (ints R)) (runR (ltT b F LV R f)):=qyt H.bl H.fs H.lv qtd H.rb H.rl
theorem qyf (H:LsOk b c d F LV R)(f:Nat):Ev (fun n=>qdK n (V ⟨V (viewV b),LV⟩) c (src2 (outN b (glN b f))) (ints R)) (runR (ltT b F LV R f)):=qyj H.bl H.fs (fun _ _=>rfl) H.fi H.lv qtd H.rn H.rl
theorem qyR (H:LsOk b c d F LV R){f:Nat}(hf:f<lcN b)(e:ltT b F LV R f=V t) :
  Ev (fun n=>qaP c ((lchL b b.Aa.Ab.length).map (siteL b)) (f:Int) period (siteL b (glN b f)) (⟨V (viewV b),LV⟩:Tgraph) (viewV b) t n ([]:List qf) 0) (flowO (([]:List qf),false) (fun l=>(l,(lcN b:Int))) (rowI b d period f t)):=by
 have h:=H.bl;have hT:=qy4 H e;have hlc:=qoL h;have hpl78:=qbc (qU (qar h));have eM:ndB b=2*(places b.Aa).length:=rfl;have hsl:((lchL b b.Aa.Ab.length).map (siteL b)).length=lcN b:=by rw[ju];rfl
 obtain⟨hfi,hfq⟩:=qsu hf;refine qyO (Lf:=fun n s i=>qaP c ((lchL b b.Aa.Ab.length).map (siteL b)) (f:Int) period (siteL b (glN b f)) (⟨V (viewV b),LV⟩:Tgraph) (viewV b) t n s i) (St:=fun _ acc=>acc) (len:=lcN b) (fun n acc=>?_) (fun k acc hk ha X h1 h2 h3=>?_) (lcN b) 0 [] (by omega) (by simp)
 ·simp only[qaP,hsl,ql (je _),cond_false]
 ·obtain⟨hi,hq⟩:=qsu hk;obtain⟨ha2,ef,hp,hpp⟩:=qwB h hi hq;have em:mN b k=2*(off b.Aa (glN b k)+pinN b (glN b k)):=rfl;have w1:W64 (2*W64 ((off b.Aa (glN b k):Int)+(pinN b (glN b k):Int)))=(mN b k:Int):=by
   rw[qI (x:=(off b.Aa (glN b k):Int)+(pinN b (glN b k):Int)) (by omega) (by omega),qI (by omega) (by omega)];omega
  have w2:W64 ((mN b k:Int)+1)=((mN b k+1:Nat):Int):=by rw[qI (by omega) (by omega)];omega
  have hH:=qwa (t:=t) (m:=mN b k) (by rw[hT.r];omega) (by rw[hT.a];omega);have hcell:=qpM h hi;simp only[qaP,hsl,qj hk,cond_true,qtn hk,jd,wS k];refine Ev.bindN (hcell 0) ?_;refine Ev.bindN (qz ha2) ?_;simp only[siteL,ef,w1,w2];refine Ev.bind hH ?_;have er:rcQ b t k=(winO t (mN b k)).2:=rfl;generalize hw:winO t (mN b k)=wv at er;obtain⟨sp,rd⟩:=wv;simp only at er;cases hr:rd
  ·rw[hr] at er;exact Ev.tt Z (h1 er)
  ·rw[hr] at er;refine Ev.ff Z (Ev.bind (quL h H.dl hfi) ?_);have ev:W64 ((if (0:Int) > sp.Ay then 0 else sp.Ay)+thrN (thrQ b (glN b f)) d (lkB b))=vlN b d f t k:=by
    unfold vlN lnkV;rw[hw,hr];rfl
   simp only[ev];cases hb:bdQ b d f t k
   ·refine Ev.ff hb (Ev.bindN (qb0 (by simp only[jA,jV];omega)) ?_);exact h3 er hb
   ·rw[h2 er hb];exact Ev.tt hb .done
theorem qvI (H:LsOk b c d F LV R){f:Nat}(hf:f<lcN b) :
  Ev (fun n=>qeZ n (V ⟨V (viewV b),LV⟩) c (ints R) ((lchL b b.Aa.Ab.length).map (siteL b)) (f:Int) period) (match rowO b d F LV R period f with|none=>([],false)|some l=>(l,true)):=by
 have h:=H.bl;obtain⟨hfi,hfq⟩:=qsu hf;obtain⟨ho,hpn,hn1,hn5⟩:=qwQ h hfi;have hpl78:=qbc (qU (qar h));have hofs:=qsq h (show glN b f≤b.Aa.Ab.length by omega);unfold qeZ;refine Ev.bindN (qtn hf) (Ev.bindN Z (Ev.bindN Z (Ev.bindN (qpM h hfi 0) ?_)));have eo:∀ n,qcb n (cellAt b (glN b f:Int))=V (((gt b.Aa.Ab (glN b f)).Ah.length-1:Nat):Int):=fun n=>by
  unfold qcb qb4;rw[jd,hpn,qI (by omega) (by omega)]
  congr 1
  omega
 have e1:W64 (2*W64 ((siteL b (glN b f)).first+(((gt b.Aa.Ab (glN b f)).Ah.length-1:Nat):Int)))=((2*outN b (glN b f):Nat):Int):=by
  have ef:(siteL b (glN b f)).first=(off b.Aa (glN b f):Int):=rfl;have eu:outN b (glN b f)=off b.Aa (glN b f)+((gt b.Aa.Ab (glN b f)).Ah.length-1):=rfl;rw[ef,qI (x:=(off b.Aa (glN b f):Int)+(((gt b.Aa.Ab (glN b f)).Ah.length-1:Nat):Int)) (by omega) (by omega),qI (by omega) (by omega)];omega
 have e2:W64 (((2*outN b (glN b f):Nat):Int)+1)=((2*outN b (glN b f)+1:Nat):Int):=by rw[qI (by omega) (by omega)];omega
 refine Ev.bindN (eo 0) ?_;simp only[e1,e2];refine Ev.bind (qyf H f) ?_;unfold rowO;cases e:ltT b F LV R f with
 | none=>exact Ev.tt Z .done
 | some t=>
  refine Ev.ff Z (Ev.bind (qyR (period:=period) H hf e) ?_);have hh:∀ o:Option (List qf),Ev (fun _:Nat=>match flowO (([]:List qf),false) (fun l=>(l,(lcN b:Int))) o with|.ret r=>V r|.nxt (x1,_)=>V (x1,true)) (match o with|none=>([],false)|some l=>(l,true)):=fun o=>by cases o<;>exact .done
  exact hh (rowI b d period f t)
def lts (a_open close:Int)(i:Nat):List qE:=pre (fun _=>⟨a_open,close⟩) i
theorem qyB (H:LsOk b c d F LV R) :
  Ev (fun n=>qbU b c a_open close period (pre (exactL b) b.Ac.length) (pre (load0 b) b.Ac.length) (linksL b) (places b.Aa) ((lchL b b.Aa.Ab.length).map (siteL b)) LV (ints R) n ([]:List qf) ([]:List qE) 0)
   (flowO ((⟨[],[]⟩:qg),(3:Int)) (fun l=>(l,lts a_open close (lcN b),(lcN b:Int))) (outI (rowO b d F LV R period) (lcN b) 0 [])):=by
 have h:=H.bl;have hlc:=qoL h;have hsl:((lchL b b.Aa.Ab.length).map (siteL b)).length=lcN b:=by rw[ju];rfl
 have hr:∀ i l,rowO b d F LV R period i=V l→l.length≤14:=fun i l e=>by
  unfold rowO at e;cases e2:ltT b F LV R i with
  | none=>rw[e2] at e;cases e
  | some t=>
   rw[e2] at e;have:=qxw (lcN b) 0 [] l e;simp only[jV] at this;omega
 refine qx9 (Lf:=fun n (s:List qf×List qE) i=>qbU b c a_open close period (pre (exactL b) b.Ac.length) (pre (load0 b) b.Ac.length) (linksL b) (places b.Aa) ((lchL b b.Aa.Ab.length).map (siteL b)) LV (ints R) n s.1 s.2 i) (St:=fun i acc=>(acc,lts a_open close i)) (len:=lcN b) (c:=14) hr (fun n acc=>?_) (fun i acc hi ha X h1 h2=>?_) (lcN b) 0 [] (by omega) (by simp)
 ·simp only[qbU,hsl,ql (je _),cond_false]
 ·have hll:=qvI (period:=period) H hi;simp only[qbU,hsl,qj hi,cond_true,wS i];refine Ev.bind hll ?_;cases e:rowO b d F LV R period i with
  | none=>rw[h1 e];exact Ev.tt Z .done
  | some l=>
   have:=hr i l e;have hal:acc.length+l.length≤2147483648:=by omega
   exact Ev.ff Z (Ev.bindN (qoT (f:=fun _=>(⟨a_open,close⟩:qE)) (by omega)) (Ev.bindN (qb0 hal) (h2 l e)))
theorem maxB0 {z:Int}:decide (maxB z 0<0)=false:=by
 unfold maxB;by_cases hz:(0:Int) > z
 ·rw[if_pos hz];rfl
 ·rw[if_neg hz];simpa using hz
theorem qya {m:Nat}:decide (lnkV t m<0) = !(winO t m).2:=by
 unfold lnkV;cases (winO t m).2
 ·rfl
 ·exact maxB0
theorem qym (H:LsOk b c d F LV R){f:Nat}(hf:f<lcN b)(e:ltT b F LV R f=V t){out:List qf}(ho:out.length≤60) :
  Ev (fun n=>qbj b c period (ints (lchL b b.Aa.Ab.length)) ((lchL b b.Aa.Ab.length).map fun i=>(pinN b i:Int)) (linksL b) (f:Int) t n out 0) (flowO ((⟨[],[]⟩:qg),(3:Int)) (fun l=>(l,(lcN b:Int))) (innS 60 (rcQ b t) (bdQ b d f t) (mkL b d period f t) (lcN b) 0 out)):=by
 have h:=H.bl;have hT:=qy4 H e;have hlc:=qoL h;have hsl:(ints (lchL b b.Aa.Ab.length)).length=lcN b:=qcG;obtain⟨hfi,hfq⟩:=qsu hf;refine qxZ (Lf:=fun n s i=>qbj b c period (ints (lchL b b.Aa.Ab.length)) ((lchL b b.Aa.Ab.length).map fun i=>(pinN b i:Int)) (linksL b) (f:Int) t n s i) (St:=fun _ out=>out) (len:=lcN b) (fun n acc=>?_) (fun k acc hk ha X h1 h2 h3=>?_) (lcN b) 0 out (by omega) ho
 ·simp only[qbj,hsl,ql (je _),cond_false]
 ·obtain⟨hi,hq⟩:=qsu hk;simp only[qbj,hsl,qj hk,cond_true,qqy hk,qyx hk,qqy hf,jd,wS k];refine Ev.bind (qwO h hT.r hT.a hi hq) ?_;have er:decide (lnkV t (2*(off b.Aa (glN b k)+pinN b (glN b k)))<0) = !rcQ b t k:=qya;rw[er];cases hr:rcQ b t k
  ·exact Ev.tt Z (h1 hr)
  ·refine Ev.ff Z (Ev.bind (qtO h H.dl hfi hfq) ?_);have ev:W64 (lnkV t (2*(off b.Aa (glN b k)+pinN b (glN b k)))+thrN (thrQ b (glN b f)) d (lkB b))=vlN b d f t k:=rfl;simp only[ev];have el:((acc.length:Int)==60)=(acc.length==60):=by rw[jj];simp;omega
   have eb:Ev (fun _:Nat=>bif decide (vlN b d f t k > 100000) then V true else V ((acc.length:Int)==60)) (bdQ b d f t k || (acc.length==60)):=by
    show Ev (fun _=>bif bdQ b d f t k then V true else V ((acc.length:Int)==60)) _;rw[el];cases bdQ b d f t k<;>exact .done
   refine Ev.bind eb ?_;cases hb:bdQ b d f t k || (acc.length==60)
   ·refine Ev.ff Z (Ev.bindN (qb0 (by simp only[jA,jV];omega)) ?_);exact h3 hr hb
   ·rw[h2 hr hb];exact Ev.tt Z .done
theorem qyZ (H:LsOk b c d F LV R) :
  Ev (fun n=>qbP b c a_open close period (ints (lchL b b.Aa.Ab.length)) ((lchL b b.Aa.Ab.length).map fun i=>(pinN b i:Int)) (linksL b) LV (ints R) n ([]:List qf) ([]:List qE) 0)
   (flowO ((⟨[],[]⟩:qg),(3:Int)) (fun l=>(l,lts a_open close (lcN b),(lcN b:Int))) (outS (rowCap b d F LV R period) (lcN b) 0 [])):=by
 have h:=H.bl;have hlc:=qoL h;have hsl:(ints (lchL b b.Aa.Ab.length)).length=lcN b:=qcG;have hpl78:=qbc (qU (qar h));have hr:∀ i out o,rowCap b d F LV R period i out=V o→out.length≤60→o.length≤60:=fun i out o e ho=>by
  rw[qxs ho] at e;exact qw4 e
 have main:=qyT (Lf:=fun n (s:List qf×List qE) i=>qbP b c a_open close period (ints (lchL b b.Aa.Ab.length)) ((lchL b b.Aa.Ab.length).map fun i=>(pinN b i:Int)) (linksL b) LV (ints R) n s.1 s.2 i) (St:=fun i out=>(out,lts a_open close i)) (cap:=60)
  (row:=fun i out=>if out.length≤60 then rowCap b d F LV R period i out else U) (len:=lcN b) (bad:=((⟨[],[]⟩:qg),(3:Int))) (fin:=fun l=>(l,lts a_open close (lcN b),(lcN b:Int)))
  (fun i out o e=>by
   by_cases ho:out.length≤60
   ·rw[if_pos ho] at e;exact hr i out o e ho
   ·rw[if_neg ho] at e;cases e)
  (fun n out=>by simp only[qbP,hsl,ql (je _),cond_false])
  (fun i out hi ho X h1 h2=>by
   obtain⟨hfi,hfq⟩:=qsu hi;obtain⟨hou,hpn,hn1,hn5⟩:=qwQ h hfi;have eu:outN b (glN b i)=off b.Aa (glN b i)+((gt b.Aa.Ab (glN b i)).Ah.length-1):=rfl;rw[if_pos ho] at h1 h2;simp only[qbP,hsl,qj hi,cond_true,wS i];refine Ev.bindN (qoT (f:=fun _=>(⟨a_open,close⟩:qE)) (by omega)) (Ev.bindN (qqy hi) (Ev.bindN (qz hfi) (Ev.bindN (qqy hi) ?_)));have e0:W64 (((gt b.Aa.Ab (glN b i)).Ah.length:Int)-1)=(((gt b.Aa.Ab (glN b i)).Ah.length-1:Nat):Int):=by rw[qI (by omega) (by omega)];omega
   rw[e0];refine Ev.bind (qmx h hfi (by omega)) ?_;rw[←eu];have e1:W64 (2*(outN b (glN b i):Int))=((2*outN b (glN b i):Nat):Int):=by rw[qI (by omega) (by omega)];omega
   have e2:W64 (((2*outN b (glN b i):Nat):Int)+1)=((2*outN b (glN b i)+1:Nat):Int):=by rw[qI (by omega) (by omega)];omega
   simp only[e1,e2];refine Ev.bind (qyE H i) ?_;cases e:ltT b F LV R i with
   | none=>
    have:rowCap b d F LV R period i out=U:=by unfold rowCap;rw[e];rfl
    rw[h1 this];exact Ev.tt Z .done
   | some t=>
    refine Ev.ff Z (Ev.bind (qym (period:=period) H hi e ho) ?_);have er:rowCap b d F LV R period i out=innS 60 (rcQ b t) (bdQ b d i t) (mkL b d period i t) (lcN b) 0 out:=by unfold rowCap;rw[e];rfl
    rw[er] at h1 h2;cases e3:innS 60 (rcQ b t) (bdQ b d i t) (mkL b d period i t) (lcN b) 0 out with
    | none=>rw[h1 e3];exact .done
    | some o=>exact h2 o e3)
  (lcN b) 0 [] (by omega) (by simp)
 have eq:∀ m i (out:List qf),out.length≤60→outS (fun i out=>if out.length≤60 then rowCap b d F LV R period i out else U) m i out=outS (rowCap b d F LV R period) m i out:=by
  intro m
  induction m with
  | zero=>intros;rfl
  | succ m ih=>
   intro i out ho;unfold outS;simp only[if_pos ho];cases e:rowCap b d F LV R period i out with
   | none=>rfl
   | some o=>exact ih (i+1) o (hr i out o e ho)
 rw[eq _ _ _ (by simp)] at main;exact main
end
end Go.Fw


namespace Go.Fw
open Go
set_option maxRecDepth 100000
section
variable {b:qd}{c:qy}{br:List Int}{a_open close period:Int}
def prdB (a_open close period:Int):Bool:=inI a_open 0 100000&&(inI close a_open 100000&&inI period 0 100000)
theorem qzF:prdB a_open close period=(!decide (a_open<0)&&(!decide (a_open > close)&&(!decide (close > 100000)&&inI period 0 100000))):=by
 unfold prdB;rw[jj];simp only[jf,qbA,jD,decide_eq_false_iff_not];constructor
 ·rintro⟨h1,h2,h3⟩;exact⟨by omega,by omega,by omega,h3⟩
 ·rintro⟨h1,h2,h3,h4⟩;exact⟨by omega,by omega,h4⟩
theorem qyC (hb:qla b)(h1:blockB b=true)(hbl:br.length≤1048576) :
  Ev (fun n=>(qiR n b br).bind fun r3=>bif (r3 != 0) then V true else
  (qaq n a_open 0 100000).bind fun r4=>bif (!r4) then V true else
  (qaq n close a_open 100000).bind fun r5=>bif (!r5) then V true else
  (qaq n period 0 100000).bind fun r6=>V (!r6)) (!(brB br (lkB b)&&prdB a_open close period)):=by
 refine Ev.bind (quG hb h1 hbl) ?_;have e:(linksL b).length=lkB b:=rfl;rw[e];unfold prdB;simp only[qdk,jd];cases brB br (lkB b)
 ·exact Ev.tt Z .done
 ·refine Ev.ff Z ?_;cases inI a_open 0 100000
  ·exact .done
  ·cases inI close a_open 100000<;>exact .done
theorem qyy (h1:blockB b=true)(hbl:br.length≤1048576) :
  Ev (fun n=>(qeR n (V (viewV b)) br).bind fun r3=>bif (!r3) then V true else bif decide (a_open<0) then V true else bif decide (a_open > close) then V true else bif decide (close > 100000) then V true else(qaY n period 0 100000).bind fun r4=>V (!r4)) (!(brB br (lkB b)&&prdB a_open close period)):=by
 have hib:=qt0 (v:=viewV b) (br:=br) hbl (qiE h1);have e:(viewV b).links.length=lkB b:=rfl;rw[e] at hib;refine Ev.bind hib ?_;rw[qzF];simp only[qey,jd];cases brB br (lkB b)
 ·exact .done
 ·cases decide (a_open<0)
  ·cases decide (a_open > close)
   ·cases decide (close > 100000)<;>exact .done
   ·exact .done
  ·exact .done
theorem qpd (hb:qla b)(hc:okS c.Au)(hbl:br.length≤1048576) :
  ∃ R:qg×Int,(R.1.Av.length≤14∧R.1.Bg.length≤60)∧Ev (fun n=>qeW n b c br a_open close period) R∧Ev (fun n=>qdC n b c br a_open close period) R:=by
 have s1:=qpQ hb;have i1:=quN hb;have s2:=qsV (c:=c) hc;have i2:=qtL (c:=c) hc;have hz:∀ code:Int,(((⟨[],[]⟩,code):qg×Int).1.Av.length≤14∧((⟨[],[]⟩,code):qg×Int).1.Bg.length≤60):=fun _=>⟨Nat.zero_le _,Nat.zero_le _⟩;have sA:Ev (fun n=>(qhS n b).bind fun r1=>bif (!r1) then V true else(qh5 n c).bind fun r2=>V (!r2)) (!(blockB b&&cornerB c)):=by
  refine Ev.bind s1 ?_;cases blockB b
  ·exact .done
  ·exact Ev.ff Z (Ev.bind s2 .done)
 have iA:Ev (fun n=>(qiP n b).bind fun r1=>bif (!r1) then V true else(qh0 n c).bind fun r2=>V (!r2)) (!(blockB b&&cornerB c)):=by
  refine Ev.bind i1 ?_;cases blockB b
  ·exact .done
  ·exact Ev.ff Z (Ev.bind i2 .done)
 unfold qeW qdC;cases h0:blockB b&&cornerB c
 ·rw[h0] at sA iA;exact⟨(⟨[],[]⟩,1),hz 1,Ev.bind sA (Ev.tt Z .done),Ev.bind iA (Ev.tt Z .done)⟩
 rw[h0] at sA iA;rw[jf] at h0;obtain⟨h1,h2⟩:=h0;have sB:=qyC (a_open:=a_open) (close:=close) (period:=period) hb h1 hbl;have iB:=qyy (a_open:=a_open) (close:=close) (period:=period) h1 hbl;have nv:=qu5 h1;cases h3:brB br (lkB b)&&prdB a_open close period
 ·rw[h3] at sB iB;exact⟨(⟨[],[]⟩,2),hz 2,Ev.bind sA (Ev.ff Z (Ev.bind sB (Ev.tt Z .done))),Ev.bind iA (Ev.ff Z (Ev.bind nv (Ev.bind iB (Ev.tt Z .done))))⟩
 rw[h3] at sB iB;rw[jf] at h3;obtain⟨h3,_⟩:=h3;have hs:=qiE h1;have sL:=qtC h1;have iL:=qrE h1;have hl1:((ints (lchL b b.Aa.Ab.length)).length:Int)=(lcN b:Int):=by rw[qcG];rfl
 have hl2:(((lchL b b.Aa.Ab.length).map (siteL b)).length:Int)=(lcN b:Int):=by rw[ju];rfl
 rcases Bool.eq_false_or_eq_true (decide ((lcN b:Int) > 12)) with h4|h4
 ·exact⟨(⟨[],[]⟩,3),hz 3,Ev.bind sA (Ev.ff Z (Ev.bind sB (Ev.ff Z (Ev.bind sL (Ev.tt (by rw[hl1];exact h4) .done))))),
   Ev.bind iA (Ev.ff Z (Ev.bind nv (Ev.bind iB (Ev.ff Z (Ev.bind iL (Ev.tt (by rw[hl2];exact h4) .done))))))⟩
 have gO:=qu3 (v:=viewV b) (br:=br) hs h3;have sV:=qwz (br:=br) h1 hbl;have iV:=qw2 (lv:=lvJ b br) h1 qvf;have hlv:(lvM b (lvJ b br)).length=lkB b:=qjE;have hlk:=qnD h1;have sO:=qvR (ls:=linksL b) (lv:=lvM b (lvJ b br)) hlk hlv;have iO:=qwh (ls:=linksL b) (lv:=lvM b (lvJ b br)) (ps:=places b.Aa) (b:=b) (lo:=pre (load0 b) b.Ac.length) (de:=pre (exactL b) b.Ac.length) (ex:=[]) hlk hlv Z;have sC:=qpY h1;have sK:=qpS h1;cases ho:ordL (linksL b) (lvM b (lvJ b br)) (ndB b) (ndB b) [] with
 | none=>
  have e:ordR (linksL b) (lvM b (lvJ b br)) (2*(places b.Aa).length)=([],false):=by unfold ordR;rw[ho]
  rw[e] at sO iO;exact⟨(⟨[],[]⟩,7),hz 7,Ev.bind sA (Ev.ff Z (Ev.bind sB (Ev.ff Z (Ev.bind sL (Ev.ff (by rw[hl1];exact h4) (Ev.bind sK (Ev.bind sV (Ev.bind sC (Ev.bind sO (Ev.tt Z .done)))))))))),
   Ev.bind iA (Ev.ff Z (Ev.bind nv (Ev.bind iB (Ev.ff Z (Ev.bind iL (Ev.ff (by rw[hl2];exact h4) (Ev.bind gO (Ev.bind iV (Ev.bind iO (Ev.tt Z .done))))))))))⟩
 | some R=>
  have e:ordR (linksL b) (lvM b (lvJ b br)) (2*(places b.Aa).length)=(ints R,true):=by unfold ordR;rw[ho]
  rw[e] at sO iO;have hord:OrdOk (lkB b) (frL (linksL b)) (toL (linksL b)) (lvL (lvM b (lvJ b br))) (ndB b) R:=qy0 (ndB b) [] R (fun l1 k l2 e=>by cases l1<;>cases e) ho;have hRl:R.length=ndB b:=by have:=qua (ndB b) [] R ho;simpa using this
  have hpl:=qbc (qU (qar h1));have eM:ndB b=2*(places b.Aa).length:=rfl;obtain⟨d,hd⟩:=qzA h1 h2;obtain⟨F,hF,hFi⟩:=qwS h1 h2;have H:LsOk b c d F (lvM b (lvJ b br)) R:=
   { bl:=h1,dl:=hd,fs:=hF,fi:=hFi [] (.inl Z),lv:=hlv,rb:=fun k hk=>(by obtain⟨i,hi,rfl⟩:=List.mem_iff_getElem.1 hk;exact(hord.at hi).1),rn:=fun j hj=>⟨(hord.at hj).1,(hord.at hj).2.1⟩,rl:=by omega }
  have sS:=qyZ (a_open:=a_open) (close:=close) (period:=period) H;have iS:=qyB (a_open:=a_open) (close:=close) (period:=period) H;rw[qyg (cap:=60) (row:=rowO b d F (lvM b (lvJ b br)) R period) (fun i out ho=>qxs ho) _ _ _ (by simp)] at sS;have hlc:lcN b≤12:=by have:=of_decide_eq_false h4;omega
  have hlt:(lts a_open close (lcN b)).length=lcN b:=qjE;cases hq:outI (rowO b d F (lvM b (lvJ b br)) R period) (lcN b) 0 [] with
  | none=>
   rw[hq] at sS iS;exact⟨(⟨[],[]⟩,3),hz 3,Ev.bind sA (Ev.ff Z (Ev.bind sB (Ev.ff Z (Ev.bind sL (Ev.ff (by rw[hl1];exact h4) (Ev.bind sK (Ev.bind sV (Ev.bind sC (Ev.bind sO (Ev.ff Z (Ev.bind sS .done))))))))))),Ev.bind iA (Ev.ff Z (Ev.bind nv (Ev.bind iB (Ev.ff Z (Ev.bind iL (Ev.ff (by rw[hl2];exact h4) (Ev.bind gO (Ev.bind iV (Ev.bind iO (Ev.ff Z (Ev.bind iS .done)))))))))))⟩
  | some l=>
   rw[hq] at sS iS;have ec:capL 60 (V l)=if l.length≤60 then V l else U:=rfl;rw[ec] at sS;by_cases hl:l.length≤60
   ·rw[if_pos hl] at sS;have hd6:decide ((l.length:Int) > 60)=false:=by simp;omega
    exact⟨(⟨lts a_open close (lcN b),l⟩,0),⟨by show(lts a_open close (lcN b)).length≤14;omega,hl⟩,Ev.bind sA (Ev.ff Z (Ev.bind sB (Ev.ff Z (Ev.bind sL (Ev.ff (by rw[hl1];exact h4) (Ev.bind sK (Ev.bind sV (Ev.bind sC (Ev.bind sO (Ev.ff Z (Ev.bind sS .done))))))))))),Ev.bind iA (Ev.ff Z (Ev.bind nv (Ev.bind iB (Ev.ff Z (Ev.bind iL (Ev.ff (by rw[hl2];exact h4) (Ev.bind gO (Ev.bind iV (Ev.bind iO (Ev.ff Z (Ev.bind iS (Ev.ff hd6 .done))))))))))))⟩
   ·rw[if_neg hl] at sS;have hd6:decide ((l.length:Int) > 60)=true:=by simp;omega
    exact⟨(⟨[],[]⟩,3),hz 3,Ev.bind sA (Ev.ff Z (Ev.bind sB (Ev.ff Z (Ev.bind sL (Ev.ff (by rw[hl1];exact h4) (Ev.bind sK (Ev.bind sV (Ev.bind sC (Ev.bind sO (Ev.ff Z (Ev.bind sS .done))))))))))),Ev.bind iA (Ev.ff Z (Ev.bind nv (Ev.bind iB (Ev.ff Z (Ev.bind iL (Ev.ff (by rw[hl2];exact h4) (Ev.bind gO (Ev.bind iV (Ev.bind iO (Ev.ff Z (Ev.bind iS (Ev.tt hd6 .done))))))))))))⟩
end
end Go.Fw


namespace Go.Fw
open Go Go.Proofs Go.Proofs.Tryz
open Go.RowKit (Below)
set_option maxRecDepth 100000
set_option maxHeartbeats 1600000
variable {n:Nat}{w:World}{cs1 cs2 cs3 cs4 cs5 cs6 cs7 cs8 cs9:List Value}
def qf0:Nat→Int→ByteArray→Option (Int×ByteArray)
 | 0,_,_=>U
 | n+1,i1,z1=>
  bif decide (i1 > 0) then
   (catB (strOf ([(⟨IntKind.wrap .u8 (W64 (48+(i1.tmod 10)))⟩:IntK .u8)]:List (IntK .u8))) z1).bind fun z2=>
   qf0 n (W64 (i1.tdiv 10)) z2
  else
   V (i1,z1)
def qeu (n:Nat)(k:Int):Option ByteArray:=
 bif decide (k≤0) then V (⟨#[109,48]⟩:ByteArray) else
 (qf0 n k (⟨#[]⟩:ByteArray)).bind fun o=>match o with
 | (_,z1)=>
  (catB (⟨#[109]⟩:ByteArray) z1).bind fun z3=>
  V z3
theorem qgd {k:Int}  {r:ByteArray}(F:qeu n k=V r):RetV prog 212 [.int .i64 k] w r:=by
 refine zV 20 func212 Z fun h=>X0 10 Z (qh Z F ?_ ?_)<;>intro F
 ·refine X0 4 Z ?_;obtain rfl:=qb F;exact qae qa (ρ:=ByteArray) [_] h ⟨rfl,trivial⟩ (quJ _ _)
 refine X0 6 Z ?_;obtain⟨o1,F,hK1⟩:=qc F;refine qn (rL (fun m e w'=>∃(i1:Int) (z1:ByteArray),qf0 m i1 z1=V o1∧e=[(0,.int .i64 i1),(3,.string z1)]∧SH w w' []) n ⟨_,_,F,rfl,h⟩ Z ?_);rintro m1 _ _ ⟨i1,z1,F,rfl,h⟩;rcases m1 with _|m1
 ·cases F
 refine X0 6 Z (qh Z F ?_ ?_)<;>intro F
 ·refine X0 8 Z (qK qa [.tmp 11] _ ([(⟨IntKind.wrap .u8 (W64 (48+(i1.tmod 10)))⟩:IntK .u8)]:List (IntK .u8)) h Z Z Z Z Z Z Z Z Z ⟨rfl,trivial⟩ Z fun _ _ _ h=>r_v (qyF qa (h.sl 0 Z).1 (h.sl 0 Z).2 Z ⟨rfl,rfl⟩ ⟨rfl,rfl⟩ Z Z) Z (zp1 Z ?_));obtain⟨_,hx1,F⟩:=qc F;obtain⟨g1,hx1⟩:=qsj hx1;refine r_v (qzb g1 Z Z) Z ?_;rw[hx1];refine X0 8 Z ?_;replace h:=h.pick [] Z;exact rK ⟨_,_,F,rfl,h⟩ Z
 refine qq Z ?_;obtain rfl:=qb F;replace F:=hK1;refine X0 3 Z ?_;obtain⟨_,hx2,F⟩:=qc F;obtain⟨g2,hx2⟩:=qsj hx2;refine r_v (qzb g2 Z Z) Z ?_;rw[hx2];refine X0 2 Z ?_;obtain rfl:=qb F;exact qae qa (ρ:=ByteArray) [_] h ⟨rfl,trivial⟩ (quJ _ _)
def qeE (a:(List qam)):Nat→(List qam)→Int→Int→Option ((List qam)×Int×Int)
 | 0,_,_,_=>U
 | n+1,x1,i1,i2=>
  bif decide (i2<(a.length:Int)) then
   (qeu n i1).bind fun r1=>
   (idx x1 i2).bind fun y1=>
   (idx (setS x1 i2 ({ y1 with Au:=r1 })) i2).bind fun y2=>
   (idx (setS (setS x1 i2 ({ y1 with Au:=r1 })) i2 ({ y2 with Bu:=W64 (i1+1) })) i2).bind fun y3=>
   (idx (setS (setS (setS x1 i2 ({ y1 with Au:=r1 })) i2 ({ y2 with Bu:=W64 (i1+1) })) i2 ({ y3 with Br:=W64 ((W64 (i1+1))+1) })) i2).bind fun y4=>
   qeE a n (setS (setS (setS (setS x1 i2 ({ y1 with Au:=r1 })) i2 ({ y2 with Bu:=W64 (i1+1) })) i2 ({ y3 with Br:=W64 ((W64 (i1+1))+1) })) i2 ({ y4 with Bo:=(((W64 ((W64 ((W64 (i1+1))+1))+1)).tmod 3)==0) })) (W64 ((W64 ((W64 ((W64 (i1+1))+1))+1))+1)) (W64 (i2+1))
  else
   V (x1,i1,i2)
def qlQ (n:Nat)(a:(List qam))(k:Int):Option (Int×(List qam)):=
 (qeE a n a k 0).bind fun o=>match o with
 | (x1,i1,_)=>
  V (i1,x1)
theorem qoC {n:Nat}{w0 w:World}{F:List Ch}{a:(List qam)}{k:Int}{S1:Nat→Prop}{p1:Option Addr}{ln1 k1:Nat}(h:SH w0 w (Ch.own S1 (a:List qam) [.slice p1 ln1 k1]::F)){r:(Int×(List qam))}(hF:qlQ n a k=V r):RetN prog 213 [.slice p1 ln1 k1,.int .i64 k] w (fun w'=>∃ Z0:Nat→Prop,SH w0 w' (Ch.own Z0 (r.2:List qam) [.slice p1 ln1 k1]::F)) r.1:=by
 refine qb9 func213 Z (m:=44) Z Z ?_;obtain rfl:=(h.sl 0 Z).2;refine X0 9 Z ?_;obtain⟨o1,hF,hK1⟩:=qc hF;refine qn (rL (fun m e w'=>∃(x1:(List qam)) (i1:Int) (i2:Int),qeE a m x1 i1 i2=V o1∧e=[(0,.slice p1 a.length k1),(1,.int .i64 i1),(5,.int .i64 i2)]∧SH w0 w' (Ch.own S1 (x1:List qam) [.slice p1 a.length k1]::F)) n ⟨_,_,_,hF,rfl,h⟩ Z ?_);rintro m1 _ _ ⟨x1,i1,i2,hF,rfl,h⟩;rcases m1 with _|m1
 ·cases hF
 refine X0 8 Z (qh Z hF ?_ ?_)<;>intro hF
 ·refine X0 8 Z (zcS h hF qgd Z fun r1 _ h hF=>?_);obtain⟨y1,hy1,hF,he1,_,_,_,_,hp1,hq1,hr2,hc2⟩:=(h.sl 0 Z).1.ix hF;obtain rfl:=qaV hr2;refine zx hp1 hq1 ⟨he1.1,qC he1.2.1 (h.sl 0 Z).2⟩ Z (zp1 Z (qay qa 0 0 ({ y1 with Au:=r1 }:qam) h Z hy1 hp1 hq1 (qee y1) hc2 Z Z Z (qee ({ y1 with Au:=r1 })) Z Z Z fun _ h=>X0 12 Z ?_));obtain⟨y2,hy2,hF,he2,_,_,_,_,hp2,hq2,hr3,hc3⟩:=(h.sl 0 Z).1.ix hF;obtain rfl:=qaV hr3;refine zx hp2 hq2 ⟨he2.1,qC he2.2.1 (h.sl 0 Z).2⟩ Z (zp1 Z (qay qa 0 1 ({ y2 with Bu:=W64 (i1+1) }:qam) h Z hy2 hp2 hq2 (qee y2) hc3 Z Z Z (qee ({ y2 with Bu:=W64 (i1+1) })) Z Z Z fun _ h=>X0 12 Z ?_));obtain⟨y3,hy3,hF,he3,_,_,_,_,hp3,hq3,hr4,hc4⟩:=(h.sl 0 Z).1.ix hF;obtain rfl:=qaV hr4;refine zx hp3 hq3 ⟨he3.1,qC he3.2.1 (h.sl 0 Z).2⟩ Z (zp1 Z (qay qa 0 2 ({ y3 with Br:=W64 ((W64 (i1+1))+1) }:qam) h Z hy3 hp3 hq3 (qee y3) hc4 Z Z Z (qee ({ y3 with Br:=W64 ((W64 (i1+1))+1) })) Z Z Z fun _ h=>X0 14 Z ?_));obtain⟨y4,hy4,hF,he4,_,_,_,_,hp4,hq4,hr5,hc5⟩:=(h.sl 0 Z).1.ix hF;obtain rfl:=qaV hr5;exact zx hp4 hq4 ⟨he4.1,qC he4.2.1 (h.sl 0 Z).2⟩ Z (zp1 Z (qay qa 0 3 ({ y4 with Bo:=(((W64 ((W64 ((W64 (i1+1))+1))+1)).tmod 3)==0) }:qam) h Z hy4 hp4 hq4 (qee y4) hc5 Z Z Z (qee ({ y4 with Bo:=(((W64 ((W64 ((W64 (i1+1))+1))+1)).tmod 3)==0) })) Z Z Z fun _ h=>X0 12 Z (rK ⟨_,_,_,hF,rfl,h⟩ Z)))
 refine qq Z ?_;obtain rfl:=qb hF;replace hF:=hK1;refine X0 5 Z ?_;obtain rfl:=qb hF;exact qir qa ⟨_,h⟩ ⟨rfl,trivial⟩
def qdu (a:(List qu)):Nat→(List qu)→Int→Int→Option ((List qu)×Int×Int)
 | 0,_,_,_=>U
 | n+1,x1,i1,i2=>
  bif decide (i2<(a.length:Int)) then
   (idx x1 i2).bind fun y1=>
   (qaR n y1.Bl i1).bind fun o=>match o with
    | (r1,x2)=>
     (qaR n y1.Bd r1).bind fun o=>match o with
      | (r2,x3)=>
       (qaR n y1.Az r2).bind fun o=>match o with
        | (r3,x4)=>
         qdu a n (setS x1 i2 (⟨x2,x3,x4⟩:qu)) r3 (W64 (i2+1))
  else
   V (x1,i1,i2)
def qil (n:Nat)(a:(List qu))(k:Int):Option (Int×(List qu)):=
 (qdu a n a k 0).bind fun o=>match o with
 | (x1,i1,_)=>
  V (i1,x1)
theorem qkg {n:Nat}{w0 w:World}{F:List Ch}{a:(List qu)}{k:Int}{S1:Nat→Prop}{p1:Option Addr}{ln1 k1:Nat}(h:SH w0 w (Ch.own S1 (a:List qu) [.slice p1 ln1 k1]::F)){r:(Int×(List qu))}(hF:qil n a k=V r):RetN prog 257 [.slice p1 ln1 k1,.int .i64 k] w (fun w'=>∃ Z0:Nat→Prop,SH w0 w' (Ch.own Z0 (r.2:List qu) [.slice p1 ln1 k1]::F)) r.1:=by
 refine qb9 func257 Z (m:=34) Z Z ?_;obtain rfl:=(h.sl 0 Z).2;refine X0 9 Z ?_;obtain⟨o1,hF,hK1⟩:=qc hF;refine qn (rL (fun m e w'=>∃(S2:Nat→Prop) (x1:(List qu)) (i1:Int) (i2:Int),qdu a m x1 i1 i2=V o1∧e=[(0,.slice p1 a.length k1),(1,.int .i64 i1),(5,.int .i64 i2)]∧SH w0 w' (Ch.own S2 (x1:List qu) [.slice p1 a.length k1]::F)) n ⟨_,_,_,_,hF,rfl,h⟩ Z ?_);rintro m1 _ _ ⟨S2,x1,i1,i2,hF,rfl,h⟩;rcases m1 with _|m1
 ·cases hF
 refine X0 8 Z (qh Z hF ?_ ?_)<;>intro hF
 ·refine X0 7 Z ?_;obtain⟨_,hy1,hF⟩:=qc hF;have he1:=qcT hy1;obtain⟨_,_,_,h⟩:=h.take hy1;obtain⟨_,_,_,_,_,_,rfl,-,-,-⟩:=qaJ (h.own 0 Z);obtain⟨_,_,_,h⟩:=qtf h;obtain⟨_,hp1,-,-,hl2⟩:=h.holeAt 3 Z;obtain⟨q1,hq1⟩:∃ q,q=0+(i2).toNat*GoT.k qu:=⟨_,rfl⟩;refine zx hp1 hq1 ⟨he1.1,qC he1.2.1 hl2⟩ Z (zp1 Z (zc 0 (qcU h 3 Z hp1 hq1) Z (zp1 Z ?_)));replace h:=h.pickT 4 [2,0,1,3] Z;obtain⟨o2,hr1,hF⟩:=qc hF;obtain⟨r1,x2⟩:=o2;refine qcw r1 (cB 22 Z) (qa0 h hr1) Z Z Z Z ?_;rintro _ ⟨_,h⟩;refine X0 6 Z ?_;obtain⟨_,hp2,-,-,hl4⟩:=h.holeAt 3 Z;obtain⟨q2,hq2⟩:∃ q,q=0+(i2).toNat*GoT.k qu:=⟨_,rfl⟩;refine zx hp2 hq2 ⟨he1.1,qC he1.2.1 hl4⟩ Z (zp1 Z (zc 1 (qcU h 3 Z hp2 hq2) Z (zp1 Z ?_)));replace h:=h.pickT 4 [2,0,1,3] Z;obtain⟨o3,hr2,hF⟩:=qc hF;obtain⟨r2,x3⟩:=o3;refine qcw r2 (cB 22 Z) (qa0 h hr2) Z Z Z Z ?_;rintro _ ⟨_,h⟩;refine X0 5 Z ?_;obtain⟨_,hp3,-,-,hl6⟩:=h.holeAt 3 Z;obtain⟨q3,hq3⟩:∃ q,q=0+(i2).toNat*GoT.k qu:=⟨_,rfl⟩;refine zx hp3 hq3 ⟨he1.1,qC he1.2.1 hl6⟩ Z (zp1 Z (zc 2 (qcU h 3 Z hp3 hq3) Z (zp1 Z ?_)));replace h:=h.pickT 4 [2,0,1,3] Z;obtain⟨o4,hr3,hF⟩:=qc hF;obtain⟨r3,x4⟩:=o4;refine qcw r3 (cB 22 Z) (qa0 h hr3) Z Z Z Z ?_;rintro _ ⟨_,h⟩;refine X0 8 Z ?_;obtain⟨_,h⟩:=h.gatherT 4 [3] (qrR (⟨x2,x3,x4⟩:qu) h (qaA 2 h Z) (qaA 1 h Z) (qaA 0 h Z) (by rfl) (by rfl)) Z;replace h:=h.put;obtain⟨_,h⟩:=qpz (S:=_) h;exact rK ⟨_,_,_,_,hF,rfl,h⟩ Z
 refine qq Z ?_;obtain rfl:=qb hF;replace hF:=hK1;refine X0 5 Z ?_;obtain rfl:=qb hF;exact qir qa ⟨_,h⟩ ⟨rfl,trivial⟩
def qeG (a:(List qH)):Nat→(List qH)→Int→Int→Option ((List qH)×Int×Int)
 | 0,_,_,_=>U
 | n+1,x1,i1,i2=>
  bif decide (i2<(a.length:Int)) then
   (idx x1 i2).bind fun y1=>
   (qil n y1.Bk (W64 ((W64 ((W64 ((W64 (i1+1))+1))+1))+1))).bind fun o=>match o with
    | (r1,x2)=>
     (qil n y1.Ba r1).bind fun o=>match o with
      | (r2,x3)=>
       qeG a n (setS x1 i2 (⟨i1,W64 (i1+1),W64 ((W64 (i1+1))+1),W64 ((W64 ((W64 (i1+1))+1))+1),x2,x3⟩:qH)) r2 (W64 (i2+1))
  else
   V (x1,i1,i2)
def qlN (n:Nat)(a:(List qH))(k:Int):Option (Int×(List qH)):=
 (qeG a n a k 0).bind fun o=>match o with
 | (x1,i1,_)=>
  V (i1,x1)
theorem qov {n:Nat}{w0 w:World}{F:List Ch}{a:(List qH)}{k:Int}{S1:Nat→Prop}{p1:Option Addr}{ln1 k1:Nat}(h:SH w0 w (Ch.own S1 (a:List qH) [.slice p1 ln1 k1]::F)){r:(Int×(List qH))}(hF:qlN n a k=V r):RetN prog 214 [.slice p1 ln1 k1,.int .i64 k] w (fun w'=>∃ Z0:Nat→Prop,SH w0 w' (Ch.own Z0 (r.2:List qH) [.slice p1 ln1 k1]::F)) r.1:=by
 refine qb9 func214 Z (m:=55) Z Z ?_;obtain rfl:=(h.sl 0 Z).2;refine X0 9 Z ?_;obtain⟨o1,hF,hK1⟩:=qc hF;refine qn (rL (fun m e w'=>∃(S2:Nat→Prop) (x1:(List qH)) (i1:Int) (i2:Int),qeG a m x1 i1 i2=V o1∧e=[(0,.slice p1 a.length k1),(1,.int .i64 i1),(5,.int .i64 i2)]∧SH w0 w' (Ch.own S2 (x1:List qH) [.slice p1 a.length k1]::F)) n ⟨_,_,_,_,hF,rfl,h⟩ Z ?_);rintro m1 _ _ ⟨S2,x1,i1,i2,hF,rfl,h⟩;rcases m1 with _|m1
 ·cases hF
 refine X0 8 Z (qh Z hF ?_ ?_)<;>intro hF
 ·refine X0 8 Z ?_;obtain⟨y1,hy1,hF⟩:=qc hF;have he1:=qcT hy1;obtain⟨_,S4,_,h⟩:=h.take hy1;obtain⟨p2,k2,p3,k3,rfl,-,-⟩:=qX (h.own 0 Z);obtain⟨S5,S6,h⟩:=quU h;obtain⟨_,hp1,-,-,hl2⟩:=h.holeAt 2 Z;obtain⟨q1,hq1⟩:∃ q,q=0+(i2).toNat*GoT.k qH:=⟨_,rfl⟩;refine zx hp1 hq1 ⟨he1.1,qC he1.2.1 hl2⟩ Z (zp1 Z (qhy qa 2 0 h Z hp1 hq1 Z Z Z Z Z Z fun _ h=>?_));replace h:SH _ _ (Ch.own S6 (y1.Ba:List qu) [.slice p3 y1.Ba.length k3]::Ch.own S5 (y1.Bk:List qu) [.slice p2 y1.Bk.length k2]::Ch.hole S4 (x1:List qH) p1 a.length k1 (i2).toNat [.int .i64 i1,.int .i64 y1.Bc,.int .i64 y1.To,.int .i64 y1.Bn,.slice p2 y1.Bk.length k2,.slice p3 y1.Ba.length k3]::F):=h;refine X0 12 Z ?_;obtain⟨_,hp2,-,-,hl4⟩:=h.holeAt 2 Z;obtain⟨q2,hq2⟩:∃ q,q=0+(i2).toNat*GoT.k qH:=⟨_,rfl⟩;refine zx hp2 hq2 ⟨he1.1,qC he1.2.1 hl4⟩ Z (zp1 Z (qhy qa 2 1 h Z hp2 hq2 Z Z Z Z Z Z fun _ h=>X0 12 Z ?_));obtain⟨_,hp3,-,-,hl6⟩:=h.holeAt 2 Z;obtain⟨q3,hq3⟩:∃ q,q=0+(i2).toNat*GoT.k qH:=⟨_,rfl⟩;refine zx hp3 hq3 ⟨he1.1,qC he1.2.1 hl6⟩ Z (zp1 Z (qhy qa 2 2 h Z hp3 hq3 Z Z Z Z Z Z fun _ h=>X0 12 Z ?_));obtain⟨_,hp4,-,-,hl8⟩:=h.holeAt 2 Z;obtain⟨q4,hq4⟩:∃ q,q=0+(i2).toNat*GoT.k qH:=⟨_,rfl⟩;refine zx hp4 hq4 ⟨he1.1,qC he1.2.1 hl8⟩ Z (zp1 Z (qhy qa 2 3 h Z hp4 hq4 Z Z Z Z Z Z fun _ h=>?_));replace h:SH _ _ (Ch.own S6 (y1.Ba:List qu) [.slice p3 y1.Ba.length k3]::Ch.own S5 (y1.Bk:List qu) [.slice p2 y1.Bk.length k2]::Ch.hole S4 (x1:List qH) p1 a.length k1 (i2).toNat [.int .i64 i1,.int .i64 (W64 (i1+1)),.int .i64 (W64 ((W64 (i1+1))+1)),.int .i64 (W64 ((W64 ((W64 (i1+1))+1))+1)),.slice p2 y1.Bk.length k2,.slice p3 y1.Ba.length k3]::F):=h;refine X0 11 Z ?_;obtain⟨_,hp5,-,-,hl10⟩:=h.holeAt 2 Z;obtain⟨q5,hq5⟩:∃ q,q=0+(i2).toNat*GoT.k qH:=⟨_,rfl⟩;refine zx hp5 hq5 ⟨he1.1,qC he1.2.1 hl10⟩ Z (zp1 Z (zc 4 (qcU h 2 Z hp5 hq5) Z (zp1 Z ?_)));replace h:=h.pickT 3 [1,0,2] Z;obtain⟨o2,hr1,hF⟩:=qc hF;obtain⟨r1,x2⟩:=o2;refine qcw r1 (cB 257 Z) (qkg h hr1) Z Z Z Z ?_;rintro _ ⟨_,h⟩;refine X0 5 Z ?_;obtain⟨_,hp6,-,-,hl12⟩:=h.holeAt 2 Z;obtain⟨q6,hq6⟩:∃ q,q=0+(i2).toNat*GoT.k qH:=⟨_,rfl⟩;refine zx hp6 hq6 ⟨he1.1,qC he1.2.1 hl12⟩ Z (zp1 Z (zc 5 (qcU h 2 Z hp6 hq6) Z (zp1 Z ?_)));replace h:=h.pickT 3 [1,0,2] Z;obtain⟨o3,hr2,hF⟩:=qc hF;obtain⟨r2,x3⟩:=o3;refine qcw r2 (cB 257 Z) (qkg h hr2) Z Z Z Z ?_;rintro _ ⟨_,h⟩;refine X0 8 Z ?_;obtain⟨_,h⟩:=h.gatherT 3 [2] (qvk (⟨i1,W64 (i1+1),W64 ((W64 (i1+1))+1),W64 ((W64 ((W64 (i1+1))+1))+1),x2,x3⟩:qH) h (qA (S:=fun _=>False) Z) (qA (S:=fun _=>False) Z) (qA (S:=fun _=>False) Z) (qA (S:=fun _=>False) Z) (qaA 1 h Z) (qaA 0 h Z) (by rfl) (by rfl) (by rfl) (by rfl) (by rfl)) Z;replace h:=h.put;obtain⟨_,h⟩:=qpz (S:=_) h;exact rK ⟨_,_,_,_,hF,rfl,h⟩ Z
 refine qq Z ?_;obtain rfl:=qb hF;replace hF:=hK1;refine X0 5 Z ?_;obtain rfl:=qb hF;exact qir qa ⟨_,h⟩ ⟨rfl,trivial⟩
def qdP (a:(List qv)):Nat→(List qv)→Int→Int→Option ((List qv)×Int×Int)
 | 0,_,_,_=>U
 | n+1,x1,i1,i2=>
  bif decide (i2<(a.length:Int)) then
   (qeu n i1).bind fun r1=>
   (idx x1 i2).bind fun y1=>
   (qlQ n y1.As (W64 ((W64 (i1+1))+1))).bind fun o=>match o with
    | (r2,x2)=>
     (qlN n y1.Ak r2).bind fun o=>match o with
      | (r3,x3)=>
       (qaR n y1.Bm r3).bind fun o=>match o with
        | (r4,x4)=>
         qdP a n (setS x1 i2 (⟨r1,W64 (i1+1),x2,x3,x4,r4,W64 (r4+1)⟩:qv)) (W64 ((W64 (r4+1))+1)) (W64 (i2+1))
  else
   V (x1,i1,i2)
def qkL (n:Nat)(a:(List qv))(k:Int):Option (Int×(List qv)):=
 (qdP a n a k 0).bind fun o=>match o with
 | (x1,i1,_)=>
  V (i1,x1)
theorem qop {n:Nat}{w0 w:World}{F:List Ch}{a:(List qv)}{k:Int}{S1:Nat→Prop}{p1:Option Addr}{ln1 k1:Nat}(h:SH w0 w (Ch.own S1 (a:List qv) [.slice p1 ln1 k1]::F)){r:(Int×(List qv))}(hF:qkL n a k=V r):RetN prog 140 [.slice p1 ln1 k1,.int .i64 k] w (fun w'=>∃ Z0:Nat→Prop,SH w0 w' (Ch.own Z0 (r.2:List qv) [.slice p1 ln1 k1]::F)) r.1:=by
 refine qb9 func140 Z (m:=63) Z Z ?_;obtain rfl:=(h.sl 0 Z).2;refine X0 9 Z ?_;obtain⟨o1,hF,hK1⟩:=qc hF;refine qn (rL (fun m e w'=>∃(S2:Nat→Prop) (x1:(List qv)) (i1:Int) (i2:Int),qdP a m x1 i1 i2=V o1∧e=[(0,.slice p1 a.length k1),(1,.int .i64 i1),(5,.int .i64 i2)]∧SH w0 w' (Ch.own S2 (x1:List qv) [.slice p1 a.length k1]::F)) n ⟨_,_,_,_,hF,rfl,h⟩ Z ?_);rintro m1 _ _ ⟨S2,x1,i1,i2,hF,rfl,h⟩;rcases m1 with _|m1
 ·cases hF
 refine X0 8 Z (qh Z hF ?_ ?_)<;>intro hF
 ·refine X0 8 Z (zcS h hF qgd Z fun r1 _ h hF=>?_);obtain⟨y1,hy1,hF⟩:=qc hF;have he1:=qcT hy1;obtain⟨_,S4,_,h⟩:=h.take hy1;obtain⟨p2,k2,p3,k3,p4,k4,rfl,-,-,-⟩:=qO (h.own 0 Z);obtain⟨S5,S6,S7,h⟩:=qth h;obtain⟨_,hp1,-,-,hl2⟩:=h.holeAt 3 Z;obtain⟨q1,hq1⟩:∃ q,q=0+(i2).toNat*GoT.k qv:=⟨_,rfl⟩;refine zx hp1 hq1 ⟨he1.1,qC he1.2.1 hl2⟩ Z (zp1 Z (qhy qa 3 0 h Z hp1 hq1 Z Z Z Z Z Z fun _ h=>?_));replace h:SH _ _ (Ch.own S7 (y1.Bm:List Int) [.slice p4 y1.Bm.length k4]::Ch.own S6 (y1.Ak:List qH) [.slice p3 y1.Ak.length k3]::Ch.own S5 (y1.As:List qam) [.slice p2 y1.As.length k2]::Ch.hole S4 (x1:List qv) p1 a.length k1 (i2).toNat [.string r1,.int .i64 y1.Aq,.slice p2 y1.As.length k2,.slice p3 y1.Ak.length k3,.slice p4 y1.Bm.length k4,.int .i64 y1.Bz,.int .i64 y1.Bs]::F):=h;refine X0 12 Z ?_;obtain⟨_,hp2,-,-,hl4⟩:=h.holeAt 3 Z;obtain⟨q2,hq2⟩:∃ q,q=0+(i2).toNat*GoT.k qv:=⟨_,rfl⟩;refine zx hp2 hq2 ⟨he1.1,qC he1.2.1 hl4⟩ Z (zp1 Z (qhy qa 3 1 h Z hp2 hq2 Z Z Z Z Z Z fun _ h=>X0 11 Z ?_));obtain⟨_,hp3,-,-,hl6⟩:=h.holeAt 3 Z;obtain⟨q3,hq3⟩:∃ q,q=0+(i2).toNat*GoT.k qv:=⟨_,rfl⟩;refine zx hp3 hq3 ⟨he1.1,qC he1.2.1 hl6⟩ Z (zp1 Z (zc 2 (qcU h 3 Z hp3 hq3) Z (zp1 Z ?_)));replace h:=h.pickT 4 [2,0,1,3] Z;obtain⟨o2,hr2,hF⟩:=qc hF;obtain⟨r2,x2⟩:=o2;refine qcw r2 (cB 213 Z) (qoC h hr2) Z Z Z Z ?_;rintro _ ⟨S8,h⟩;refine X0 6 Z ?_;obtain⟨_,hp4,-,-,hl8⟩:=h.holeAt 3 Z;obtain⟨q4,hq4⟩:∃ q,q=0+(i2).toNat*GoT.k qv:=⟨_,rfl⟩;refine zx hp4 hq4 ⟨he1.1,qC he1.2.1 hl8⟩ Z (zp1 Z (zc 3 (qcU h 3 Z hp4 hq4) Z (zp1 Z ?_)));replace h:=h.pickT 4 [2,0,1,3] Z;obtain⟨o3,hr3,hF⟩:=qc hF;obtain⟨r3,x3⟩:=o3;refine qcw r3 (cB 214 Z) (qov h hr3) Z Z Z Z ?_;rintro _ ⟨S9,h⟩;refine X0 6 Z ?_;obtain⟨_,hp5,-,-,hl10⟩:=h.holeAt 3 Z;obtain⟨q5,hq5⟩:∃ q,q=0+(i2).toNat*GoT.k qv:=⟨_,rfl⟩;refine zx hp5 hq5 ⟨he1.1,qC he1.2.1 hl10⟩ Z (zp1 Z (zc 4 (qcU h 3 Z hp5 hq5) Z (zp1 Z ?_)));replace h:=h.pickT 4 [2,0,1,3] Z;obtain⟨o4,hr4,hF⟩:=qc hF;obtain⟨r4,x4⟩:=o4;refine qcw r4 (cB 22 Z) (qa0 h hr4) Z Z Z Z ?_;rintro _ ⟨S10,h⟩;refine X0 7 Z ?_;obtain⟨_,hp6,-,-,hl12⟩:=h.holeAt 3 Z;obtain⟨q6,hq6⟩:∃ q,q=0+(i2).toNat*GoT.k qv:=⟨_,rfl⟩;refine zx hp6 hq6 ⟨he1.1,qC he1.2.1 hl12⟩ Z (zp1 Z (qhy qa 3 5 h Z hp6 hq6 Z Z Z Z Z Z fun _ h=>X0 12 Z ?_));obtain⟨_,hp7,-,-,hl14⟩:=h.holeAt 3 Z;obtain⟨q7,hq7⟩:∃ q,q=0+(i2).toNat*GoT.k qv:=⟨_,rfl⟩;refine zx hp7 hq7 ⟨he1.1,qC he1.2.1 hl14⟩ Z (zp1 Z (qhy qa 3 6 h Z hp7 hq7 Z Z Z Z Z Z fun _ h=>?_));replace h:SH _ _ (Ch.own S10 (x4:List Int) [.slice p4 y1.Bm.length k4]::Ch.own S9 (x3:List qH) [.slice p3 y1.Ak.length k3]::Ch.own S8 (x2:List qam) [.slice p2 y1.As.length k2]::Ch.hole S4 (x1:List qv) p1 a.length k1 (i2).toNat [.string r1,.int .i64 (W64 (i1+1)),.slice p2 y1.As.length k2,.slice p3 y1.Ak.length k3,.slice p4 y1.Bm.length k4,.int .i64 r4,.int .i64 (W64 (r4+1))]::F):=h;refine X0 12 Z ?_;obtain⟨_,h⟩:=h.gatherT 4 [3] (qub (⟨r1,W64 (i1+1),x2,x3,x4,r4,W64 (r4+1)⟩:qv) h (qA (S:=fun _=>False) Z) (qA (S:=fun _=>False) Z) (qaA 2 h Z) (qaA 1 h Z) (qaA 0 h Z) (qA (S:=fun _=>False) Z) (qA (S:=fun _=>False) Z) (by rfl) (by rfl) (by rfl) (by rfl) (by rfl) (by rfl)) Z;replace h:=h.put;obtain⟨_,h⟩:=qpz (S:=_) h;exact rK ⟨_,_,_,_,hF,rfl,h⟩ Z
 refine qq Z ?_;obtain rfl:=qb hF;replace hF:=hK1;refine X0 5 Z ?_;obtain rfl:=qb hF;exact qir qa ⟨_,h⟩ ⟨rfl,trivial⟩
def qhQ (n:Nat)(a:qr)(k:Int):Option (Int×(List qv)):=
 (qkL n a.Am k).bind fun o=>match o with
  | (r1,x1)=>
   V (r1,x1)
theorem qnu {n:Nat}{w0 w:World}{F:List Ch}{a:qr}{k:Int}{S1:Nat→Prop}{p1:Option Addr}{ln1 k1:Nat}(h:SH w0 w (Ch.own S1 (a.Am:List qv) [.slice p1 ln1 k1]::F)){r:(Int×(List qv))}(hF:qhQ n a k=V r):RetN prog 64 [.agg #[.slice p1 ln1 k1],.int .i64 k] w (fun w'=>∃ Z0:Nat→Prop,SH w0 w' (Ch.own Z0 (r.2:List qv) [.slice p1 ln1 k1]::F)) r.1:=by
 refine qb9 func64 Z (m:=10) Z Z ?_;obtain rfl:=(h.sl 0 Z).2;refine zSR (qx h Z Z fun _ _ h=>X1 7 0 h Z ?_);replace h:=h.pickT 2 [1,0] Z;obtain⟨o1,hr1,hF⟩:=qc hF;obtain⟨r1,_⟩:=o1;refine qcw r1 (cB 140 Z) (qop h hr1) Z Z Z Z ?_;rintro _ ⟨_,h⟩;refine X0 7 Z ?_;obtain rfl:=qb hF;replace h:=h.pickT 2 [0] Z;exact qir qa ⟨_,h⟩ ⟨rfl,trivial⟩
def qco (a:(List qk)):Nat→(List qk)→Int→Int→Option ((List qk)×Int×Int)
 | 0,_,_,_=>U
 | n+1,x1,i1,i2=>
  bif decide (i2<(a.length:Int)) then
   (qeu n i1).bind fun r1=>
   (idx x1 i2).bind fun y1=>
   (qaR n y1.Ah (W64 ((W64 (i1+1))+1))).bind fun o=>match o with
    | (r2,x2)=>
     qco a n (setS x1 i2 (⟨r1,W64 (i1+1),x2⟩:qk)) r2 (W64 (i2+1))
  else
   V (x1,i1,i2)
def qix (n:Nat)(a:(List qk))(k:Int):Option (Int×(List qk)):=
 (qco a n a k 0).bind fun o=>match o with
 | (x1,i1,_)=>
  V (i1,x1)
theorem qmD {n:Nat}{w0 w:World}{F:List Ch}{a:(List qk)}{k:Int}{S1:Nat→Prop}{p1:Option Addr}{ln1 k1:Nat}(h:SH w0 w (Ch.own S1 (a:List qk) [.slice p1 ln1 k1]::F)){r:(Int×(List qk))}(hF:qix n a k=V r):RetN prog 141 [.slice p1 ln1 k1,.int .i64 k] w (fun w'=>∃ Z0:Nat→Prop,SH w0 w' (Ch.own Z0 (r.2:List qk) [.slice p1 ln1 k1]::F)) r.1:=by
 refine qb9 func141 Z (m:=35) Z Z ?_;obtain rfl:=(h.sl 0 Z).2;refine X0 9 Z ?_;obtain⟨o1,hF,hK1⟩:=qc hF;refine qn (rL (fun m e w'=>∃(S2:Nat→Prop) (x1:(List qk)) (i1:Int) (i2:Int),qco a m x1 i1 i2=V o1∧e=[(0,.slice p1 a.length k1),(1,.int .i64 i1),(5,.int .i64 i2)]∧SH w0 w' (Ch.own S2 (x1:List qk) [.slice p1 a.length k1]::F)) n ⟨_,_,_,_,hF,rfl,h⟩ Z ?_);rintro m1 _ _ ⟨S2,x1,i1,i2,hF,rfl,h⟩;rcases m1 with _|m1
 ·cases hF
 refine X0 8 Z (qh Z hF ?_ ?_)<;>intro hF
 ·refine X0 8 Z (zcS h hF qgd Z fun r1 _ h hF=>?_);obtain⟨y1,hy1,hF⟩:=qc hF;have he1:=qcT hy1;obtain⟨_,S4,_,h⟩:=h.take hy1;obtain⟨p2,k2,rfl,-⟩:=qF (h.own 0 Z);obtain⟨S5,h⟩:=qqt h;obtain⟨_,hp1,-,-,hl2⟩:=h.holeAt 1 Z;obtain⟨q1,hq1⟩:∃ q,q=0+(i2).toNat*GoT.k qk:=⟨_,rfl⟩;refine zx hp1 hq1 ⟨he1.1,qC he1.2.1 hl2⟩ Z (zp1 Z (qhy qa 1 0 h Z hp1 hq1 Z Z Z Z Z Z fun _ h=>X0 12 Z ?_));obtain⟨_,hp2,-,-,hl4⟩:=h.holeAt 1 Z;obtain⟨q2,hq2⟩:∃ q,q=0+(i2).toNat*GoT.k qk:=⟨_,rfl⟩;refine zx hp2 hq2 ⟨he1.1,qC he1.2.1 hl4⟩ Z (zp1 Z (qhy qa 1 1 h Z hp2 hq2 Z Z Z Z Z Z fun _ h=>?_));replace h:SH _ _ (Ch.own S5 (y1.Ah:List Int) [.slice p2 y1.Ah.length k2]::Ch.hole S4 (x1:List qk) p1 a.length k1 (i2).toNat [.string r1,.int .i64 (W64 (i1+1)),.slice p2 y1.Ah.length k2]::F):=h;refine X0 10 Z ?_;obtain⟨_,hp3,-,-,hl6⟩:=h.holeAt 1 Z;obtain⟨q3,hq3⟩:∃ q,q=0+(i2).toNat*GoT.k qk:=⟨_,rfl⟩;refine zx hp3 hq3 ⟨he1.1,qC he1.2.1 hl6⟩ Z (zp1 Z (zc 2 (qcU h 1 Z hp3 hq3) Z (zp1 Z ?_)));obtain⟨o2,hr2,hF⟩:=qc hF;obtain⟨r2,x2⟩:=o2;refine qcw r2 (cB 22 Z) (qa0 h hr2) Z Z Z Z ?_;rintro _ ⟨_,h⟩;refine X0 8 Z ?_;obtain⟨_,h⟩:=h.gatherT 2 [1] (qoz (⟨r1,W64 (i1+1),x2⟩:qk) h (qA (S:=fun _=>False) Z) (qA (S:=fun _=>False) Z) (qaA 0 h Z) (by rfl) (by rfl)) Z;replace h:=h.put;obtain⟨_,h⟩:=qpz (S:=_) h;exact rK ⟨_,_,_,_,hF,rfl,h⟩ Z
 refine qq Z ?_;obtain rfl:=qb hF;replace hF:=hK1;refine X0 5 Z ?_;obtain rfl:=qb hF;exact qir qa ⟨_,h⟩ ⟨rfl,trivial⟩
def qc7 (a:(List ByteArray)):Nat→(List ByteArray)→Int→Int→Option ((List ByteArray)×Int×Int)
 | 0,_,_,_=>U
 | n+1,x1,i1,i2=>
  bif decide (i2<(a.length:Int)) then
   (qeu n i1).bind fun r1=>
   (idx x1 i2).bind fun _=>
   qc7 a n (setS x1 i2 r1) (W64 (i1+1)) (W64 (i2+1))
  else
   V (x1,i1,i2)
def qjl (n:Nat)(a:(List ByteArray))(k:Int):Option (Int×(List ByteArray)):=
 (qc7 a n a k 0).bind fun o=>match o with
 | (x1,i1,_)=>
  V (i1,x1)
theorem qnn {n:Nat}{w0 w:World}{F:List Ch}{a:(List ByteArray)}{k:Int}{S1:Nat→Prop}{p1:Option Addr}{ln1 k1:Nat}(h:SH w0 w (Ch.own S1 (a:List ByteArray) [.slice p1 ln1 k1]::F)){r:(Int×(List ByteArray))}(hF:qjl n a k=V r):RetN prog 142 [.slice p1 ln1 k1,.int .i64 k] w (fun w'=>∃ Z0:Nat→Prop,SH w0 w' (Ch.own Z0 (r.2:List ByteArray) [.slice p1 ln1 k1]::F)) r.1:=by
 refine qb9 func142 Z (m:=20) Z Z ?_;obtain rfl:=(h.sl 0 Z).2;refine X0 9 Z ?_;obtain⟨o1,hF,hK1⟩:=qc hF;refine qn (rL (fun m e w'=>∃(x1:(List ByteArray)) (i1:Int) (i2:Int),qc7 a m x1 i1 i2=V o1∧e=[(0,.slice p1 a.length k1),(1,.int .i64 i1),(5,.int .i64 i2)]∧SH w0 w' (Ch.own S1 (x1:List ByteArray) [.slice p1 a.length k1]::F)) n ⟨_,_,_,hF,rfl,h⟩ Z ?_);rintro m1 _ _ ⟨x1,i1,i2,hF,rfl,h⟩;rcases m1 with _|m1
 ·cases hF
 refine X0 8 Z (qh Z hF ?_ ?_)<;>intro hF
 ·refine X0 8 Z (zcS h hF qgd Z fun r1 _ h hF=>?_);obtain⟨_,hy1,hF,he1,_,_,_,_,hp1,hq1,rfl,hc2⟩:=(h.sl 0 Z).1.ix hF;exact zx hp1 hq1 ⟨he1.1,qC he1.2.1 (h.sl 0 Z).2⟩ Z (qay qa 0 0 r1 h Z hy1 hp1 hq1 Z hc2 Z Z Z Z Z Z Z fun _ h=>X0 12 Z (rK ⟨_,_,_,hF,rfl,h⟩ Z))
 refine qq Z ?_;obtain rfl:=qb hF;replace hF:=hK1;refine X0 5 Z ?_;obtain rfl:=qb hF;exact qir qa ⟨_,h⟩ ⟨rfl,trivial⟩
def qdQ (a:(List qW)):Nat→(List qW)→Int→Int→Option ((List qW)×Int×Int)
 | 0,_,_,_=>U
 | n+1,x1,i1,i2=>
  bif decide (i2<(a.length:Int)) then
   (qeu n i1).bind fun r1=>
   (idx x1 i2).bind fun y1=>
   (idx (setS x1 i2 ({ y1 with Au:=r1 })) i2).bind fun y2=>
   (idx (setS (setS x1 i2 ({ y1 with Au:=r1 })) i2 ({ y2 with Bu:=W64 (i1+1) })) i2).bind fun y3=>
   qdQ a n (setS (setS (setS x1 i2 ({ y1 with Au:=r1 })) i2 ({ y2 with Bu:=W64 (i1+1) })) i2 ({ y3 with Bx:=W64 ((W64 (i1+1))+1) })) (W64 ((W64 ((W64 (i1+1))+1))+1)) (W64 (i2+1))
  else
   V (x1,i1,i2)
def qkM (n:Nat)(a:(List qW))(k:Int):Option (Int×(List qW)):=
 (qdQ a n a k 0).bind fun o=>match o with
 | (x1,i1,_)=>
  V (i1,x1)
theorem qoo {n:Nat}{w0 w:World}{F:List Ch}{a:(List qW)}{k:Int}{S1:Nat→Prop}{p1:Option Addr}{ln1 k1:Nat}(h:SH w0 w (Ch.own S1 (a:List qW) [.slice p1 ln1 k1]::F)){r:(Int×(List qW))}(hF:qkM n a k=V r):RetN prog 143 [.slice p1 ln1 k1,.int .i64 k] w (fun w'=>∃ Z0:Nat→Prop,SH w0 w' (Ch.own Z0 (r.2:List qW) [.slice p1 ln1 k1]::F)) r.1:=by
 refine qb9 func143 Z (m:=35) Z Z ?_;obtain rfl:=(h.sl 0 Z).2;refine X0 9 Z ?_;obtain⟨o1,hF,hK1⟩:=qc hF;refine qn (rL (fun m e w'=>∃(x1:(List qW)) (i1:Int) (i2:Int),qdQ a m x1 i1 i2=V o1∧e=[(0,.slice p1 a.length k1),(1,.int .i64 i1),(5,.int .i64 i2)]∧SH w0 w' (Ch.own S1 (x1:List qW) [.slice p1 a.length k1]::F)) n ⟨_,_,_,hF,rfl,h⟩ Z ?_);rintro m1 _ _ ⟨x1,i1,i2,hF,rfl,h⟩;rcases m1 with _|m1
 ·cases hF
 refine X0 8 Z (qh Z hF ?_ ?_)<;>intro hF
 ·refine X0 8 Z (zcS h hF qgd Z fun r1 _ h hF=>?_);obtain⟨y1,hy1,hF,he1,_,_,_,_,hp1,hq1,hr2,hc2⟩:=(h.sl 0 Z).1.ix hF;obtain rfl:=qaU hr2;refine zx hp1 hq1 ⟨he1.1,qC he1.2.1 (h.sl 0 Z).2⟩ Z (zp1 Z (qay qa 0 0 ({ y1 with Au:=r1 }:qW) h Z hy1 hp1 hq1 (qeB y1) hc2 Z Z Z (qeB ({ y1 with Au:=r1 })) Z Z Z fun _ h=>X0 12 Z ?_));obtain⟨y2,hy2,hF,he2,_,_,_,_,hp2,hq2,hr3,hc3⟩:=(h.sl 0 Z).1.ix hF;obtain rfl:=qaU hr3;refine zx hp2 hq2 ⟨he2.1,qC he2.2.1 (h.sl 0 Z).2⟩ Z (zp1 Z (qay qa 0 1 ({ y2 with Bu:=W64 (i1+1) }:qW) h Z hy2 hp2 hq2 (qeB y2) hc3 Z Z Z (qeB ({ y2 with Bu:=W64 (i1+1) })) Z Z Z fun _ h=>X0 12 Z ?_));obtain⟨y3,hy3,hF,he3,_,_,_,_,hp3,hq3,hr4,hc4⟩:=(h.sl 0 Z).1.ix hF;obtain rfl:=qaU hr4;exact zx hp3 hq3 ⟨he3.1,qC he3.2.1 (h.sl 0 Z).2⟩ Z (zp1 Z (qay qa 0 2 ({ y3 with Bx:=W64 ((W64 (i1+1))+1) }:qW) h Z hy3 hp3 hq3 (qeB y3) hc4 Z Z Z (qeB ({ y3 with Bx:=W64 ((W64 (i1+1))+1) })) Z Z Z fun _ h=>X0 12 Z (rK ⟨_,_,_,hF,rfl,h⟩ Z)))
 refine qq Z ?_;obtain rfl:=qb hF;replace hF:=hK1;refine X0 5 Z ?_;obtain rfl:=qb hF;exact qir qa ⟨_,h⟩ ⟨rfl,trivial⟩
def qig (n:Nat)(a:qe)(k:Int):Option (Int×(List qk)×(List ByteArray)×(List qW)):=
 (qix n a.Ab k).bind fun o=>match o with
  | (r1,x1)=>
   (qjl n a.Ah r1).bind fun o=>match o with
    | (r2,x2)=>
     (qkM n a.Af r2).bind fun o=>match o with
      | (r3,x3)=>
       V (r3,x1,x2,x3)
theorem qnR {n:Nat}{w0 w:World}{F:List Ch}{a:qe}{k:Int}{S1:Nat→Prop}{p1:Option Addr}{ln1 k1:Nat}{S2:Nat→Prop}{p2:Option Addr}{ln2 k2:Nat}{S3:Nat→Prop}{p3:Option Addr}{ln3 k3:Nat}(h:SH w0 w (Ch.own S3 (a.Af:List qW) [.slice p3 ln3 k3]::Ch.own S2 (a.Ah:List ByteArray) [.slice p2 ln2 k2]::Ch.own S1 (a.Ab:List qk) [.slice p1 ln1 k1]::F)){r:(Int×(List qk)×(List ByteArray)×(List qW))}(hF:qig n a k=V r):RetN prog 65 [.agg #[.slice p1 ln1 k1,.slice p2 ln2 k2,.slice p3 ln3 k3],.int .i64 k] w (fun w'=>∃ Z0 Z1 Z2:Nat→Prop,SH w0 w' (Ch.own Z2 (r.2.2.2:List qW) [.slice p3 ln3 k3]::Ch.own Z1 (r.2.2.1:List ByteArray) [.slice p2 ln2 k2]::Ch.own Z0 (r.2.1:List qk) [.slice p1 ln1 k1]::F)) r.1:=by
 refine qb9 func65 Z (m:=18) Z Z ?_;obtain rfl:=(h.sl 0 Z).2;obtain rfl:=(h.sl 1 Z).2;obtain rfl:=(h.sl 2 Z).2;refine zSR (qx h Z Z fun _ _ h=>X1 7 0 h Z ?_);replace h:=h.pickT 4 [3,0,1,2] Z;obtain⟨o1,hr1,hF⟩:=qc hF;obtain⟨r1,_⟩:=o1;refine qcw r1 (cB 141 Z) (qmD h hr1) Z Z Z Z ?_;rintro _ ⟨_,h⟩;refine X1 7 1 h Z ?_;replace h:=h.pickT 4 [3,0,1,2] Z;obtain⟨o2,hr2,hF⟩:=qc hF;obtain⟨r2,_⟩:=o2;refine qcw r2 (cB 142 Z) (qnn h hr2) Z Z Z Z ?_;rintro _ ⟨_,h⟩;refine X1 7 2 h Z ?_;replace h:=h.pickT 4 [3,0,1,2] Z;obtain⟨o3,hr3,hF⟩:=qc hF;obtain⟨r3,_⟩:=o3;refine qcw r3 (cB 143 Z) (qoo h hr3) Z Z Z Z ?_;rintro _ ⟨_,h⟩;refine X0 7 Z ?_;obtain rfl:=qb hF;replace h:=h.pickT 4 [0,1,2] Z;exact qir qa ⟨_,_,_,h⟩ ⟨rfl,trivial⟩
def qdT (a:(List qG)):Nat→(List qG)→Int→Int→Option ((List qG)×Int×Int)
 | 0,_,_,_=>U
 | n+1,x1,i1,i2=>
  bif decide (i2<(a.length:Int)) then
   (idx x1 i2).bind fun y1=>
   (qaR n y1.Aj i1).bind fun o=>match o with
    | (r1,x2)=>
     (qaR n y1.Bv r1).bind fun o=>match o with
      | (r2,x3)=>
       (qaR n y1.Br r2).bind fun o=>match o with
        | (r3,x4)=>
         (qaR n y1.Bi r3).bind fun o=>match o with
          | (r4,x5)=>
           qdT a n (setS x1 i2 (⟨x2,x3,x4,x5⟩:qG)) r4 (W64 (i2+1))
  else
   V (x1,i1,i2)
def qk7 (n:Nat)(a:(List qG))(k:Int):Option (Int×(List qG)):=
 (qdT a n a k 0).bind fun o=>match o with
 | (x1,i1,_)=>
  V (i1,x1)
theorem qoh {n:Nat}{w0 w:World}{F:List Ch}{a:(List qG)}{k:Int}{S1:Nat→Prop}{p1:Option Addr}{ln1 k1:Nat}(h:SH w0 w (Ch.own S1 (a:List qG) [.slice p1 ln1 k1]::F)){r:(Int×(List qG))}(hF:qk7 n a k=V r):RetN prog 66 [.slice p1 ln1 k1,.int .i64 k] w (fun w'=>∃ Z0:Nat→Prop,SH w0 w' (Ch.own Z0 (r.2:List qG) [.slice p1 ln1 k1]::F)) r.1:=by
 refine qb9 func66 Z (m:=41) Z Z ?_;obtain rfl:=(h.sl 0 Z).2;refine X0 9 Z ?_;obtain⟨o1,hF,hK1⟩:=qc hF;refine qn (rL (fun m e w'=>∃(S2:Nat→Prop) (x1:(List qG)) (i1:Int) (i2:Int),qdT a m x1 i1 i2=V o1∧e=[(0,.slice p1 a.length k1),(1,.int .i64 i1),(5,.int .i64 i2)]∧SH w0 w' (Ch.own S2 (x1:List qG) [.slice p1 a.length k1]::F)) n ⟨_,_,_,_,hF,rfl,h⟩ Z ?_);rintro m1 _ _ ⟨S2,x1,i1,i2,hF,rfl,h⟩;rcases m1 with _|m1
 ·cases hF
 refine X0 8 Z (qh Z hF ?_ ?_)<;>intro hF
 ·refine X0 7 Z ?_;obtain⟨_,hy1,hF⟩:=qc hF;have he1:=qcT hy1;obtain⟨_,_,_,h⟩:=h.take hy1;obtain⟨_,_,_,_,_,_,_,_,rfl,-,-,-,-⟩:=qaO (h.own 0 Z);obtain⟨_,_,_,_,h⟩:=qtH h;obtain⟨_,hp1,-,-,hl2⟩:=h.holeAt 4 Z;obtain⟨q1,hq1⟩:∃ q,q=0+(i2).toNat*GoT.k qG:=⟨_,rfl⟩;refine zx hp1 hq1 ⟨he1.1,qC he1.2.1 hl2⟩ Z (zp1 Z (zc 0 (qcU h 4 Z hp1 hq1) Z (zp1 Z ?_)));replace h:=h.pickT 5 [3,0,1,2,4] Z;obtain⟨o2,hr1,hF⟩:=qc hF;obtain⟨r1,x2⟩:=o2;refine qcw r1 (cB 22 Z) (qa0 h hr1) Z Z Z Z ?_;rintro _ ⟨_,h⟩;refine X0 6 Z ?_;obtain⟨_,hp2,-,-,hl4⟩:=h.holeAt 4 Z;obtain⟨q2,hq2⟩:∃ q,q=0+(i2).toNat*GoT.k qG:=⟨_,rfl⟩;refine zx hp2 hq2 ⟨he1.1,qC he1.2.1 hl4⟩ Z (zp1 Z (zc 1 (qcU h 4 Z hp2 hq2) Z (zp1 Z ?_)));replace h:=h.pickT 5 [3,0,1,2,4] Z;obtain⟨o3,hr2,hF⟩:=qc hF;obtain⟨r2,x3⟩:=o3;refine qcw r2 (cB 22 Z) (qa0 h hr2) Z Z Z Z ?_;rintro _ ⟨_,h⟩;refine X0 6 Z ?_;obtain⟨_,hp3,-,-,hl6⟩:=h.holeAt 4 Z;obtain⟨q3,hq3⟩:∃ q,q=0+(i2).toNat*GoT.k qG:=⟨_,rfl⟩;refine zx hp3 hq3 ⟨he1.1,qC he1.2.1 hl6⟩ Z (zp1 Z (zc 2 (qcU h 4 Z hp3 hq3) Z (zp1 Z ?_)));replace h:=h.pickT 5 [3,0,1,2,4] Z;obtain⟨o4,hr3,hF⟩:=qc hF;obtain⟨r3,x4⟩:=o4;refine qcw r3 (cB 22 Z) (qa0 h hr3) Z Z Z Z ?_;rintro _ ⟨_,h⟩;refine X0 5 Z ?_;obtain⟨_,hp4,-,-,hl8⟩:=h.holeAt 4 Z;obtain⟨q4,hq4⟩:∃ q,q=0+(i2).toNat*GoT.k qG:=⟨_,rfl⟩;refine zx hp4 hq4 ⟨he1.1,qC he1.2.1 hl8⟩ Z (zp1 Z (zc 3 (qcU h 4 Z hp4 hq4) Z (zp1 Z ?_)));replace h:=h.pickT 5 [3,0,1,2,4] Z;obtain⟨o5,hr4,hF⟩:=qc hF;obtain⟨r4,x5⟩:=o5;refine qcw r4 (cB 22 Z) (qa0 h hr4) Z Z Z Z ?_;rintro _ ⟨_,h⟩;refine X0 8 Z ?_;obtain⟨_,h⟩:=h.gatherT 5 [4] (qtR (⟨x2,x3,x4,x5⟩:qG) h (qaA 3 h Z) (qaA 2 h Z) (qaA 1 h Z) (qaA 0 h Z) (by rfl) (by rfl) (by rfl)) Z;replace h:=h.put;obtain⟨_,h⟩:=qpz (S:=_) h;exact rK ⟨_,_,_,_,hF,rfl,h⟩ Z
 refine qq Z ?_;obtain rfl:=qb hF;replace hF:=hK1;refine X0 5 Z ?_;obtain rfl:=qb hF;exact qir qa ⟨_,h⟩ ⟨rfl,trivial⟩
def qi2 (n:Nat)(a:qd)(k:Int):Option (Int×(List qv)×(List qk)×(List ByteArray)×(List qW)×(List qG)):=
 (qhQ n (⟨a.Ap.Am⟩:qr) k).bind fun o=>match o with
  | (r1,x1)=>
   (qig n (⟨a.Aa.Ab,a.Aa.Ah,a.Aa.Af⟩:qe) r1).bind fun o=>match o with
    | (r2,x2,x3,x4)=>
     (qk7 n a.Ac r2).bind fun o=>match o with
      | (r3,x5)=>
       V (r3,x1,x2,x3,x4,x5)
theorem qn7 {n:Nat}{w0 w:World}{F:List Ch}{a:qd}{k:Int}{S1:Nat→Prop}{p1:Option Addr}{ln1 k1:Nat}{S2:Nat→Prop}{p2:Option Addr}{ln2 k2:Nat}{S3:Nat→Prop}{p3:Option Addr}{ln3 k3:Nat}{S4:Nat→Prop}{p4:Option Addr}{ln4 k4:Nat}{S5:Nat→Prop}{p5:Option Addr}{ln5 k5:Nat}(h:SH w0 w (Ch.own S5 (a.Ac:List qG) [.slice p5 ln5 k5]::Ch.own S4 (a.Aa.Af:List qW) [.slice p4 ln4 k4]::Ch.own S3 (a.Aa.Ah:List ByteArray) [.slice p3 ln3 k3]::Ch.own S2 (a.Aa.Ab:List qk) [.slice p2 ln2 k2]::Ch.own S1 (a.Ap.Am:List qv) [.slice p1 ln1 k1]::F)){r:(Int×(List qv)×(List qk)×(List ByteArray)×(List qW)×(List qG))}(hF:qi2 n a k=V r):RetN prog 19 [.agg #[.slice p1 ln1 k1,.slice p2 ln2 k2,.slice p3 ln3 k3,.slice p4 ln4 k4,.slice p5 ln5 k5],.int .i64 k] w (fun w'=>∃ Z0 Z1 Z2 Z3 Z4:Nat→Prop,SH w0 w' (Ch.own Z4 (r.2.2.2.2.2:List qG) [.slice p5 ln5 k5]::Ch.own Z3 (r.2.2.2.2.1:List qW) [.slice p4 ln4 k4]::Ch.own Z2 (r.2.2.2.1:List ByteArray) [.slice p3 ln3 k3]::Ch.own Z1 (r.2.2.1:List qk) [.slice p2 ln2 k2]::Ch.own Z0 (r.2.1:List qv) [.slice p1 ln1 k1]::F)) r.1:=by
 refine qb9 func19 Z (m:=18) Z Z ?_;obtain rfl:=(h.sl 0 Z).2;obtain rfl:=(h.sl 1 Z).2;obtain rfl:=(h.sl 2 Z).2;obtain rfl:=(h.sl 3 Z).2;obtain rfl:=(h.sl 4 Z).2;refine zSR (qx h Z Z fun _ _ h=>X1 7 0 h Z ?_);replace h:=h.pickT 6 [5,0,1,2,3,4] Z;obtain⟨o1,hr1,hF⟩:=qc hF;obtain⟨r1,_⟩:=o1;refine qcw r1 (cB 64 Z) (qnu h hr1) Z Z Z Z ?_;rintro _ ⟨_,h⟩;refine X1 7 1 h Z ?_;replace h:=h.pickT 6 [3,4,5,0,1,2] Z;obtain⟨o2,hr2,hF⟩:=qc hF;obtain⟨r2,_,_,_⟩:=o2;refine qcw r2 (cB 65 Z) (qnR h hr2) Z Z Z Z ?_;rintro _ ⟨_,_,_,h⟩;refine X1 7 4 h Z ?_;replace h:=h.pickT 6 [5,0,1,2,3,4] Z;obtain⟨o3,hr3,hF⟩:=qc hF;obtain⟨r3,_⟩:=o3;refine qcw r3 (cB 66 Z) (qoh h hr3) Z Z Z Z ?_;rintro _ ⟨_,h⟩;refine X0 7 Z ?_;obtain rfl:=qb hF;replace h:=h.pickT 6 [0,1,2,3,4] Z;exact qir qa ⟨_,_,_,_,_,h⟩ ⟨rfl,trivial⟩
end Go.Fw


namespace Go.Fw
open Go Go.Proofs Go.Proofs.Tryz
open Go.RowKit (Below)
set_option maxRecDepth 100000
set_option maxHeartbeats 1600000
variable {n:Nat}{w:World}{cs1 cs2 cs3 cs4 cs5 cs6 cs7 cs8 cs9:List Value}
def qdA (a:(List qE)):Nat→(List qE)→Int→Int→Option ((List qE)×Int×Int)
 | 0,_,_,_=>U
 | n+1,x1,i1,i2=>
  bif decide (i2<(a.length:Int)) then
   (idx x1 i2).bind fun y1=>
   (idx (setS x1 i2 ({ y1 with Cc:=i1 })) i2).bind fun y2=>
   qdA a n (setS (setS x1 i2 ({ y1 with Cc:=i1 })) i2 ({ y2 with Ca:=W64 (i1+1) })) (W64 ((W64 (i1+1))+1)) (W64 (i2+1))
  else
   V (x1,i1,i2)
def qih (n:Nat)(a:(List qE))(k:Int):Option (Int×(List qE)):=
 (qdA a n a k 0).bind fun o=>match o with
 | (x1,i1,_)=>
  V (i1,x1)
theorem qnU {n:Nat}{w0 w:World}{F:List Ch}{a:(List qE)}{k:Int}{S1:Nat→Prop}{p1:Option Addr}{ln1 k1:Nat}(h:SH w0 w (Ch.own S1 (a:List qE) [.slice p1 ln1 k1]::F)){r:(Int×(List qE))}(hF:qih n a k=V r):RetN prog 111 [.slice p1 ln1 k1,.int .i64 k] w (fun w'=>∃ Z0:Nat→Prop,SH w0 w' (Ch.own Z0 (r.2:List qE) [.slice p1 ln1 k1]::F)) r.1:=by
 refine qb9 func111 Z (m:=27) Z Z ?_;obtain rfl:=(h.sl 0 Z).2;refine X0 9 Z ?_;obtain⟨o1,hF,hK1⟩:=qc hF;refine qn (rL (fun m e w'=>∃(x1:(List qE)) (i1:Int) (i2:Int),qdA a m x1 i1 i2=V o1∧e=[(0,.slice p1 a.length k1),(1,.int .i64 i1),(5,.int .i64 i2)]∧SH w0 w' (Ch.own S1 (x1:List qE) [.slice p1 a.length k1]::F)) n ⟨_,_,_,hF,rfl,h⟩ Z ?_);rintro m1 _ _ ⟨x1,i1,i2,hF,rfl,h⟩;rcases m1 with _|m1
 ·cases hF
 refine X0 8 Z (qh Z hF ?_ ?_)<;>intro hF
 ·refine X0 8 Z ?_;obtain⟨y1,hy1,hF,he1,_,_,_,_,hp1,hq1,hr1,hc2⟩:=(h.sl 0 Z).1.ix hF;obtain rfl:=qgg hr1;refine zx hp1 hq1 ⟨he1.1,qC he1.2.1 (h.sl 0 Z).2⟩ Z (zp1 Z (qay qa 0 0 ({ y1 with Cc:=i1 }:qE) h Z hy1 hp1 hq1 (qhv y1) hc2 Z Z Z (qhv ({ y1 with Cc:=i1 })) Z Z Z fun _ h=>X0 12 Z ?_));obtain⟨y2,hy2,hF,he2,_,_,_,_,hp2,hq2,hr2,hc3⟩:=(h.sl 0 Z).1.ix hF;obtain rfl:=qgg hr2;exact zx hp2 hq2 ⟨he2.1,qC he2.2.1 (h.sl 0 Z).2⟩ Z (zp1 Z (qay qa 0 1 ({ y2 with Ca:=W64 (i1+1) }:qE) h Z hy2 hp2 hq2 (qhv y2) hc3 Z Z Z (qhv ({ y2 with Ca:=W64 (i1+1) })) Z Z Z fun _ h=>X0 12 Z (rK ⟨_,_,_,hF,rfl,h⟩ Z)))
 refine qq Z ?_;obtain rfl:=qb hF;replace hF:=hK1;refine X0 5 Z ?_;obtain rfl:=qb hF;exact qir qa ⟨_,h⟩ ⟨rfl,trivial⟩
def qcc (a:(List qf)):Nat→(List qf)→Int→Int→Option ((List qf)×Int×Int)
 | 0,_,_,_=>U
 | n+1,x1,i1,i2=>
  bif decide (i2<(a.length:Int)) then
   (idx x1 i2).bind fun y1=>
   (idx (setS x1 i2 ({ y1 with Bc:=i1 })) i2).bind fun y2=>
   (idx (setS (setS x1 i2 ({ y1 with Bc:=i1 })) i2 ({ y2 with To:=W64 (i1+1) })) i2).bind fun y3=>
   (idx (setS (setS (setS x1 i2 ({ y1 with Bc:=i1 })) i2 ({ y2 with To:=W64 (i1+1) })) i2 ({ y3 with Bk:=W64 ((W64 (i1+1))+1) })) i2).bind fun y4=>
   qcc a n (setS (setS (setS (setS x1 i2 ({ y1 with Bc:=i1 })) i2 ({ y2 with To:=W64 (i1+1) })) i2 ({ y3 with Bk:=W64 ((W64 (i1+1))+1) })) i2 ({ y4 with Cb:=W64 ((W64 ((W64 (i1+1))+1))+1) })) (W64 ((W64 ((W64 ((W64 (i1+1))+1))+1))+1)) (W64 (i2+1))
  else
   V (x1,i1,i2)
def qfO (n:Nat)(a:(List qf))(k:Int):Option (Int×(List qf)):=
 (qcc a n a k 0).bind fun o=>match o with
 | (x1,i1,_)=>
  V (i1,x1)
theorem ql9 {n:Nat}{w0 w:World}{F:List Ch}{a:(List qf)}{k:Int}{S1:Nat→Prop}{p1:Option Addr}{ln1 k1:Nat}(h:SH w0 w (Ch.own S1 (a:List qf) [.slice p1 ln1 k1]::F)){r:(Int×(List qf))}(hF:qfO n a k=V r):RetN prog 112 [.slice p1 ln1 k1,.int .i64 k] w (fun w'=>∃ Z0:Nat→Prop,SH w0 w' (Ch.own Z0 (r.2:List qf) [.slice p1 ln1 k1]::F)) r.1:=by
 refine qb9 func112 Z (m:=41) Z Z ?_;obtain rfl:=(h.sl 0 Z).2;refine X0 9 Z ?_;obtain⟨o1,hF,hK1⟩:=qc hF;refine qn (rL (fun m e w'=>∃(x1:(List qf)) (i1:Int) (i2:Int),qcc a m x1 i1 i2=V o1∧e=[(0,.slice p1 a.length k1),(1,.int .i64 i1),(5,.int .i64 i2)]∧SH w0 w' (Ch.own S1 (x1:List qf) [.slice p1 a.length k1]::F)) n ⟨_,_,_,hF,rfl,h⟩ Z ?_);rintro m1 _ _ ⟨x1,i1,i2,hF,rfl,h⟩;rcases m1 with _|m1
 ·cases hF
 refine X0 8 Z (qh Z hF ?_ ?_)<;>intro hF
 ·refine X0 8 Z ?_;obtain⟨y1,hy1,hF,he1,_,_,_,_,hp1,hq1,hr1,hc2⟩:=(h.sl 0 Z).1.ix hF;obtain rfl:=qbn hr1;refine zx hp1 hq1 ⟨he1.1,qC he1.2.1 (h.sl 0 Z).2⟩ Z (zp1 Z (qay qa 0 0 ({ y1 with Bc:=i1 }:qf) h Z hy1 hp1 hq1 (qbI y1) hc2 Z Z Z (qbI ({ y1 with Bc:=i1 })) Z Z Z fun _ h=>X0 12 Z ?_));obtain⟨y2,hy2,hF,he2,_,_,_,_,hp2,hq2,hr2,hc3⟩:=(h.sl 0 Z).1.ix hF;obtain rfl:=qbn hr2;refine zx hp2 hq2 ⟨he2.1,qC he2.2.1 (h.sl 0 Z).2⟩ Z (zp1 Z (qay qa 0 1 ({ y2 with To:=W64 (i1+1) }:qf) h Z hy2 hp2 hq2 (qbI y2) hc3 Z Z Z (qbI ({ y2 with To:=W64 (i1+1) })) Z Z Z fun _ h=>X0 12 Z ?_));obtain⟨y3,hy3,hF,he3,_,_,_,_,hp3,hq3,hr3,hc4⟩:=(h.sl 0 Z).1.ix hF;obtain rfl:=qbn hr3;refine zx hp3 hq3 ⟨he3.1,qC he3.2.1 (h.sl 0 Z).2⟩ Z (zp1 Z (qay qa 0 2 ({ y3 with Bk:=W64 ((W64 (i1+1))+1) }:qf) h Z hy3 hp3 hq3 (qbI y3) hc4 Z Z Z (qbI ({ y3 with Bk:=W64 ((W64 (i1+1))+1) })) Z Z Z fun _ h=>X0 12 Z ?_));obtain⟨y4,hy4,hF,he4,_,_,_,_,hp4,hq4,hr4,hc5⟩:=(h.sl 0 Z).1.ix hF;obtain rfl:=qbn hr4;exact zx hp4 hq4 ⟨he4.1,qC he4.2.1 (h.sl 0 Z).2⟩ Z (zp1 Z (qay qa 0 3 ({ y4 with Cb:=W64 ((W64 ((W64 (i1+1))+1))+1) }:qf) h Z hy4 hp4 hq4 (qbI y4) hc5 Z Z Z (qbI ({ y4 with Cb:=W64 ((W64 ((W64 (i1+1))+1))+1) })) Z Z Z fun _ h=>X0 12 Z (rK ⟨_,_,_,hF,rfl,h⟩ Z)))
 refine qq Z ?_;obtain rfl:=qb hF;replace hF:=hK1;refine X0 5 Z ?_;obtain rfl:=qb hF;exact qir qa ⟨_,h⟩ ⟨rfl,trivial⟩
def qfj (n:Nat)(a:qg)(k:Int):Option (Int×(List qE)×(List qf)):=
 (qih n a.Av k).bind fun o=>match o with
  | (r1,x1)=>
   (qfO n a.Bg r1).bind fun o=>match o with
    | (r2,x2)=>
     V (r2,x1,x2)
theorem qlJ {n:Nat}{w0 w:World}{F:List Ch}{a:qg}{k:Int}{S1:Nat→Prop}{p1:Option Addr}{ln1 k1:Nat}{S2:Nat→Prop}{p2:Option Addr}{ln2 k2:Nat}(h:SH w0 w (Ch.own S2 (a.Bg:List qf) [.slice p2 ln2 k2]::Ch.own S1 (a.Av:List qE) [.slice p1 ln1 k1]::F)){r:(Int×(List qE)×(List qf))}(hF:qfj n a k=V r):RetN prog 39 [.agg #[.slice p1 ln1 k1,.slice p2 ln2 k2],.int .i64 k] w (fun w'=>∃ Z0 Z1:Nat→Prop,SH w0 w' (Ch.own Z1 (r.2.2:List qf) [.slice p2 ln2 k2]::Ch.own Z0 (r.2.1:List qE) [.slice p1 ln1 k1]::F)) r.1:=by
 refine qb9 func39 Z (m:=14) Z Z ?_;obtain rfl:=(h.sl 0 Z).2;obtain rfl:=(h.sl 1 Z).2;refine zSR (qx h Z Z fun _ _ h=>X1 7 0 h Z ?_);replace h:=h.pickT 3 [2,0,1] Z;obtain⟨o1,hr1,hF⟩:=qc hF;obtain⟨r1,_⟩:=o1;refine qcw r1 (cB 111 Z) (qnU h hr1) Z Z Z Z ?_;rintro _ ⟨_,h⟩;refine X1 7 1 h Z ?_;replace h:=h.pickT 3 [2,0,1] Z;obtain⟨o2,hr2,hF⟩:=qc hF;obtain⟨r2,_⟩:=o2;refine qcw r2 (cB 112 Z) (ql9 h hr2) Z Z Z Z ?_;rintro _ ⟨_,h⟩;refine X0 7 Z ?_;obtain rfl:=qb hF;replace h:=h.pickT 3 [0,1] Z;exact qir qa ⟨_,_,h⟩ ⟨rfl,trivial⟩
def qdy (a:(List qE)):Nat→Int→Int→Option (Flow Int (Int×Int))
 | 0,_,_=>U
 | n+1,i1,i2=>
  bif decide (i2<(a.length:Int)) then
   (idx a i2).bind fun y1=>
   bif (y1.Cc != i1) then V (.ret (-1)) else
   (idx a i2).bind fun y2=>
   bif (y2.Ca != (W64 (i1+1))) then V (.ret (-1)) else
   qdy a n (W64 ((W64 (i1+1))+1)) (W64 (i2+1))
  else
   V (.nxt (i1,i2))
def qie (n:Nat)(a:(List qE))(k:Int):Option Int:=
 (qdy a n k 0).bind fun o=>match o with
 | .ret r=>V r
 | .nxt (i1,_)=>
  V i1
theorem qok {a:(List qE)}{k:Int}(ha1:Ro w a cs1){r:Int}(F:qie n a k=V r):RetV prog 113 [GoT.v (List qE) cs1,.int .i64 k] w r:=by
 obtain⟨p1,k1,rfl,s1⟩:=ha1;refine zV 31 func113 Z fun h=>X0 9 Z ?_;obtain⟨o1,F,hK1⟩:=qc F;refine qn (rL (fun m e w'=>∃(i1:Int) (i2:Int),qdy a m i1 i2=V o1∧e=[(0,.slice p1 a.length k1),(1,.int .i64 i1),(5,.int .i64 i2)]∧SH w w' []) n ⟨_,_,F,rfl,h⟩ Z ?_);rintro m1 _ _ ⟨i1,i2,F,rfl,h⟩;rcases m1 with _|m1
 ·cases F
 refine X0 8 Z (qh Z F ?_ ?_)<;>intro F
 ·refine X0 8 Z ?_;obtain⟨_,_,F,he1,_,_,_,_,hp1,hq1,hr1,hc2⟩:=s1.ix F;obtain rfl:=qgg hr1;refine zxe hp1 hq1 he1 Z (zp1 Z (zc 0 (hc2.below h.below) Z (X0 3 Z (qh Z F ?_ ?_))))<;>intro F
  ·refine X0 4 Z ?_;obtain rfl:=qb F;replace F:=hK1;exact ri h F Z
  refine X0 12 Z ?_;obtain⟨_,_,F,he2,_,_,_,_,hp2,hq2,hr2,hc4⟩:=s1.ix F;obtain rfl:=qgg hr2;refine zxe hp2 hq2 he2 Z (zp1 Z (zc 1 (hc4.below h.below) Z (X0 3 Z (qh Z F ?_ ?_))))<;>intro F
  ·refine X0 4 Z ?_;obtain rfl:=qb F;replace F:=hK1;exact ri h F Z
  exact X0 12 Z (rK ⟨_,_,F,rfl,h⟩ Z)
 refine qq Z ?_;obtain rfl:=qb F;replace F:=hK1;exact X0 5 Z (ri h F Z)
def qcd (a:(List qf)):Nat→Int→Int→Option (Flow Int (Int×Int))
 | 0,_,_=>U
 | n+1,i1,i2=>
  bif decide (i2<(a.length:Int)) then
   (idx a i2).bind fun y1=>
   bif (y1.Bc != i1) then V (.ret (-1)) else
   (idx a i2).bind fun y2=>
   bif (y2.To != (W64 (i1+1))) then V (.ret (-1)) else
   (idx a i2).bind fun y3=>
   bif (y3.Bk != (W64 ((W64 (i1+1))+1))) then V (.ret (-1)) else
   (idx a i2).bind fun y4=>
   bif (y4.Cb != (W64 ((W64 ((W64 (i1+1))+1))+1))) then V (.ret (-1)) else
   qcd a n (W64 ((W64 ((W64 ((W64 (i1+1))+1))+1))+1)) (W64 (i2+1))
  else
   V (.nxt (i1,i2))
def qfN (n:Nat)(a:(List qf))(k:Int):Option Int:=
 (qcd a n k 0).bind fun o=>match o with
 | .ret r=>V r
 | .nxt (i1,_)=>
  V i1
theorem qmI {a:(List qf)}{k:Int}(ha1:Ro w a cs1){r:Int}(F:qfN n a k=V r):RetV prog 114 [GoT.v (List qf) cs1,.int .i64 k] w r:=by
 obtain⟨p1,k1,rfl,s1⟩:=ha1;refine zV 49 func114 Z fun h=>X0 9 Z ?_;obtain⟨o1,F,hK1⟩:=qc F;refine qn (rL (fun m e w'=>∃(i1:Int) (i2:Int),qcd a m i1 i2=V o1∧e=[(0,.slice p1 a.length k1),(1,.int .i64 i1),(5,.int .i64 i2)]∧SH w w' []) n ⟨_,_,F,rfl,h⟩ Z ?_);rintro m1 _ _ ⟨i1,i2,F,rfl,h⟩;rcases m1 with _|m1
 ·cases F
 refine X0 8 Z (qh Z F ?_ ?_)<;>intro F
 ·refine X0 8 Z ?_;obtain⟨_,_,F,he1,_,_,_,_,hp1,hq1,hr1,hc2⟩:=s1.ix F;obtain rfl:=qbn hr1;refine zxe hp1 hq1 he1 Z (zp1 Z (zc 0 (hc2.below h.below) Z (X0 3 Z (qh Z F ?_ ?_))))<;>intro F
  ·refine X0 4 Z ?_;obtain rfl:=qb F;replace F:=hK1;exact ri h F Z
  refine X0 12 Z ?_;obtain⟨_,_,F,he2,_,_,_,_,hp2,hq2,hr2,hc4⟩:=s1.ix F;obtain rfl:=qbn hr2;refine zxe hp2 hq2 he2 Z (zp1 Z (zc 1 (hc4.below h.below) Z (X0 3 Z (qh Z F ?_ ?_))))<;>intro F
  ·refine X0 4 Z ?_;obtain rfl:=qb F;replace F:=hK1;exact ri h F Z
  refine X0 12 Z ?_;obtain⟨_,_,F,he3,_,_,_,_,hp3,hq3,hr3,hc6⟩:=s1.ix F;obtain rfl:=qbn hr3;refine zxe hp3 hq3 he3 Z (zp1 Z (zc 2 (hc6.below h.below) Z (X0 3 Z (qh Z F ?_ ?_))))<;>intro F
  ·refine X0 4 Z ?_;obtain rfl:=qb F;replace F:=hK1;exact ri h F Z
  refine X0 12 Z ?_;obtain⟨_,_,F,he4,_,_,_,_,hp4,hq4,hr4,hc8⟩:=s1.ix F;obtain rfl:=qbn hr4;refine zxe hp4 hq4 he4 Z (zp1 Z (zc 3 (hc8.below h.below) Z (X0 3 Z (qh Z F ?_ ?_))))<;>intro F
  ·refine X0 4 Z ?_;obtain rfl:=qb F;replace F:=hK1;exact ri h F Z
  exact X0 12 Z (rK ⟨_,_,F,rfl,h⟩ Z)
 refine qq Z ?_;obtain rfl:=qb F;replace F:=hK1;exact X0 5 Z (ri h F Z)
def qdG (n:Nat)(a:qg)(k:Int):Option Int:=
 (qie n a.Av k).bind fun r1=>
 bif decide (r1<0) then V (-1) else
 (qfN n a.Bg r1).bind fun r2=>
 bif decide (r2<0) then V (-1) else
 V r2
theorem qiC {a:qg}{k:Int}(ha1:Ro w a cs1){r:Int}(F:qdG n a k=V r):RetV prog 40 [GoT.v qg cs1,.int .i64 k] w r:=by
 obtain⟨_,_,_,_,rfl,s1,s2⟩:=qax ha1;refine zV 18 func40 Z fun h=>zSR (qx h Z Z fun _ _ h=>X1 7 0 h Z (zcI h F (qok ⟨_,_,rfl,(h.oldS s1)⟩) Z fun _ _ h F=>X0 8 Z (qh Z F ?_ ?_)))<;>intro F
 ·exact X0 4 Z (ri h F Z)
 refine X1 6 0 h Z (zcI h F (qmI ⟨_,_,rfl,(h.oldS s2)⟩) Z fun _ _ h F=>X0 8 Z (qh Z F ?_ ?_))<;>intro F
 ·exact X0 4 Z (ri h F Z)
 exact X0 6 Z (ri h F Z)
end Go.Fw


namespace Go.Fw
open Go Go.Proofs Go.Proofs.Tryz
open Go.RowKit (Below)
set_option maxRecDepth 100000
set_option maxHeartbeats 1600000
variable {n:Nat}{w:World}{cs1 cs2 cs3 cs4 cs5 cs6 cs7 cs8 cs9:List Value}
def qe3 (n:Nat)(a_0:qd)(a_1:qy)(a_2:(List Int))(a_3:Int)(a_4:Int)(a_5:Int):Option Bool:=
 bif decide ((a_2.length:Int) > 1048576) then V true else
 (qkm n a_0 1048576).bind fun r1=>
 bif decide (r1<0) then V true else
 (qjG n a_1 r1).bind fun r2=>
 bif decide (r2<0) then V true else
 (qgA n a_0).bind fun r3=>
 (qgS n a_1).bind fun r4=>
 (qaZ n a_2).bind fun r5=>
 (qeW n (⟨(⟨r3.Ap.Am⟩:qr),(⟨r3.Aa.Ab,r3.Aa.Ah,r3.Aa.Af⟩:qe),r3.Ac⟩:qd) r4 r5 a_3 a_4 a_5).bind fun o=>match o with
  | (r7,r8)=>
   (qgA n a_0).bind fun r9=>
   (qaZ n a_2).bind fun r10=>
   (qgS n a_1).bind fun r11=>
   (qdC n r9 r11 r10 a_3 a_4 a_5).bind fun o=>match o with
    | (r13,r14)=>
     (
      (qdp n (⟨r13.Av,r13.Bg⟩:qg) (⟨r7.Av,r7.Bg⟩:qg)).bind fun r32=>
      bif (!r32) then V true else
      V (r14 != r8)).bind fun b1=>
     bif b1 then V false else
     (qgA n a_0).bind fun r15=>
     (qkA n r9 r15).bind fun r16=>
     bif (!r16) then V false else
     (qaZ n a_2).bind fun r17=>
     (qbM n r10 r17).bind fun r18=>
     bif (!r18) then V false else
     (qi2 n (⟨(⟨r9.Ap.Am⟩:qr),(⟨r9.Aa.Ab,r9.Aa.Ah,r9.Aa.Af⟩:qe),r9.Ac⟩:qd) 1).bind fun o=>match o with
      | (r19,_,_,_,_,_)=>
       (qaR n r10 r19).bind fun o=>match o with
        | (r20,_)=>
         (
          bif decide (r20<0) then V true else
          (qdp n (⟨r13.Av,r13.Bg⟩:qg) (⟨r7.Av,r7.Bg⟩:qg)).bind fun r31=>
          bif (!r31) then V true else
          V (r14 != r8)).bind fun b2=>
         bif b2 then V false else
         (qfj n (⟨r13.Av,r13.Bg⟩:qg) 1).bind fun o=>match o with
          | (r21,x7,x8)=>
           (qdG n (⟨x7,x8⟩:qg) 1).bind fun r22=>
           bif decide (r22<0) then V false else
           bif (r22 != r21) then V false else
           (qgA n (⟨(⟨a_0.Ap.Am⟩:qr),(⟨a_0.Aa.Ab,a_0.Aa.Ah,a_0.Aa.Af⟩:qe),a_0.Ac⟩:qd)).bind fun r23=>
           (qgS n (⟨a_1.Au,a_1.Be,a_1.Bh,a_1.Bf,a_1.Bj⟩:qy)).bind fun r24=>
           (qaZ n a_2).bind fun r25=>
           (qdC n (⟨(⟨r23.Ap.Am⟩:qr),(⟨r23.Aa.Ab,r23.Aa.Ah,r23.Aa.Af⟩:qe),r23.Ac⟩:qd) r24 r25 a_3 a_4 a_5).bind fun o=>match o with
            | (r27,r28)=>
             (
              (qdp n (⟨r27.Av,r27.Bg⟩:qg) (⟨r7.Av,r7.Bg⟩:qg)).bind fun r30=>
              bif (!r30) then V true else
              V (r28 != r8)).bind fun b3=>
             bif b3 then V false else
             (qdG n (⟨x7,x8⟩:qg) 1).bind fun r29=>
             bif decide (r29<0) then V false else
             bif (r29 != r21) then V false else
             V true
theorem qke {a_0:qd}{a_1:qy}{a_2:(List Int)}{a_3:Int}{a_4:Int}{a_5:Int}(ha1:Ro w a_0 cs1)(ha2:Ro w a_1 cs2)(ha3:Ro w a_2 cs3){r:Bool}(F:qe3 n a_0 a_1 a_2 a_3 a_4 a_5=V r):RetV prog 6 [GoT.v qd cs1,GoT.v qy cs2,GoT.v (List Int) cs3,.int .i64 a_3,.int .i64 a_4,.int .i64 a_5] w r:=by
 obtain⟨p1,k1,p2,k2,p3,k3,p4,k4,p5,k5,rfl,s1,s2,s3,s4,s5⟩:=qM ha1;obtain rfl:=qag ha2;obtain⟨p6,k6,rfl,s6⟩:=ha3;refine zV 145 func6 Z fun h=>zSR (qx h Z Z fun _ bb1 h=>qx h Z Z fun _ bb2 h=>X0 9 Z (qh Z F ?_ ?_))<;>intro F
 ·exact X0 4 Z (rb h F Z)
 refine X1 9 1 h Z (zcI h F (qqf (h.old ha1)) Z fun _ _ h F=>X0 8 Z (qh Z F ?_ ?_))<;>intro F
 ·exact X0 4 Z (rb h F Z)
 refine X1 5 0 h Z (zcI h F (qpE (h.old ha2)) Z fun _ _ h F=>X0 8 Z (qh Z F ?_ ?_))<;>intro F
 ·exact X0 4 Z (rb h F Z)
 refine zKS ?_;obtain⟨r3,hr3,F⟩:=qc F;obtain⟨r4,hr4,F⟩:=qc F;obtain⟨r5,hr5,F⟩:=qc F;obtain⟨r6,hr6,F⟩:=qc F;obtain⟨r7,r8⟩:=r6;refine qbe (fun e w'=>∃(bb9:Nat) (S70:Nat→Prop) (p39:Option Addr) (k39:Nat) (S71:Nat→Prop) (p40:Option Addr) (k40:Nat),e=[(2,.slice p6 a_2.length k6),(3,.int .i64 a_3),(4,.int .i64 a_4),(5,.int .i64 a_5),(6,.pointer (V ⟨bb1,0,U⟩)),(7,.pointer (V ⟨bb2,0,U⟩)),(14,.pointer (V ⟨bb9,0,U⟩)),(15,.int .i64 r8)]∧SH w w' [Ch.box bb9 (qaG r7 p40 p39 k40 k39) 91,Ch.own S70 (r7.Bg:List qf) [.slice p39 r7.Bg.length k39],Ch.own S71 (r7.Av:List qE) [.slice p40 r7.Av.length k40],Ch.box bb2 (qad a_1) 71,Ch.box bb1 (qT a_0 p1 p2 p3 p4 p5 k1 k2 k3 k4 k5) 32]) ?_ ?_
 ·refine rA [] [0,1] h Z fun _ h=>M2 469 [0,2,4,6,7,8] 1 0 (h.pick [0,1] Z) Z (At 1 13 471 8661 Z ?_ ?_)
  ·refine qek r3 h (cB 11 Z) (qfd (h.old ha1) hr3) Z Z Z Z fun _ _ _ h=>?_;obtain⟨p41,k41,p42,k42,p43,k43,p44,k44,p45,k45,rfl,-,-,-,-,-⟩:=qM (h.own 0 Z);obtain⟨_,_,_,h⟩:=qh7 h;replace h:=h.pick [1,0,2,3,4] Z;obtain⟨_,_,_,h⟩:=qh9 h;replace h:=h.pick [4,0,1,2,3,5,6] Z;obtain⟨_,h⟩:=qhk h;refine Ag (h.pick [5,6] Z) (At 3 13 479 8663 Z ?_ ?_)
   ·refine qek r4 h (cB 27 Z) (qcJ (h.old ha2) hr4) Z Z Z Z fun _ _ _ h=>?_;obtain rfl:=qag (h.own 0 Z);refine Ag (h.pick [6,7] Z) (At 5 13 511 8671 Z ?_ ?_)
    ·refine qhC r5 h (cB 28 Z) (qal ⟨_,_,rfl,(h.oldS s6)⟩ hr5) Z Z Z Z fun _ _ _ _ h=>Ag (h.pick [7,8] Z) (At 9 13 1023 8703 Z ?_ ?_)
     ·refine qa3 (r7,r8) h (cB 36 Z) (qdl ⟨[.slice p41 r3.Ap.Am.length k41],[.slice p42 r3.Aa.Ab.length k42,.slice p43 r3.Aa.Ah.length k43,.slice p44 r3.Aa.Af.length k44,.slice p45 r3.Ac.length k45],rfl,(h.own 2 Z),⟨[.slice p42 r3.Aa.Ab.length k42,.slice p43 r3.Aa.Ah.length k43,.slice p44 r3.Aa.Af.length k44],[.slice p45 r3.Ac.length k45],rfl,⟨[.slice p42 r3.Aa.Ab.length k42],[.slice p43 r3.Aa.Ah.length k43,.slice p44 r3.Aa.Af.length k44],rfl,(h.own 5 Z),⟨[.slice p43 r3.Aa.Ah.length k43],[.slice p44 r3.Aa.Af.length k44],rfl,(h.own 4 Z),(h.own 3 Z)⟩⟩,(h.own 6 Z)⟩⟩ (h.own 1 Z) (h.own 0 Z) hr6) Z Z Z Z fun _ _ _ hv19 hr25=>?_;obtain⟨_,_,_,_,rfl,hv20,hr26⟩:=hv19.cons hr25;obtain⟨_,_,_,_,rfl,-,-⟩:=qax (hv20.sh.own 0 Z);obtain⟨rfl,h⟩:=hv20.lastI hr26;obtain⟨_,_,h⟩:=qaI h;refine G0 8191 [10,11,12] (h.pick [9,10] Z) Z (Ao 13 16383 Z (qp qa h Z Z Z fun _ _ h=>Ag (h.pick [10,11] Z) (Ao 14 32767 Z (zs 0 h Z fun _ h=>G0 65535 [15] (h.pick [10,11] Z) Z (Ad ?_)))));replace h:=h.pick [0,1,2,10,11] Z;exact rG ⟨_,_,_,_,_,_,_,rfl,h⟩ Z
     refine qp qa h Z Z Z fun _ _ h=>Ag (h.pick [8,9] Z) (Ao 9 9215 Z (qa3 (r7,r8) h (cB 36 Z) (qdl ⟨[.slice p41 r3.Ap.Am.length k41],[.slice p42 r3.Aa.Ab.length k42,.slice p43 r3.Aa.Ah.length k43,.slice p44 r3.Aa.Af.length k44,.slice p45 r3.Ac.length k45],rfl,(h.own 3 Z),⟨[.slice p42 r3.Aa.Ab.length k42,.slice p43 r3.Aa.Ah.length k43,.slice p44 r3.Aa.Af.length k44],[.slice p45 r3.Ac.length k45],rfl,⟨[.slice p42 r3.Aa.Ab.length k42],[.slice p43 r3.Aa.Ah.length k43,.slice p44 r3.Aa.Af.length k44],rfl,(h.own 6 Z),⟨[.slice p43 r3.Aa.Ah.length k43],[.slice p44 r3.Aa.Af.length k44],rfl,(h.own 5 Z),(h.own 4 Z)⟩⟩,(h.own 7 Z)⟩⟩ (h.own 2 Z) (h.own 1 Z) hr6) Z Z Z Z fun _ _ _ hv22 hr28=>?_));obtain⟨_,_,_,_,rfl,hv23,hr29⟩:=hv22.cons hr28;obtain⟨_,_,_,_,rfl,-,-⟩:=qax (hv23.sh.own 0 Z);obtain⟨rfl,h⟩:=hv23.lastI hr29;obtain⟨_,_,h⟩:=qaI h;refine G0 16383 [10,11,12] (h.pick [10,11] Z) Z (Ao 14 32767 Z (zs 2 h Z fun _ h=>G0 65535 [15] (h.pick [10,11] Z) Z (Ad ?_)));replace h:=h.pick [2,0,1,10,11] Z;exact rG ⟨_,_,_,_,_,_,_,rfl,h⟩ Z
    refine qp qa h Z Z Z fun _ _ h=>Ag (h.pick [7,8] Z) (Ao 5 8703 Z (qhC r5 h (cB 28 Z) (qal ⟨_,_,rfl,(h.oldS s6)⟩ hr5) Z Z Z Z fun _ _ _ _ h=>Ag (h.pick [8,9] Z) (Ao 9 9215 Z (qa3 (r7,r8) h (cB 36 Z) (qdl ⟨[.slice p41 r3.Ap.Am.length k41],[.slice p42 r3.Aa.Ab.length k42,.slice p43 r3.Aa.Ah.length k43,.slice p44 r3.Aa.Af.length k44,.slice p45 r3.Ac.length k45],rfl,(h.own 3 Z),⟨[.slice p42 r3.Aa.Ab.length k42,.slice p43 r3.Aa.Ah.length k43,.slice p44 r3.Aa.Af.length k44],[.slice p45 r3.Ac.length k45],rfl,⟨[.slice p42 r3.Aa.Ab.length k42],[.slice p43 r3.Aa.Ah.length k43,.slice p44 r3.Aa.Af.length k44],rfl,(h.own 6 Z),⟨[.slice p43 r3.Aa.Ah.length k43],[.slice p44 r3.Aa.Af.length k44],rfl,(h.own 5 Z),(h.own 4 Z)⟩⟩,(h.own 7 Z)⟩⟩ (h.own 2 Z) (h.own 0 Z) hr6) Z Z Z Z fun _ _ _ hv25 hr31=>?_))));obtain⟨_,_,_,_,rfl,hv26,hr32⟩:=hv25.cons hr31;obtain⟨_,_,_,_,rfl,-,-⟩:=qax (hv26.sh.own 0 Z);obtain⟨rfl,h⟩:=hv26.lastI hr32;obtain⟨_,_,h⟩:=qaI h;refine G0 16383 [10,11,12] (h.pick [10,11] Z) Z (Ao 14 32767 Z (zs 3 h Z fun _ h=>G0 65535 [15] (h.pick [10,11] Z) Z (Ad ?_)));replace h:=h.pick [3,0,1,10,11] Z;exact rG ⟨_,_,_,_,_,_,_,rfl,h⟩ Z
   refine qp qa h Z Z Z fun _ _ h=>Ag (h.pick [6,7] Z) (Ao 3 8671 Z (qek r4 h (cB 27 Z) (qcJ (h.old ha2) hr4) Z Z Z Z fun _ _ _ h=>?_));obtain rfl:=qag (h.own 0 Z);refine Ag (h.pick [7,8] Z) (Ao 5 8703 Z (qhC r5 h (cB 28 Z) (qal ⟨_,_,rfl,(h.oldS s6)⟩ hr5) Z Z Z Z fun _ _ _ _ h=>Ag (h.pick [8,9] Z) (Ao 9 9215 Z (qa3 (r7,r8) h (cB 36 Z) (qdl ⟨[.slice p41 r3.Ap.Am.length k41],[.slice p42 r3.Aa.Ab.length k42,.slice p43 r3.Aa.Ah.length k43,.slice p44 r3.Aa.Af.length k44,.slice p45 r3.Ac.length k45],rfl,(h.own 3 Z),⟨[.slice p42 r3.Aa.Ab.length k42,.slice p43 r3.Aa.Ah.length k43,.slice p44 r3.Aa.Af.length k44],[.slice p45 r3.Ac.length k45],rfl,⟨[.slice p42 r3.Aa.Ab.length k42],[.slice p43 r3.Aa.Ah.length k43,.slice p44 r3.Aa.Af.length k44],rfl,(h.own 6 Z),⟨[.slice p43 r3.Aa.Ah.length k43],[.slice p44 r3.Aa.Af.length k44],rfl,(h.own 5 Z),(h.own 4 Z)⟩⟩,(h.own 7 Z)⟩⟩ (h.own 1 Z) (h.own 0 Z) hr6) Z Z Z Z fun _ _ _ hv28 hr34=>?_))));obtain⟨_,_,_,_,rfl,hv29,hr35⟩:=hv28.cons hr34;obtain⟨_,_,_,_,rfl,-,-⟩:=qax (hv29.sh.own 0 Z);obtain⟨rfl,h⟩:=hv29.lastI hr35;obtain⟨_,_,h⟩:=qaI h;refine G0 16383 [10,11,12] (h.pick [10,11] Z) Z (Ao 14 32767 Z (zs 4 h Z fun _ h=>G0 65535 [15] (h.pick [10,11] Z) Z (Ad ?_)));replace h:=h.pick [4,0,1,10,11] Z;exact rG ⟨_,_,_,_,_,_,_,rfl,h⟩ Z
  refine qp qa h Z Z Z fun _ _ h=>Ag (h.pick [1,2] Z) (Ao 1 8663 Z (qek r3 h (cB 11 Z) (qfd (h.old ha1) hr3) Z Z Z Z fun _ _ _ h=>?_));obtain⟨p57,k57,p58,k58,p59,k59,p60,k60,p61,k61,rfl,-,-,-,-,-⟩:=qM (h.own 0 Z);obtain⟨_,_,_,h⟩:=qh7 h;replace h:=h.pick [1,0,2,3,4,5] Z;obtain⟨_,_,_,h⟩:=qh9 h;replace h:=h.pick [4,0,1,2,3,5,6,7] Z;obtain⟨_,h⟩:=qhk h;refine Ag (h.pick [6,7] Z) (Ao 3 8671 Z (qek r4 h (cB 27 Z) (qcJ (h.old ha2) hr4) Z Z Z Z fun _ _ _ h=>?_));obtain rfl:=qag (h.own 0 Z);refine Ag (h.pick [7,8] Z) (Ao 5 8703 Z (qhC r5 h (cB 28 Z) (qal ⟨_,_,rfl,(h.oldS s6)⟩ hr5) Z Z Z Z fun _ _ _ _ h=>Ag (h.pick [8,9] Z) (Ao 9 9215 Z (qa3 (r7,r8) h (cB 36 Z) (qdl ⟨[.slice p57 r3.Ap.Am.length k57],[.slice p58 r3.Aa.Ab.length k58,.slice p59 r3.Aa.Ah.length k59,.slice p60 r3.Aa.Af.length k60,.slice p61 r3.Ac.length k61],rfl,(h.own 2 Z),⟨[.slice p58 r3.Aa.Ab.length k58,.slice p59 r3.Aa.Ah.length k59,.slice p60 r3.Aa.Af.length k60],[.slice p61 r3.Ac.length k61],rfl,⟨[.slice p58 r3.Aa.Ab.length k58],[.slice p59 r3.Aa.Ah.length k59,.slice p60 r3.Aa.Af.length k60],rfl,(h.own 5 Z),⟨[.slice p59 r3.Aa.Ah.length k59],[.slice p60 r3.Aa.Af.length k60],rfl,(h.own 4 Z),(h.own 3 Z)⟩⟩,(h.own 6 Z)⟩⟩ (h.own 1 Z) (h.own 0 Z) hr6) Z Z Z Z fun _ _ _ hv31 hr37=>?_))));obtain⟨_,_,_,_,rfl,hv32,hr38⟩:=hv31.cons hr37;obtain⟨_,_,_,_,rfl,-,-⟩:=qax (hv32.sh.own 0 Z);obtain⟨rfl,h⟩:=hv32.lastI hr38;obtain⟨_,_,h⟩:=qaI h;refine G0 16383 [10,11,12] (h.pick [10,11] Z) Z (Ao 14 32767 Z (zs 9 h Z fun _ h=>G0 65535 [15] (h.pick [10,11] Z) Z (Ad ?_)));replace h:=h.pick [9,0,1,10,11] Z;exact rG ⟨_,_,_,_,_,_,_,rfl,h⟩ Z
 rintro _ _ ⟨bb9,S70,p39,k39,S71,p40,k40,rfl,h⟩;refine X1 3 4 h Z (zcO h F (qfd (h.old ha1)) Z fun r9 _ S125 _ h F=>?_);obtain⟨p65,k65,p66,k66,p67,k67,p68,k68,p69,k69,rfl,-,-,-,-,-⟩:=qM (h.own 0 Z);refine qp qa h Z Z Z fun _ bb15 h=>zs 0 h Z fun _ h=>X0 4 Z (zcL h F (qal ⟨_,_,rfl,(h.oldS s6)⟩) Z fun r10 _ S126 p70 k70 h F=>X0 3 Z ?_);obtain⟨r11,hr42,F⟩:=qc F;obtain⟨r12,hr43,F⟩:=qc F;obtain⟨r13,r14⟩:=r12;refine qbe (fun e w'=>∃(bb20:Nat) (S154:Nat→Prop) (p79:Option Addr) (k79:Nat) (S155:Nat→Prop) (p80:Option Addr) (k80:Nat),e=[(2,.slice p6 a_2.length k6),(3,.int .i64 a_3),(4,.int .i64 a_4),(5,.int .i64 a_5),(6,.pointer (V ⟨bb1,0,U⟩)),(7,.pointer (V ⟨bb2,0,U⟩)),(14,.pointer (V ⟨bb9,0,U⟩)),(15,.int .i64 r8),(16,.pointer (V ⟨bb15,0,U⟩)),(17,.slice p70 r10.length k70),(18,.pointer (V ⟨bb20,0,U⟩)),(19,.int .i64 r14)]∧SH w w' [Ch.box bb20 (qaG r13 p80 p79 k80 k79) 91,Ch.own S154 (r13.Bg:List qf) [.slice p79 r13.Bg.length k79],Ch.own S155 (r13.Av:List qE) [.slice p80 r13.Av.length k80],Ch.own S126 (r10:List Int) [.slice p70 r10.length k70],Ch.box bb15 (qT r9 p65 p66 p67 p68 p69 k65 k66 k67 k68 k69) 53,Ch.own S125 (r9:qd) (qT r9 p65 p66 p67 p68 p69 k65 k66 k67 k68 k69),Ch.box bb9 (qaG r7 p40 p39 k40 k39) 91,Ch.own S70 (r7.Bg:List qf) [.slice p39 r7.Bg.length k39],Ch.own S71 (r7.Av:List qE) [.slice p40 r7.Av.length k40],Ch.box bb2 (qad a_1) 71,Ch.box bb1 (qT a_0 p1 p2 p3 p4 p5 k1 k2 k3 k4 k5) 32]) ?_ ?_
 ·refine rA [] [1,6] h Z fun _ h=>M2 123 [0,1,3,4,5,6] 0 1 (h.pick [1,6] Z) Z (At 2 11 127 2171 Z ?_ ?_)
  ·refine qek r11 h (cB 27 Z) (qcJ (h.old ha2) hr42) Z Z Z Z fun _ _ _ h=>?_;obtain rfl:=qag (h.own 0 Z);refine Ag (h.pick [2,7] Z) (At 7 11 255 2175 Z ?_ ?_)
   ·refine qa3 (r13,r14) h (cB 37 Z) (qbk (h.own 3 Z) (h.own 0 Z) (h.own 1 Z) hr43) Z Z Z Z fun _ _ _ hv46 hr56=>?_;obtain⟨_,_,_,_,rfl,hv47,hr57⟩:=hv46.cons hr56;obtain⟨_,_,_,_,rfl,-,-⟩:=qax (hv47.sh.own 0 Z);obtain⟨rfl,h⟩:=hv47.lastI hr57;obtain⟨_,_,h⟩:=qaI h;refine G0 2047 [8,9,10] (h.pick [4,9] Z) Z (Ao 11 4095 Z (qp qa h Z Z Z fun _ _ h=>Ag (h.pick [5,10] Z) (Ao 12 8191 Z (zs 0 h Z fun _ h=>G0 16383 [13] (h.pick [5,10] Z) Z (Ad ?_)))));replace h:=h.pick [0,1,2,4,5,6,7,8,9,10,11] Z;exact rG ⟨_,_,_,_,_,_,_,rfl,h⟩ Z
   refine qp qa h Z Z Z fun _ _ h=>Ag (h.pick [3,8] Z) (Ao 7 2303 Z (qa3 (r13,r14) h (cB 37 Z) (qbk (h.own 4 Z) (h.own 1 Z) (h.own 2 Z) hr43) Z Z Z Z fun _ _ _ hv49 hr59=>?_));obtain⟨_,_,_,_,rfl,hv50,hr60⟩:=hv49.cons hr59;obtain⟨_,_,_,_,rfl,-,-⟩:=qax (hv50.sh.own 0 Z);obtain⟨rfl,h⟩:=hv50.lastI hr60;obtain⟨_,_,h⟩:=qaI h;refine G0 4095 [8,9,10] (h.pick [5,10] Z) Z (Ao 12 8191 Z (zs 2 h Z fun _ h=>G0 16383 [13] (h.pick [5,10] Z) Z (Ad ?_)));replace h:=h.pick [2,0,1,4,5,6,7,8,9,10,11] Z;exact rG ⟨_,_,_,_,_,_,_,rfl,h⟩ Z
  refine qp qa h Z Z Z fun _ _ h=>Ag (h.pick [2,7] Z) (Ao 2 2175 Z (qek r11 h (cB 27 Z) (qcJ (h.old ha2) hr42) Z Z Z Z fun _ _ _ h=>?_));obtain rfl:=qag (h.own 0 Z);refine Ag (h.pick [3,8] Z) (Ao 7 2303 Z (qa3 (r13,r14) h (cB 37 Z) (qbk (h.own 4 Z) (h.own 0 Z) (h.own 2 Z) hr43) Z Z Z Z fun _ _ _ hv52 hr62=>?_));obtain⟨_,_,_,_,rfl,hv53,hr63⟩:=hv52.cons hr62;obtain⟨_,_,_,_,rfl,-,-⟩:=qax (hv53.sh.own 0 Z);obtain⟨rfl,h⟩:=hv53.lastI hr63;obtain⟨_,_,h⟩:=qaI h;refine G0 4095 [8,9,10] (h.pick [5,10] Z) Z (Ao 12 8191 Z (zs 3 h Z fun _ h=>G0 16383 [13] (h.pick [5,10] Z) Z (Ad ?_)));replace h:=h.pick [3,0,1,4,5,6,7,8,9,10,11] Z;exact rG ⟨_,_,_,_,_,_,_,rfl,h⟩ Z
 rintro _ _ ⟨bb20,S154,p79,k79,S155,p80,k80,rfl,h⟩;refine zSS ?_;obtain⟨KF3,hKF3,_,F,hK3⟩:=bindE F;refine qbe (fun e w'=>∃(b1:Bool),KF3 b1=V r∧e=[(2,.slice p6 a_2.length k6),(3,.int .i64 a_3),(4,.int .i64 a_4),(5,.int .i64 a_5),(6,.pointer (V ⟨bb1,0,U⟩)),(7,.pointer (V ⟨bb2,0,U⟩)),(14,.pointer (V ⟨bb9,0,U⟩)),(15,.int .i64 r8),(16,.pointer (V ⟨bb15,0,U⟩)),(17,.slice p70 r10.length k70),(18,.pointer (V ⟨bb20,0,U⟩)),(19,.int .i64 r14),(74,.bool b1)]∧SH w w' [Ch.box bb20 (qaG r13 p80 p79 k80 k79) 91,Ch.own S154 (r13.Bg:List qf) [.slice p79 r13.Bg.length k79],Ch.own S155 (r13.Av:List qE) [.slice p80 r13.Av.length k80],Ch.own S126 (r10:List Int) [.slice p70 r10.length k70],Ch.box bb15 (qT r9 p65 p66 p67 p68 p69 k65 k66 k67 k68 k69) 53,Ch.own S125 (r9:qd) (qT r9 p65 p66 p67 p68 p69 k65 k66 k67 k68 k69),Ch.box bb9 (qaG r7 p40 p39 k40 k39) 91,Ch.own S70 (r7.Bg:List qf) [.slice p39 r7.Bg.length k39],Ch.own S71 (r7.Av:List qE) [.slice p40 r7.Av.length k40],Ch.box bb2 (qad a_1) 71,Ch.box bb1 (qT a_0 p1 p2 p3 p4 p5 k1 k2 k3 k4 k5) 32]) ?_ ?_
 ·refine X2 3 0 6 h Z (zcB h F (qgY ⟨[.slice p80 r13.Av.length k80],[.slice p79 r13.Bg.length k79],rfl,(h.own 2 Z),(h.own 1 Z)⟩ ⟨[.slice p40 r7.Av.length k40],[.slice p39 r7.Bg.length k39],rfl,(h.own 8 Z),(h.own 7 Z)⟩) Z fun _ _ h F=>zp2 Z (qm (t:=70) F Z ?_ ?_))<;>intro F
  ·refine X0 5 Z ?_;obtain rfl:=qb F;exact rG ⟨_,hK3,rfl,h⟩ Z
  refine X0 8 Z ?_;obtain rfl:=qb F;exact rG ⟨_,hK3,rfl,h⟩ Z
 rintro _ _ ⟨b1,F,rfl,h⟩;subst hKF3;refine qh Z F ?_ ?_<;>intro F
 ·exact X0 4 Z (rb h F Z)
 refine zKSS (rA [] [4,10] h Z fun _ h=>M2 3 [0,1] 0 1 (h.pick [4,10] Z) Z (Ao 2 7 Z (zcO h F (qfd (h.old ha1)) Z fun _ _ _ _ h F=>?_)));obtain⟨_,_,_,_,_,_,_,_,_,_,rfl,-,-,-,-,-⟩:=qM (h.own 0 Z);refine Ag (h.pick [5,11] Z) (Ao 3 15 Z (zcB h F (qql (h.own 6 Z) (h.own 0 Z)) Z fun _ _ h F=>G0 31 [4] (h.pick [5,11] Z) Z (Ad (qh Z F ?_ ?_))))<;>intro F
 ·exact X0 4 Z (rb h F Z)
 refine X0 6 Z (zcL h F (qal ⟨_,_,rfl,(h.oldS s6)⟩) Z fun _ _ _ _ _ h F=>zcB h F (qbL (h.own 5 Z) (h.own 0 Z)) Z fun _ _ h F=>X0 2 Z (qh Z F ?_ ?_))<;>intro F
 ·exact X0 4 Z (rb h F Z)
 refine X1 9 6 h Z ?_;replace h:=h.pick [7,0,1,2,3,4,5,6,8,9,10,11,12] Z;obtain⟨_,_,_,h⟩:=qh7 h;replace h:=h.pick [2,0,1,3,4,5,6,7,8,9,10,11,12,13,14] Z;obtain⟨_,h⟩:=qhk h;replace h:=h.pick [2,0,1,3,4,5,6,7,8,9,10,11,12,13,14] Z;obtain⟨_,_,_,h⟩:=qh9 h;replace h:=h.pick [4,0,1,2,3,7,8,9,10,12,13,14,15,16] Z;obtain⟨o1,hr69,F⟩:=qc F;obtain⟨r19,x1,x2,x3,x4,x5⟩:=o1;refine qcw r19 (cB 19 Z) (qn7 h hr69) Z Z Z Z ?_;rintro _ ⟨S185,S186,S187,S188,S189,h⟩;replace h:SH _ _ [Ch.own S189 (x5:List qG) [.slice p69 r9.Ac.length k69],Ch.own S188 (x4:List qW) [.slice p68 r9.Aa.Af.length k68],Ch.own S187 (x3:List ByteArray) [.slice p67 r9.Aa.Ah.length k67],Ch.own S186 (x2:List qk) [.slice p66 r9.Aa.Ab.length k66],Ch.own S185 (x1:List qv) [.slice p65 r9.Ap.Am.length k65],Ch.box bb20 (qaG r13 p80 p79 k80 k79) 91,Ch.own S154 (r13.Bg:List qf) [.slice p79 r13.Bg.length k79],Ch.own S155 (r13.Av:List qE) [.slice p80 r13.Av.length k80],Ch.own S126 (r10:List Int) [.slice p70 r10.length k70],Ch.box bb9 (qaG r7 p40 p39 k40 k39) 91,Ch.own S70 (r7.Bg:List qf) [.slice p39 r7.Bg.length k39],Ch.own S71 (r7.Av:List qE) [.slice p40 r7.Av.length k40],Ch.box bb2 (qad a_1) 71,Ch.box bb1 (qT a_0 p1 p2 p3 p4 p5 k1 k2 k3 k4 k5) 32]:=h;refine X0 6 Z ?_;replace h:=h.pick [8,5,6,7,9,10,11,12,13] Z;obtain⟨o2,hr70,F⟩:=qc F;obtain⟨r20,x6⟩:=o2;refine qcw r20 (cB 22 Z) (qa0 h hr70) Z Z Z Z ?_;rintro _ ⟨S190,h⟩;replace h:SH _ _ [Ch.own S190 (x6:List Int) [.slice p70 r10.length k70],Ch.box bb20 (qaG r13 p80 p79 k80 k79) 91,Ch.own S154 (r13.Bg:List qf) [.slice p79 r13.Bg.length k79],Ch.own S155 (r13.Av:List qE) [.slice p80 r13.Av.length k80],Ch.box bb9 (qaG r7 p40 p39 k40 k39) 91,Ch.own S70 (r7.Bg:List qf) [.slice p39 r7.Bg.length k39],Ch.own S71 (r7.Av:List qE) [.slice p40 r7.Av.length k40],Ch.box bb2 (qad a_1) 71,Ch.box bb1 (qT a_0 p1 p2 p3 p4 p5 k1 k2 k3 k4 k5) 32]:=h;refine X0 4 Z ?_;obtain⟨KF2,hKF2,_,F,hK2⟩:=bindE F;refine qbe (fun e w'=>∃(b2:Bool),KF2 b2=V r∧e=[(2,.slice p6 a_2.length k6),(3,.int .i64 a_3),(4,.int .i64 a_4),(5,.int .i64 a_5),(6,.pointer (V ⟨bb1,0,U⟩)),(7,.pointer (V ⟨bb2,0,U⟩)),(14,.pointer (V ⟨bb9,0,U⟩)),(15,.int .i64 r8),(18,.pointer (V ⟨bb20,0,U⟩)),(103,.bool b2)]∧SH w w' [Ch.box bb20 (qaG r13 p80 p79 k80 k79) 91,Ch.own S154 (r13.Bg:List qf) [.slice p79 r13.Bg.length k79],Ch.own S155 (r13.Av:List qE) [.slice p80 r13.Av.length k80],Ch.box bb9 (qaG r7 p40 p39 k40 k39) 91,Ch.own S70 (r7.Bg:List qf) [.slice p39 r7.Bg.length k39],Ch.own S71 (r7.Av:List qE) [.slice p40 r7.Av.length k40],Ch.box bb2 (qad a_1) 71,Ch.box bb1 (qT a_0 p1 p2 p3 p4 p5 k1 k2 k3 k4 k5) 32]) ?_ ?_
 ·refine X0 4 Z (qm (t:=93) F Z ?_ ?_)<;>intro F
  ·refine X0 11 Z ?_;replace h:=h.pick [1,2,3,4,5,6,7,8] Z;obtain rfl:=qb F;exact rG ⟨_,hK2,rfl,h⟩ Z
  refine X2 5 1 4 h Z (zcB h F (qgY ⟨[.slice p80 r13.Av.length k80],[.slice p79 r13.Bg.length k79],rfl,(h.own 3 Z),(h.own 2 Z)⟩ ⟨[.slice p40 r7.Av.length k40],[.slice p39 r7.Bg.length k39],rfl,(h.own 6 Z),(h.own 5 Z)⟩) Z fun _ _ h F=>X0 4 Z (qm (t:=99) F Z ?_ ?_))<;>intro F
  ·refine X0 5 Z ?_;replace h:=h.pick [1,2,3,4,5,6,7,8] Z;obtain rfl:=qb F;exact rG ⟨_,hK2,rfl,h⟩ Z
  refine X0 8 Z ?_;replace h:=h.pick [1,2,3,4,5,6,7,8] Z;obtain rfl:=qb F;exact rG ⟨_,hK2,rfl,h⟩ Z
 rintro _ _ ⟨b2,F,rfl,h⟩;subst hKF2;refine qh Z F ?_ ?_<;>intro F
 ·exact X0 4 Z (rb h F Z)
 refine X1 9 0 h Z ?_;replace h:=h.pick [1,2,0,3,4,5,6,7] Z;obtain⟨o3,hr71,F⟩:=qc F;obtain⟨r21,x7,x8⟩:=o3;refine qcw r21 (cB 39 Z) (qlJ h hr71) Z Z Z Z ?_;rintro _ ⟨S191,S192,h⟩;replace h:SH _ _ [Ch.own S192 (x8:List qf) [.slice p79 r13.Bg.length k79],Ch.own S191 (x7:List qE) [.slice p80 r13.Av.length k80],Ch.box bb20 (qaG r13 p80 p79 k80 k79) 91,Ch.box bb9 (qaG r7 p40 p39 k40 k39) 91,Ch.own S70 (r7.Bg:List qf) [.slice p39 r7.Bg.length k39],Ch.own S71 (r7.Av:List qE) [.slice p40 r7.Av.length k40],Ch.box bb2 (qad a_1) 71,Ch.box bb1 (qT a_0 p1 p2 p3 p4 p5 k1 k2 k3 k4 k5) 32]:=h;refine X1 10 2 h Z (zcI h F (qiC ⟨[.slice p80 r13.Av.length k80],[.slice p79 r13.Bg.length k79],rfl,(h.own 1 Z),(h.own 0 Z)⟩) Z fun _ _ h F=>X0 8 Z (qh Z F ?_ ?_))<;>intro F
 ·exact X0 4 Z (rb h F Z)
 refine X0 8 Z (qh Z F ?_ ?_)<;>intro F
 ·exact X0 4 Z (rb h F Z)
 refine zKS ?_;obtain⟨r23,hr73,F⟩:=qc F;obtain⟨r24,hr74,F⟩:=qc F;obtain⟨r25,hr75,F⟩:=qc F;obtain⟨r26,hr76,F⟩:=qc F;obtain⟨r27,r28⟩:=r26;refine qbe (fun e w'=>∃(bb30:Nat) (S262:Nat→Prop) (p125:Option Addr) (k125:Nat) (S263:Nat→Prop) (p126:Option Addr) (k126:Nat),e=[(14,.pointer (V ⟨bb9,0,U⟩)),(15,.int .i64 r8),(18,.pointer (V ⟨bb20,0,U⟩)),(21,.int .i64 r21),(23,.pointer (V ⟨bb30,0,U⟩)),(24,.int .i64 r28)]∧SH w w' [Ch.box bb30 (qaG r27 p126 p125 k126 k125) 91,Ch.own S262 (r27.Bg:List qf) [.slice p125 r27.Bg.length k125],Ch.own S263 (r27.Av:List qE) [.slice p126 r27.Av.length k126],Ch.own S192 (x8:List qf) [.slice p79 r13.Bg.length k79],Ch.own S191 (x7:List qE) [.slice p80 r13.Av.length k80],Ch.box bb20 (qaG r13 p80 p79 k80 k79) 91,Ch.box bb9 (qaG r7 p40 p39 k40 k39) 91,Ch.own S70 (r7.Bg:List qf) [.slice p39 r7.Bg.length k39],Ch.own S71 (r7.Av:List qE) [.slice p40 r7.Av.length k40]]) ?_ ?_
 ·refine rA [] [6,7] h Z fun _ h=>M2 469 [0,2,4,6,7,8] 1 0 (h.pick [6,7] Z) Z (At 1 13 471 8661 Z ?_ ?_)
  ·refine qek r23 h (cB 11 Z) (qfd (qk9 _ (h.oldS s1) (h.oldS s2) (h.oldS s3) (h.oldS s4) (h.oldS s5)) hr73) Z Z Z Z fun _ _ _ h=>?_;obtain⟨p127,k127,p128,k128,p129,k129,p130,k130,p131,k131,rfl,-,-,-,-,-⟩:=qM (h.own 0 Z);obtain⟨_,_,_,h⟩:=qh7 h;replace h:=h.pick [1,0,2,3,4,5,6,7,8,9,10] Z;obtain⟨_,_,_,h⟩:=qh9 h;replace h:=h.pick [4,0,1,2,3,5,6,7,8,9,10,11,12] Z;obtain⟨_,h⟩:=qhk h;refine Ag (h.pick [11,12] Z) (At 3 13 479 8663 Z ?_ ?_)
   ·refine qek r24 h (cB 27 Z) (qcJ (qlA _) hr74) Z Z Z Z fun _ _ _ h=>?_;obtain rfl:=qag (h.own 0 Z);refine Ag (h.pick [12,13] Z) (At 5 13 511 8671 Z ?_ ?_)
    ·refine qhC r25 h (cB 28 Z) (qal ⟨_,_,rfl,(h.oldS s6)⟩ hr75) Z Z Z Z fun _ _ _ _ h=>Ag (h.pick [13,14] Z) (At 9 13 1023 8703 Z ?_ ?_)
     ·refine qa3 (r27,r28) h (cB 37 Z) (qbk ⟨[.slice p127 r23.Ap.Am.length k127],[.slice p128 r23.Aa.Ab.length k128,.slice p129 r23.Aa.Ah.length k129,.slice p130 r23.Aa.Af.length k130,.slice p131 r23.Ac.length k131],rfl,(h.own 2 Z),⟨[.slice p128 r23.Aa.Ab.length k128,.slice p129 r23.Aa.Ah.length k129,.slice p130 r23.Aa.Af.length k130],[.slice p131 r23.Ac.length k131],rfl,⟨[.slice p128 r23.Aa.Ab.length k128],[.slice p129 r23.Aa.Ah.length k129,.slice p130 r23.Aa.Af.length k130],rfl,(h.own 5 Z),⟨[.slice p129 r23.Aa.Ah.length k129],[.slice p130 r23.Aa.Af.length k130],rfl,(h.own 4 Z),(h.own 3 Z)⟩⟩,(h.own 6 Z)⟩⟩ (h.own 1 Z) (h.own 0 Z) hr76) Z Z Z Z fun _ _ _ hv73 hr95=>?_;obtain⟨_,_,_,_,rfl,hv74,hr96⟩:=hv73.cons hr95;obtain⟨_,_,_,_,rfl,-,-⟩:=qax (hv74.sh.own 0 Z);obtain⟨rfl,h⟩:=hv74.lastI hr96;obtain⟨_,_,h⟩:=qaI h;refine G0 8191 [10,11,12] (h.pick [15,16] Z) Z (Ao 13 16383 Z (qp qa h Z Z Z fun _ _ h=>Ag (h.pick [16,17] Z) (Ao 14 32767 Z (zs 0 h Z fun _ h=>G0 65535 [15] (h.pick [16,17] Z) Z (Ad ?_)))));replace h:=h.pick [0,1,2,10,11,12,13,14,15] Z;exact rG ⟨_,_,_,_,_,_,_,rfl,h⟩ Z
     refine qp qa h Z Z Z fun _ _ h=>Ag (h.pick [14,15] Z) (Ao 9 9215 Z (qa3 (r27,r28) h (cB 37 Z) (qbk ⟨[.slice p127 r23.Ap.Am.length k127],[.slice p128 r23.Aa.Ab.length k128,.slice p129 r23.Aa.Ah.length k129,.slice p130 r23.Aa.Af.length k130,.slice p131 r23.Ac.length k131],rfl,(h.own 3 Z),⟨[.slice p128 r23.Aa.Ab.length k128,.slice p129 r23.Aa.Ah.length k129,.slice p130 r23.Aa.Af.length k130],[.slice p131 r23.Ac.length k131],rfl,⟨[.slice p128 r23.Aa.Ab.length k128],[.slice p129 r23.Aa.Ah.length k129,.slice p130 r23.Aa.Af.length k130],rfl,(h.own 6 Z),⟨[.slice p129 r23.Aa.Ah.length k129],[.slice p130 r23.Aa.Af.length k130],rfl,(h.own 5 Z),(h.own 4 Z)⟩⟩,(h.own 7 Z)⟩⟩ (h.own 2 Z) (h.own 1 Z) hr76) Z Z Z Z fun _ _ _ hv76 hr98=>?_));obtain⟨_,_,_,_,rfl,hv77,hr99⟩:=hv76.cons hr98;obtain⟨_,_,_,_,rfl,-,-⟩:=qax (hv77.sh.own 0 Z);obtain⟨rfl,h⟩:=hv77.lastI hr99;obtain⟨_,_,h⟩:=qaI h;refine G0 16383 [10,11,12] (h.pick [16,17] Z) Z (Ao 14 32767 Z (zs 2 h Z fun _ h=>G0 65535 [15] (h.pick [16,17] Z) Z (Ad ?_)));replace h:=h.pick [2,0,1,10,11,12,13,14,15] Z;exact rG ⟨_,_,_,_,_,_,_,rfl,h⟩ Z
    refine qp qa h Z Z Z fun _ _ h=>Ag (h.pick [13,14] Z) (Ao 5 8703 Z (qhC r25 h (cB 28 Z) (qal ⟨_,_,rfl,(h.oldS s6)⟩ hr75) Z Z Z Z fun _ _ _ _ h=>Ag (h.pick [14,15] Z) (Ao 9 9215 Z (qa3 (r27,r28) h (cB 37 Z) (qbk ⟨[.slice p127 r23.Ap.Am.length k127],[.slice p128 r23.Aa.Ab.length k128,.slice p129 r23.Aa.Ah.length k129,.slice p130 r23.Aa.Af.length k130,.slice p131 r23.Ac.length k131],rfl,(h.own 3 Z),⟨[.slice p128 r23.Aa.Ab.length k128,.slice p129 r23.Aa.Ah.length k129,.slice p130 r23.Aa.Af.length k130],[.slice p131 r23.Ac.length k131],rfl,⟨[.slice p128 r23.Aa.Ab.length k128],[.slice p129 r23.Aa.Ah.length k129,.slice p130 r23.Aa.Af.length k130],rfl,(h.own 6 Z),⟨[.slice p129 r23.Aa.Ah.length k129],[.slice p130 r23.Aa.Af.length k130],rfl,(h.own 5 Z),(h.own 4 Z)⟩⟩,(h.own 7 Z)⟩⟩ (h.own 2 Z) (h.own 0 Z) hr76) Z Z Z Z fun _ _ _ hv79 hr101=>?_))));obtain⟨_,_,_,_,rfl,hv80,hr102⟩:=hv79.cons hr101;obtain⟨_,_,_,_,rfl,-,-⟩:=qax (hv80.sh.own 0 Z);obtain⟨rfl,h⟩:=hv80.lastI hr102;obtain⟨_,_,h⟩:=qaI h;refine G0 16383 [10,11,12] (h.pick [16,17] Z) Z (Ao 14 32767 Z (zs 3 h Z fun _ h=>G0 65535 [15] (h.pick [16,17] Z) Z (Ad ?_)));replace h:=h.pick [3,0,1,10,11,12,13,14,15] Z;exact rG ⟨_,_,_,_,_,_,_,rfl,h⟩ Z
   refine qp qa h Z Z Z fun _ _ h=>Ag (h.pick [12,13] Z) (Ao 3 8671 Z (qek r24 h (cB 27 Z) (qcJ (qlA _) hr74) Z Z Z Z fun _ _ _ h=>?_));obtain rfl:=qag (h.own 0 Z);refine Ag (h.pick [13,14] Z) (Ao 5 8703 Z (qhC r25 h (cB 28 Z) (qal ⟨_,_,rfl,(h.oldS s6)⟩ hr75) Z Z Z Z fun _ _ _ _ h=>Ag (h.pick [14,15] Z) (Ao 9 9215 Z (qa3 (r27,r28) h (cB 37 Z) (qbk ⟨[.slice p127 r23.Ap.Am.length k127],[.slice p128 r23.Aa.Ab.length k128,.slice p129 r23.Aa.Ah.length k129,.slice p130 r23.Aa.Af.length k130,.slice p131 r23.Ac.length k131],rfl,(h.own 3 Z),⟨[.slice p128 r23.Aa.Ab.length k128,.slice p129 r23.Aa.Ah.length k129,.slice p130 r23.Aa.Af.length k130],[.slice p131 r23.Ac.length k131],rfl,⟨[.slice p128 r23.Aa.Ab.length k128],[.slice p129 r23.Aa.Ah.length k129,.slice p130 r23.Aa.Af.length k130],rfl,(h.own 6 Z),⟨[.slice p129 r23.Aa.Ah.length k129],[.slice p130 r23.Aa.Af.length k130],rfl,(h.own 5 Z),(h.own 4 Z)⟩⟩,(h.own 7 Z)⟩⟩ (h.own 1 Z) (h.own 0 Z) hr76) Z Z Z Z fun _ _ _ hv82 hr104=>?_))));obtain⟨_,_,_,_,rfl,hv83,hr105⟩:=hv82.cons hr104;obtain⟨_,_,_,_,rfl,-,-⟩:=qax (hv83.sh.own 0 Z);obtain⟨rfl,h⟩:=hv83.lastI hr105;obtain⟨_,_,h⟩:=qaI h;refine G0 16383 [10,11,12] (h.pick [16,17] Z) Z (Ao 14 32767 Z (zs 4 h Z fun _ h=>G0 65535 [15] (h.pick [16,17] Z) Z (Ad ?_)));replace h:=h.pick [4,0,1,10,11,12,13,14,15] Z;exact rG ⟨_,_,_,_,_,_,_,rfl,h⟩ Z
  refine qp qa h Z Z Z fun _ _ h=>Ag (h.pick [7,8] Z) (Ao 1 8663 Z (qek r23 h (cB 11 Z) (qfd (qk9 _ (h.oldS s1) (h.oldS s2) (h.oldS s3) (h.oldS s4) (h.oldS s5)) hr73) Z Z Z Z fun _ _ _ h=>?_));obtain⟨p143,k143,p144,k144,p145,k145,p146,k146,p147,k147,rfl,-,-,-,-,-⟩:=qM (h.own 0 Z);obtain⟨_,_,_,h⟩:=qh7 h;replace h:=h.pick [1,0,2,3,4,5,6,7,8,9,10,11] Z;obtain⟨_,_,_,h⟩:=qh9 h;replace h:=h.pick [4,0,1,2,3,5,6,7,8,9,10,11,12,13] Z;obtain⟨_,h⟩:=qhk h;refine Ag (h.pick [12,13] Z) (Ao 3 8671 Z (qek r24 h (cB 27 Z) (qcJ (qlA _) hr74) Z Z Z Z fun _ _ _ h=>?_));obtain rfl:=qag (h.own 0 Z);refine Ag (h.pick [13,14] Z) (Ao 5 8703 Z (qhC r25 h (cB 28 Z) (qal ⟨_,_,rfl,(h.oldS s6)⟩ hr75) Z Z Z Z fun _ _ _ _ h=>Ag (h.pick [14,15] Z) (Ao 9 9215 Z (qa3 (r27,r28) h (cB 37 Z) (qbk ⟨[.slice p143 r23.Ap.Am.length k143],[.slice p144 r23.Aa.Ab.length k144,.slice p145 r23.Aa.Ah.length k145,.slice p146 r23.Aa.Af.length k146,.slice p147 r23.Ac.length k147],rfl,(h.own 2 Z),⟨[.slice p144 r23.Aa.Ab.length k144,.slice p145 r23.Aa.Ah.length k145,.slice p146 r23.Aa.Af.length k146],[.slice p147 r23.Ac.length k147],rfl,⟨[.slice p144 r23.Aa.Ab.length k144],[.slice p145 r23.Aa.Ah.length k145,.slice p146 r23.Aa.Af.length k146],rfl,(h.own 5 Z),⟨[.slice p145 r23.Aa.Ah.length k145],[.slice p146 r23.Aa.Af.length k146],rfl,(h.own 4 Z),(h.own 3 Z)⟩⟩,(h.own 6 Z)⟩⟩ (h.own 1 Z) (h.own 0 Z) hr76) Z Z Z Z fun _ _ _ hv85 hr107=>?_))));obtain⟨_,_,_,_,rfl,hv86,hr108⟩:=hv85.cons hr107;obtain⟨_,_,_,_,rfl,-,-⟩:=qax (hv86.sh.own 0 Z);obtain⟨rfl,h⟩:=hv86.lastI hr108;obtain⟨_,_,h⟩:=qaI h;refine G0 16383 [10,11,12] (h.pick [16,17] Z) Z (Ao 14 32767 Z (zs 9 h Z fun _ h=>G0 65535 [15] (h.pick [16,17] Z) Z (Ad ?_)));replace h:=h.pick [9,0,1,10,11,12,13,14,15] Z;exact rG ⟨_,_,_,_,_,_,_,rfl,h⟩ Z
 rintro _ _ ⟨bb30,S262,p125,k125,S263,p126,k126,rfl,h⟩;refine zSS ?_;obtain⟨KF1,hKF1,_,F,hK1⟩:=bindE F;refine qbe (fun e w'=>∃(b3:Bool),KF1 b3=V r∧e=[(18,.pointer (V ⟨bb20,0,U⟩)),(21,.int .i64 r21),(136,.bool b3)]∧SH w w' [Ch.own S192 (x8:List qf) [.slice p79 r13.Bg.length k79],Ch.own S191 (x7:List qE) [.slice p80 r13.Av.length k80],Ch.box bb20 (qaG r13 p80 p79 k80 k79) 91]) ?_ ?_
 ·refine X2 3 0 6 h Z (zcB h F (qgY ⟨[.slice p126 r27.Av.length k126],[.slice p125 r27.Bg.length k125],rfl,(h.own 2 Z),(h.own 1 Z)⟩ ⟨[.slice p40 r7.Av.length k40],[.slice p39 r7.Bg.length k39],rfl,(h.own 8 Z),(h.own 7 Z)⟩) Z fun _ _ h F=>zp2 Z (qm (t:=132) F Z ?_ ?_))<;>intro F
  ·refine X0 5 Z ?_;replace h:=h.pick [3,4,5] Z;obtain rfl:=qb F;exact rG ⟨_,hK1,rfl,h⟩ Z
  refine X0 8 Z ?_;replace h:=h.pick [3,4,5] Z;obtain rfl:=qb F;exact rG ⟨_,hK1,rfl,h⟩ Z
 rintro _ _ ⟨b3,F,rfl,h⟩;subst hKF1;refine qh Z F ?_ ?_<;>intro F
 ·exact X0 4 Z (rb h F Z)
 refine X1 9 2 h Z (zcI h F (qiC ⟨[.slice p80 r13.Av.length k80],[.slice p79 r13.Bg.length k79],rfl,(h.own 1 Z),(h.own 0 Z)⟩) Z fun _ _ h F=>X0 8 Z (qh Z F ?_ ?_))<;>intro F
 ·exact X0 4 Z (rb h F Z)
 refine X0 8 Z (qh Z F ?_ ?_)<;>intro F
 ·exact X0 4 Z (rb h F Z)
 exact X0 5 Z (rb h F Z)
end Go.Fw


namespace Go.Fw
open Go
end Go.Fw


namespace Go.Fw
open Go
set_option maxRecDepth 100000
def Mk {σ:Type}(F:Nat→Option (Int×σ))(k:Int)(w:Nat):Prop:=∃ k' x,Ev F (k',x)∧k≤k'∧k'≤k+16*(w:Int)
theorem qoZ {α:Type}{t:List α}{j:Nat}{y:α}(h:j<t.length):idx (setS t (j:Int) y) (j:Int)=V y:=by
 rw[qgq (by rw[qfs];exact h),qvS h]
theorem qnA {α:Type}{t:List α}{i:Int}{y z:α}:setS (setS t i y) i z=setS t i z:=by
 unfold setS;rw[List.set_set]
theorem qrC {α:Type}{a:List α}{wt:α→Nat}{j:Nat}(h:j<a.length):((a.take (j+1)).map wt).sum=((a.take j).map wt).sum+wt a[j]:=by
 rw[jy h,jF,List.sum_append];simp
theorem qtp {α:Type}{a:List α}{wt:α→Nat}{j:Nat}:((a.take j).map wt).sum≤(a.map wt).sum:=by
 conv=>rhs;rw[←List.take_append_drop j a]
 rw[jF,List.sum_append];exact Nat.le_add_right _ _
theorem qiB {α:Type}{a:List α}{wt:α→Nat}{Lf:Nat→List α→Int→Int→Option (List α×Int×Int)}{F:Nat→Option (Int×List α)}{k:Int}(hk0:0≤k)(hk1:k+16*((a.length+(a.map wt).sum:Nat):Int)≤1000000000000)
  (hend:∀ n t k,Lf (n+1) t k (a.length:Int)=V (t,k,(a.length:Int)))
  (hstep:∀ x,x ∈ a→∀ k:Int,0≤k→k+16*((1+wt x:Nat):Int)≤1000000000000→∃ y k',k≤k'∧k'≤k+16*((1+wt x:Nat):Int) ∧
   ∀ (t:List α) (j:Nat),j<9223372036854775807→j<a.length→j<t.length→t[j]?=V x→∀ X,Ev (fun n=>Lf n (setS t (j:Int) y) k' ((j+1:Nat):Int)) X→Ev (fun n=>Lf (n+1) t k (j:Int)) X)
  (hl:a.length≤1048576)
  (hF:∀ n,F n=(Lf n a k 0).bind fun o=>match o with|(x1,i1,_)=>V (i1,x1)):Mk F k (a.length+(a.map wt).sum):=by
 obtain⟨⟨t,k'⟩,⟨_,_,h3,h4⟩,e⟩:=loopE (τ:=List α×Int) (Lf:=fun n t j=>Lf n t.1 t.2 j) (fin:=fun t=>(t.1,t.2,(a.length:Int)))
  (fun j t=>t.1.length=a.length∧(∀ i,j≤i→t.1[i]?=a[i]?)∧k≤t.2∧t.2≤k+16*((j+((a.take j).map wt).sum:Nat):Int)) (len:=a.length)
  (fun n t=>hend n t.1 t.2)
  (fun j t hj ht=>by
   obtain⟨h1,h2,h3,h4⟩:=ht;have hs:=qrC (wt:=wt) hj;have hs2:=qtp (a:=a) (wt:=wt) (j:=j+1);obtain⟨y,k',q1,q2,q3⟩:=hstep a[j] (jo hj) t.2 (by omega) (by omega);refine⟨(setS t.1 (j:Int) y,k'),⟨by rw[qfs];exact h1,fun i hi=>?_,by show k≤k';omega,?_⟩,fun X hX=>?_⟩
   ·show(t.1.set _ _)[i]?=_;rw[List.getElem?_set_ne (by rw[jq];omega)];exact h2 i (by omega)
   ·show k'≤k+_;rw[hs];omega
   ·exact q3 t.1 j (by omega) hj (by omega) (by rw[h2 j (je _),ji hj]) X hX) 0 (Nat.zero_le _) (a,k) ⟨rfl,fun _ _=>rfl,jY _,by show k≤k+_;omega⟩
 rw[jH] at h4;exact⟨k',t,Ev.congr hF (Ev.bind e .done),h3,h4⟩
theorem qt8 {α:Type}{pre a:List α}{j:Nat}{y:α}(hp:pre.length=j)(hj:j<a.length):setS (pre++a.drop j) (j:Int) y=(pre++[y])++a.drop (j+1):=by
 show(pre++a.drop j).set j y=_;rw[List.set_append,if_neg (by omega),hp,Nat.sub_self,jL hj,List.set_cons_zero,jp]
 rfl
def marked (k:Int)(m:Nat):List Int:=(List.range m).map fun(i:Nat)=>k+(i:Int)
theorem qul {a:List Int}{k:Int}(h0:0≤k)(h1:k≤1000000000000)(hl:a.length≤1048576):Ev (fun n=>qaR n a k) (k+(a.length:Int),marked k a.length):=by
 have hL:Ev (fun n=>qcA a n a k 0) (marked k a.length,k+(a.length:Int),(a.length:Int)):=by
  have:=loopF (τ:=List Int×Int) (Lf:=fun n t j=>qcA a n t.1 t.2 j) (S:=fun j=>(marked k j++a.drop j,k+(j:Int))) (len:=a.length) (fin:=(marked k a.length,k+(a.length:Int),(a.length:Int))) (fun n=>by
    simp only[qcA,ql (je _),cond_false,List.drop_length,jX])
   (fun j hj X hX=>by
    have hp:(marked k j).length=j:=by simp[marked]
    have hlt:j<(marked k j++a.drop j).length:=by rw[jh,hp,List.length_drop];omega
    have hm:marked k (j+1)=marked k j++[k+(j:Int)]:=by unfold marked;rw[Je,jF];rfl
    simp only[qcA,qj hj,cond_true,qgq hlt,jd,qt8 hp hj,wS j,qI (show -9223372036854775808≤k+(j:Int)+1 by omega) (by omega)];rw[←hm];rw[show k+(j:Int)+1=k+((j+1:Nat):Int) by omega];exact hX)
  simpa [marked] using this
 unfold qaR;exact Ev.bind hL .done
theorem qfI {a:List Int}{k:Int}(h0:0≤k)(h1:k≤1000000000000)(hl:qa1 a≤1048576):∃ k' x,Ev (fun n=>qaR n a k) (k',x)∧k≤k'∧k'≤k+16*(qa1 a:Int):=
 ⟨_,_,qul h0 h1 hl,by omega,by unfold qa1;omega⟩
theorem qvn {a b:ByteArray}(h:a.size+b.size≤1000000):catB a b=V (a++b):=by
 unfold catB;rw[if_pos];show((a.size+b.size:Nat):Int)≤9223372036854775807;omega
theorem qsb {x:IntK .u8}:(strOf [x]).size=1:=rfl
theorem qjO {k:Int}(hk:k≤1000000000001000):∃ s,Ev (fun n=>qeu n k) s:=by
 have main:∀ m:Nat,∀ i1:Int,∀ z:ByteArray,0≤i1→i1≤9000000000000000000→i1<10 ^ m→z.size+m≤1000→∃ o:Int×ByteArray,o.2.size≤1000∧Ev (fun n=>qf0 n i1 z) o:=by
  intro m
  induction m with
  | zero=>
   intro i1 z h0 hb h1 hz;have:i1=0:=by have:(10:Int) ^ 0=1:=rfl;omega
   subst this;exact⟨(0,z),by show z.size≤1000;omega,Ev.succ (Ev.ff (by decide) .done)⟩
  | succ m ih=>
   intro i1 z h0 hb h1 hz;by_cases hp:i1=0
   ·subst hp;exact⟨(0,z),by show z.size≤1000;omega,Ev.succ (Ev.ff (by decide) .done)⟩
   ·have hd:i1.tdiv 10=i1 / 10:=jJ h0;have h10:(10:Int) ^ (m+1)=10 ^ m*10:=Int.pow_succ _ _;have hc:catB (strOf ([(⟨IntKind.wrap .u8 (W64 (48+(i1.tmod 10)))⟩:IntK .u8)])) z=V (strOf ([(⟨IntKind.wrap .u8 (W64 (48+(i1.tmod 10)))⟩:IntK .u8)])++z):=qvn (by rw[qsb];omega);obtain⟨o,ho,e⟩:=ih (i1 / 10) (strOf ([(⟨IntKind.wrap .u8 (W64 (48+(i1.tmod 10)))⟩:IntK .u8)])++z) (by omega) (by omega) (by omega) (by rw[ByteArray.size_append,qsb];omega);refine⟨o,ho,Ev.succ ?_⟩;simp only[qf0,show decide (i1 > 0)=true by simp;omega,cond_true,hc,jd,hd,qI (show -9223372036854775808≤i1 / 10 by omega) (by omega)];exact e
 unfold qeu;by_cases h0:k≤0
 ·exact⟨_,Ev.tt (by simpa using h0) .done⟩
 ·obtain⟨⟨o1,o2⟩,ho,e⟩:=main 16 k ⟨#[]⟩ (by omega) (by omega) (by have:(10:Int) ^ 16=10000000000000000:=rfl;omega) (by decide);refine⟨(⟨#[109]⟩:ByteArray)++o2,Ev.ff (by simp;omega) (Ev.bind e ?_)⟩;have ho:o2.size≤1000:=ho;show Ev (fun n=>(catB ⟨#[109]⟩ o2).bind fun z3=>V z3) _;rw[qvn (show(⟨#[109]⟩:ByteArray).size+o2.size≤1000000 by have:(⟨#[109]⟩:ByteArray).size=1:=rfl;omega)];exact .done
theorem qn3 {a:(List qu)}{k:Int}(h0:0≤k)(h1:k+16*(qdm a:Int)≤1000000000000)(hw:qdm a≤1048576):Mk (fun n=>qil n a k) k (qdm a):=by
 refine qiB (a:=a) (wt:=(fun x:qu=>qej x)) h0 h1 (Lf:=qdu a) (fun n t k=>by simp only[qdu,ql (je _),cond_false]) (fun x hx k h0 h1=>?_) (by simp only[qdm] at hw;omega) (fun _=>rfl);have hs:=qcX (wt:=(fun x:qu=>qej x)) hx;have ew:qej x=qa1 x.Bl+qa1 x.Bd+qa1 x.Az:=rfl;have hw:a.length+(a.map (fun x:qu=>qej x)).sum≤1048576:=hw;simp only[ew] at hs h1 ⊢;obtain⟨k1,x1,q1,l1,u1⟩:=qfI (a:=x.Bl) (k:=k) (by omega) (by omega) (by omega);obtain⟨k2,x2,q2,l2,u2⟩:=qfI (a:=x.Bd) (k:=k1) (by omega) (by omega) (by omega);obtain⟨k3,x3,q3,l3,u3⟩:=qfI (a:=x.Az) (k:=k2) (by omega) (by omega) (by omega);refine⟨⟨x1,x2,x3⟩,k3,by omega,by omega,fun t j hb hj ht hx X hX=>?_⟩;simp only[qdu,qj hj,cond_true,qdM hb]
 try simp only[qas hx,jd]
 refine Ev.bind q1 ?_;refine Ev.bind q2 ?_;refine Ev.bind q3 ?_;exact hX
theorem qtl {a:(List qH)}{k:Int}(h0:0≤k)(h1:k+16*(qhT a:Int)≤1000000000000)(hw:qhT a≤1048576):Mk (fun n=>qlN n a k) k (qhT a):=by
 refine qiB (a:=a) (wt:=(fun x:qH=>qjj x)) h0 h1 (Lf:=qeG a) (fun n t k=>by simp only[qeG,ql (je _),cond_false]) (fun x hx k h0 h1=>?_) (by simp only[qhT] at hw;omega) (fun _=>rfl);have hs:=qcX (wt:=(fun x:qH=>qjj x)) hx;have ew:qjj x=qdm x.Bk+qdm x.Ba:=rfl;have hw:a.length+(a.map (fun x:qH=>qjj x)).sum≤1048576:=hw;simp only[ew] at hs h1 ⊢;have e1:W64 (k+1)=k+1:=qI (by omega) (by omega);have e2:W64 (k+1+1)=k+1+1:=qI (by omega) (by omega);have e3:W64 (k+1+1+1)=k+1+1+1:=qI (by omega) (by omega);have e4:W64 (k+1+1+1+1)=k+1+1+1+1:=qI (by omega) (by omega);obtain⟨k1,x1,q1,l1,u1⟩:=qn3 (a:=x.Bk) (k:=k+1+1+1+1) (by omega) (by omega) (by omega);obtain⟨k2,x2,q2,l2,u2⟩:=qn3 (a:=x.Ba) (k:=k1) (by omega) (by omega) (by omega);refine⟨⟨k,k+1,k+1+1,k+1+1+1,x1,x2⟩,k2,by omega,by omega,fun t j hb hj ht hx X hX=>?_⟩;simp only[qeG,qj hj,cond_true,qdM hb]
 try simp only[qas hx,jd,e1,e2,e3,e4]
 refine Ev.bind q1 ?_;refine Ev.bind q2 ?_;exact hX
theorem qtz {a:(List qam)}{k:Int}(h0:0≤k)(h1:k+16*(qhU a:Int)≤1000000000000)(hw:qhU a≤1048576):Mk (fun n=>qlQ n a k) k (qhU a):=by
 refine qiB (a:=a) (wt:=(fun x:qam=>qkK x)) h0 h1 (Lf:=qeE a) (fun n t k=>by simp only[qeE,ql (je _),cond_false]) (fun x hx k h0 h1=>?_) (by simp only[qhU] at hw;omega) (fun _=>rfl);have hs:=qcX (wt:=(fun x:qam=>qkK x)) hx;have ew:qkK x=x.Au.size:=rfl;have hw:a.length+(a.map (fun x:qam=>qkK x)).sum≤1048576:=hw;simp only[ew] at hs h1 ⊢;obtain⟨s1,es1⟩:=qjO (k:=k) (by omega);have e1:W64 (k+1)=k+1:=qI (by omega) (by omega);have e2:W64 (k+1+1)=k+1+1:=qI (by omega) (by omega);have e3:W64 (k+1+1+1)=k+1+1+1:=qI (by omega) (by omega);have e4:W64 (k+1+1+1+1)=k+1+1+1+1:=qI (by omega) (by omega);refine⟨⟨s1,k+1,k+1+1,((k+1+1+1).tmod 3)==0⟩,k+1+1+1+1,by omega,by omega,fun t j hb hj ht hx X hX=>?_⟩;simp only[qeE,qj hj,cond_true,qdM hb]
 try simp only[qas hx,qoZ ht,jd,qnA]
 refine Ev.bind es1 ?_
 try simp only[e1,e2,e3,e4]
 exact hX
theorem qs6 {a:(List qv)}{k:Int}(h0:0≤k)(h1:k+16*(qgp a:Int)≤1000000000000)(hw:qgp a≤1048576):Mk (fun n=>qkL n a k) k (qgp a):=by
 refine qiB (a:=a) (wt:=(fun x:qv=>qfY x)) h0 h1 (Lf:=qdP a) (fun n t k=>by simp only[qdP,ql (je _),cond_false]) (fun x hx k h0 h1=>?_) (by simp only[qgp] at hw;omega) (fun _=>rfl);have hs:=qcX (wt:=(fun x:qv=>qfY x)) hx;have ew:qfY x=x.Au.size+qhU x.As+qhT x.Ak+qa1 x.Bm:=rfl;have hw:a.length+(a.map (fun x:qv=>qfY x)).sum≤1048576:=hw;simp only[ew] at hs h1 ⊢;obtain⟨s1,es1⟩:=qjO (k:=k) (by omega);have e1:W64 (k+1)=k+1:=qI (by omega) (by omega);have e2:W64 (k+1+1)=k+1+1:=qI (by omega) (by omega);obtain⟨k2,x2,q2,l2,u2⟩:=qtz (a:=x.As) (k:=k+1+1) (by omega) (by omega) (by omega);obtain⟨k3,x3,q3,l3,u3⟩:=qtl (a:=x.Ak) (k:=k2) (by omega) (by omega) (by omega);obtain⟨k4,x4,q4,l4,u4⟩:=qfI (a:=x.Bm) (k:=k3) (by omega) (by omega) (by omega);have e3:W64 (k4+1)=k4+1:=qI (by omega) (by omega);have e4:W64 (k4+1+1)=k4+1+1:=qI (by omega) (by omega);refine⟨⟨s1,k+1,x2,x3,x4,k4,k4+1⟩,k4+1+1,by omega,by omega,fun t j hb hj ht hx X hX=>?_⟩;simp only[qdP,qj hj,cond_true,qdM hb]
 try simp only[qas hx,jd]
 refine Ev.bind es1 ?_
 try simp only[e1,e2]
 refine Ev.bind q2 ?_;refine Ev.bind q3 ?_;refine Ev.bind q4 ?_
 try simp only[e3,e4]
 exact hX
theorem qre {a:qr}{k:Int}(h0:0≤k)(h1:k+16*(qex a:Int)≤1000000000000)(hw:qex a≤1048576):Mk (fun n=>qhQ n a k) k (qex a):=by
 simp only[qex] at h1 hw ⊢;obtain⟨k1,x1,q1,l1,u1⟩:=qs6 (a:=a.Am) (k:=k) (by omega) (by omega) (by omega);refine⟨k1,x1,?_,by omega,by omega⟩;unfold qhQ;exact Ev.bind q1 (.done)
theorem qpg {a:(List qk)}{k:Int}(h0:0≤k)(h1:k+16*(qb1 a:Int)≤1000000000000)(hw:qb1 a≤1048576):Mk (fun n=>qix n a k) k (qb1 a):=by
 refine qiB (a:=a) (wt:=(fun x:qk=>qbR x)) h0 h1 (Lf:=qco a) (fun n t k=>by simp only[qco,ql (je _),cond_false]) (fun x hx k h0 h1=>?_) (by simp only[qb1] at hw;omega) (fun _=>rfl);have hs:=qcX (wt:=(fun x:qk=>qbR x)) hx;have ew:qbR x=x.Au.size+qa1 x.Ah:=rfl;have hw:a.length+(a.map (fun x:qk=>qbR x)).sum≤1048576:=hw;simp only[ew] at hs h1 ⊢;obtain⟨s1,es1⟩:=qjO (k:=k) (by omega);have e1:W64 (k+1)=k+1:=qI (by omega) (by omega);have e2:W64 (k+1+1)=k+1+1:=qI (by omega) (by omega);obtain⟨k2,x2,q2,l2,u2⟩:=qfI (a:=x.Ah) (k:=k+1+1) (by omega) (by omega) (by omega);refine⟨⟨s1,k+1,x2⟩,k2,by omega,by omega,fun t j hb hj ht hx X hX=>?_⟩;simp only[qco,qj hj,cond_true,qdM hb]
 try simp only[qas hx,jd]
 refine Ev.bind es1 ?_
 try simp only[e1,e2]
 refine Ev.bind q2 ?_;exact hX
theorem qq2 {a:(List ByteArray)}{k:Int}(h0:0≤k)(h1:k+16*(qeL a:Int)≤1000000000000)(hw:qeL a≤1048576):Mk (fun n=>qjl n a k) k (qeL a):=by
 refine qiB (a:=a) (wt:=(fun x:ByteArray=>x.size)) h0 h1 (Lf:=qc7 a) (fun n t k=>by simp only[qc7,ql (je _),cond_false]) (fun x hx k h0 h1=>?_) (by simp only[qeL] at hw;omega) (fun _=>rfl);obtain⟨s,es⟩:=qjO (k:=k) (by omega);have e1:W64 (k+1)=k+1:=qI (by omega) (by omega);refine⟨s,k+1,by omega,by omega,fun t j hb hj ht hx X hX=>?_⟩;simp only[qc7,qj hj,cond_true,e1,qdM hb];refine Ev.bind es ?_
 try simp only[qas hx,jd]
 exact hX
theorem qs1 {a:(List qW)}{k:Int}(h0:0≤k)(h1:k+16*(qgy a:Int)≤1000000000000)(hw:qgy a≤1048576):Mk (fun n=>qkM n a k) k (qgy a):=by
 refine qiB (a:=a) (wt:=(fun x:qW=>qiq x)) h0 h1 (Lf:=qdQ a) (fun n t k=>by simp only[qdQ,ql (je _),cond_false]) (fun x hx k h0 h1=>?_) (by simp only[qgy] at hw;omega) (fun _=>rfl);have hs:=qcX (wt:=(fun x:qW=>qiq x)) hx;have ew:qiq x=x.Au.size:=rfl;have hw:a.length+(a.map (fun x:qW=>qiq x)).sum≤1048576:=hw;simp only[ew] at hs h1 ⊢;obtain⟨s1,es1⟩:=qjO (k:=k) (by omega);have e1:W64 (k+1)=k+1:=qI (by omega) (by omega);have e2:W64 (k+1+1)=k+1+1:=qI (by omega) (by omega);have e3:W64 (k+1+1+1)=k+1+1+1:=qI (by omega) (by omega);refine⟨⟨s1,k+1,k+1+1⟩,k+1+1+1,by omega,by omega,fun t j hb hj ht hx X hX=>?_⟩;simp only[qdQ,qj hj,cond_true,qdM hb]
 try simp only[qas hx,qoZ ht,jd,qnA]
 refine Ev.bind es1 ?_
 try simp only[e1,e2,e3]
 exact hX
theorem qrO {a:qe}{k:Int}(h0:0≤k)(h1:k+16*(qeU a:Int)≤1000000000000)(hw:qeU a≤1048576):Mk (fun n=>qig n a k) k (qeU a):=by
 simp only[qeU] at h1 hw ⊢;obtain⟨k1,x1,q1,l1,u1⟩:=qpg (a:=a.Ab) (k:=k) (by omega) (by omega) (by omega);obtain⟨k2,x2,q2,l2,u2⟩:=qq2 (a:=a.Ah) (k:=k1) (by omega) (by omega) (by omega);obtain⟨k3,x3,q3,l3,u3⟩:=qs1 (a:=a.Af) (k:=k2) (by omega) (by omega) (by omega);refine⟨k3,(x1,x2,x3),?_,by omega,by omega⟩;unfold qig;exact Ev.bind q1 (Ev.bind q2 (Ev.bind q3 (.done)))
theorem qsL {a:(List qG)}{k:Int}(h0:0≤k)(h1:k+16*(qgB a:Int)≤1000000000000)(hw:qgB a≤1048576):Mk (fun n=>qk7 n a k) k (qgB a):=by
 refine qiB (a:=a) (wt:=(fun x:qG=>qga x)) h0 h1 (Lf:=qdT a) (fun n t k=>by simp only[qdT,ql (je _),cond_false]) (fun x hx k h0 h1=>?_) (by simp only[qgB] at hw;omega) (fun _=>rfl);have hs:=qcX (wt:=(fun x:qG=>qga x)) hx;have ew:qga x=qa1 x.Aj+qa1 x.Bv+qa1 x.Br+qa1 x.Bi:=rfl;have hw:a.length+(a.map (fun x:qG=>qga x)).sum≤1048576:=hw;simp only[ew] at hs h1 ⊢;obtain⟨k1,x1,q1,l1,u1⟩:=qfI (a:=x.Aj) (k:=k) (by omega) (by omega) (by omega);obtain⟨k2,x2,q2,l2,u2⟩:=qfI (a:=x.Bv) (k:=k1) (by omega) (by omega) (by omega);obtain⟨k3,x3,q3,l3,u3⟩:=qfI (a:=x.Br) (k:=k2) (by omega) (by omega) (by omega);obtain⟨k4,x4,q4,l4,u4⟩:=qfI (a:=x.Bi) (k:=k3) (by omega) (by omega) (by omega);refine⟨⟨x1,x2,x3,x4⟩,k4,by omega,by omega,fun t j hb hj ht hx X hX=>?_⟩;simp only[qdT,qj hj,cond_true,qdM hb]
 try simp only[qas hx,jd]
 refine Ev.bind q1 ?_;refine Ev.bind q2 ?_;refine Ev.bind q3 ?_;refine Ev.bind q4 ?_;exact hX
theorem qsz {a:qd}{k:Int}(h0:0≤k)(h1:k+16*(qgl a:Int)≤1000000000000)(hw:qgl a≤1048576):Mk (fun n=>qi2 n a k) k (qgl a):=by
 simp only[qgl] at h1 hw ⊢;obtain⟨k1,x1,q1,l1,u1⟩:=qre (a:=a.Ap) (k:=k) (by omega) (by omega) (by omega);obtain⟨k2,⟨x2_0,x2_1,x2_2⟩,q2,l2,u2⟩:=qrO (a:=a.Aa) (k:=k1) (by omega) (by omega) (by omega);obtain⟨k3,x3,q3,l3,u3⟩:=qsL (a:=a.Ac) (k:=k2) (by omega) (by omega) (by omega);refine⟨k3,(x1,x2_0,x2_1,x2_2,x3),?_,by omega,by omega⟩;unfold qi2;exact Ev.bind q1 (Ev.bind q2 (Ev.bind q3 (.done)))
end Go.Fw


namespace Go.Fw
open Go
set_option maxRecDepth 100000
def mkd {α:Type}(v:Int→α)(c:Nat)(k:Int)(m:Nat):List α:=(List.range m).map fun(i:Nat)=>v (k+((c*i:Nat):Int))
theorem qqE {α:Type}{v:Int→α}{c:Nat}{k:Int}{m:Nat}:(mkd v c k m).length=m:=by simp[mkd]
theorem qwD {α:Type}{v:Int→α}{c:Nat}{k:Int}{m j:Nat}(h:j<m):idx (mkd v c k m) (j:Int)=V (v (k+((c*j:Nat):Int))):=by
 rw[qgq (by rw[qqE];exact h)];simp[mkd]
theorem mkdL {α:Type}(c:Nat)(v:Int→α){a:List α}{Lf:Nat→List α→Int→Int→Option (List α×Int×Int)}{k:Int}(h0:0≤k)(h1:k≤1000000000000)(hl:a.length≤1048576)(hc:c≤16)
  (hend:∀ n t i,Lf (n+1) t i (a.length:Int)=V (t,i,(a.length:Int)))
  (hstep:∀ n (t:List α) (i:Int) (j:Nat),j<a.length→j<t.length→0≤i→i≤2000000000000→Lf (n+1) t i (j:Int)=Lf n (setS t (j:Int) (v i)) (i+(c:Int)) ((j+1:Nat):Int)) :
  Ev (fun n=>Lf n a k 0) (mkd v c k a.length,k+((c*a.length:Nat):Int),(a.length:Int)):=by
 have:=loopF (τ:=List α×Int) (Lf:=fun n t j=>Lf n t.1 t.2 j) (S:=fun j=>(mkd v c k j++a.drop j,k+((c*j:Nat):Int))) (len:=a.length) (fin:=(mkd v c k a.length,k+((c*a.length:Nat):Int),(a.length:Int))) (fun n=>by
   simp only[hend,List.drop_length,jX])
  (fun j hj X hX=>by
   have hp:(mkd v c k j).length=j:=qqE;have hlt:j<(mkd v c k j++a.drop j).length:=by rw[jh,hp,List.length_drop];omega
   have hm:mkd v c k (j+1)=mkd v c k j++[v (k+((c*j:Nat):Int))]:=by unfold mkd;rw[Je,jF];rfl
   have hcj:c*j≤16*1048576:=Nat.mul_le_mul hc (by omega);simp only[hstep _ _ _ j hj hlt (show 0≤k+((c*j:Nat):Int) by omega) (by omega),qt8 hp hj];rw[←hm];have e:k+((c*j:Nat):Int)+(c:Int)=k+((c*(j+1):Nat):Int):=by rw[Nat.mul_succ];omega
   rw[e];exact hX)
 simpa [mkd] using this
theorem hedL {m c:Nat}{k:Int}{Lh:Nat→Int→Int→Option (Flow Int (Int×Int))}(hend:∀ n i,Lh (n+1) i (m:Int)=V (.nxt (i,(m:Int))))
  (hstep:∀ n (j:Nat),j<m→Lh (n+1) (k+((c*j:Nat):Int)) (j:Int)=Lh n (k+((c*j:Nat):Int)+(c:Int)) ((j+1:Nat):Int)):Ev (fun n=>Lh n k 0) (.nxt (k+((c*m:Nat):Int),(m:Int))):=by
 have:=loopF (Lf:=Lh) (S:=fun j=>k+((c*j:Nat):Int)) (len:=m) (fin:=.nxt (k+((c*m:Nat):Int),(m:Int))) (fun n=>hend n _)
  (fun j hj X hX=>by
   simp only[hstep _ j hj];have e:k+((c*j:Nat):Int)+(c:Int)=k+((c*(j+1):Nat):Int):=by rw[Nat.mul_succ];omega
   rw[e];exact hX)
 simpa using this
theorem qwk {a:List qE}{k:Int}(h0:0≤k)(h1:k≤1000000000000)(hl:a.length≤1048576):∃ y,Ev (fun n=>qih n a k) (k+((2*a.length:Nat):Int),y)∧Ev (fun n=>qie n y k) (k+((2*a.length:Nat):Int)):=by
 refine⟨mkd (fun i=>(⟨i,i+1⟩:qE)) 2 k a.length,?_,?_⟩
 ·have hL:=mkdL (Lf:=qdA a) 2 (fun i=>(⟨i,i+1⟩:qE)) h0 h1 hl (by decide)
   (fun n t i=>by simp only[qdA,ql (je _),cond_false])
   (fun n t i j hj ht i0 i1=>by
    have e:=wS j;have q1:W64 (i+1)=i+1:=qI (by omega) (by omega);have q2:W64 (i+2)=i+2:=qI (by omega) (by omega);have r1:i+1+1=i+2:=by omega
    simp only[qdA,qj hj,cond_true,qgq ht,jd,qoZ ht,qnA,e,q1,q2,r1]
    first|rfl|skip)
  unfold qih;exact Ev.bind hL .done
 ·have hlen:(mkd (fun i=>(⟨i,i+1⟩:qE)) 2 k a.length).length=a.length:=qqE;have hL:=hedL (Lh:=qdy (mkd (fun i=>(⟨i,i+1⟩:qE)) 2 k a.length)) (m:=a.length) (c:=2) (k:=k)
   (fun n i=>by simp only[qdy,hlen,ql (je _),cond_false])
   (fun n j hj=>by
    have e:=wS j;have i0:0≤k+((2*j:Nat):Int):=by omega
    have i1:k+((2*j:Nat):Int)≤2000000000000:=by omega
    have e0:=qwD (v:=(fun i=>(⟨i,i+1⟩:qE))) (c:=2) (k:=k) (m:=a.length) hj;generalize k+((2*j:Nat):Int)=i at i0 i1 e0 ⊢;have q1:W64 (i+1)=i+1:=qI (by omega) (by omega);have q2:W64 (i+2)=i+2:=qI (by omega) (by omega);have r1:i+1+1=i+2:=by omega
    simp only[qdy,hlen,qj hj,cond_true,e0,jd,bne_self_eq_false,BEq.rfl,jW,cond_false,e,q1,q2,r1]
    first|rfl|skip)
  unfold qie;exact Ev.bind hL .done
theorem qrP {a:List qf}{k:Int}(h0:0≤k)(h1:k≤1000000000000)(hl:a.length≤1048576):∃ y,Ev (fun n=>qfO n a k) (k+((4*a.length:Nat):Int),y)∧Ev (fun n=>qfN n y k) (k+((4*a.length:Nat):Int)):=by
 refine⟨mkd (fun i=>(⟨i,i+1,i+2,i+3⟩:qf)) 4 k a.length,?_,?_⟩
 ·have hL:=mkdL (Lf:=qcc a) 4 (fun i=>(⟨i,i+1,i+2,i+3⟩:qf)) h0 h1 hl (by decide)
   (fun n t i=>by simp only[qcc,ql (je _),cond_false])
   (fun n t i j hj ht i0 i1=>by
    have e:=wS j;have q1:W64 (i+1)=i+1:=qI (by omega) (by omega);have q2:W64 (i+2)=i+2:=qI (by omega) (by omega);have q3:W64 (i+3)=i+3:=qI (by omega) (by omega);have q4:W64 (i+4)=i+4:=qI (by omega) (by omega);have r1:i+1+1=i+2:=by omega
    have r2:i+2+1=i+3:=by omega
    have r3:i+3+1=i+4:=by omega
    simp only[qcc,qj hj,cond_true,qgq ht,jd,qoZ ht,qnA,e,q1,q2,q3,q4,r1,r2,r3]
    first|rfl|skip)
  unfold qfO;exact Ev.bind hL .done
 ·have hlen:(mkd (fun i=>(⟨i,i+1,i+2,i+3⟩:qf)) 4 k a.length).length=a.length:=qqE;have hL:=hedL (Lh:=qcd (mkd (fun i=>(⟨i,i+1,i+2,i+3⟩:qf)) 4 k a.length)) (m:=a.length) (c:=4) (k:=k)
   (fun n i=>by simp only[qcd,hlen,ql (je _),cond_false])
   (fun n j hj=>by
    have e:=wS j;have i0:0≤k+((4*j:Nat):Int):=by omega
    have i1:k+((4*j:Nat):Int)≤2000000000000:=by omega
    have e0:=qwD (v:=(fun i=>(⟨i,i+1,i+2,i+3⟩:qf))) (c:=4) (k:=k) (m:=a.length) hj;generalize k+((4*j:Nat):Int)=i at i0 i1 e0 ⊢;have q1:W64 (i+1)=i+1:=qI (by omega) (by omega);have q2:W64 (i+2)=i+2:=qI (by omega) (by omega);have q3:W64 (i+3)=i+3:=qI (by omega) (by omega);have q4:W64 (i+4)=i+4:=qI (by omega) (by omega);have r1:i+1+1=i+2:=by omega
    have r2:i+2+1=i+3:=by omega
    have r3:i+3+1=i+4:=by omega
    simp only[qcd,hlen,qj hj,cond_true,e0,jd,bne_self_eq_false,BEq.rfl,jW,cond_false,e,q1,q2,q3,q4,r1,r2,r3]
    first|rfl|skip)
  unfold qfN;exact Ev.bind hL .done
theorem qqV {a:qg}{k:Int}(h0:0≤k)(h1:k≤900000000000)(hw:qfJ a≤1048576):∃ z y,Ev (fun n=>qfj n a k) (z,y)∧Ev (fun n=>qdG n (⟨y.1,y.2⟩:qg) k) z∧k≤z:=by
 simp only[qfJ,qm0,qja] at hw;obtain⟨y0,m0,e0⟩:=qwk (a:=a.Av) (k:=k) (by omega) (by omega) (by omega);obtain⟨y1,m1,e1⟩:=qrP (a:=a.Bg) (k:=k+((2*a.Av.length:Nat):Int)) (by omega) (by omega) (by omega);refine⟨k+((2*a.Av.length:Nat):Int)+((4*a.Bg.length:Nat):Int),(y0,y1),?_,?_,by omega⟩
 ·unfold qfj;exact Ev.bind m0 (Ev.bind m1 (.done))
 ·unfold qdG;exact Ev.bind e0 (Ev.ff (by simp;omega) (Ev.bind e1 (Ev.ff (by simp;omega) (.done))))
end Go.Fw


namespace Go.Fw
open Go
set_option maxRecDepth 100000
theorem qoD {b:qd}{c:qy}{br:List Int}{a_open close period:Int}(hb:qla b)(hc:okS c.Au)(hbl:br.length≤1048576) :
  ∃ R:qg×Int,Ev (fun n=>qeW n b c br a_open close period) R∧Ev (fun n=>qdC n b c br a_open close period) R∧qfJ R.1≤1048576:=by
 obtain⟨R,⟨h1,h2⟩,hs,hi⟩:=qpd (a_open:=a_open) (close:=close) (period:=period) hb hc hbl;exact⟨R,hs,hi,by unfold qfJ qm0 qja;omega⟩
theorem qlT {b:qd}{c:qy}{br:(List Int)}{a_open:Int}{close:Int}{period:Int}(h0:qny b)(h1:qmj c)(h2:(rngL rngI) br)(h3:rngI a_open)(h4:rngI close)(h5:rngI period):Ev (fun n=>qe3 n b c br a_open close period) true:=by
 unfold qe3;refine Ev.bif (fun _=>.done) (fun hl=>?_);have hl2:br.length≤1048576:=by have:=of_decide_eq_false hl;omega
 obtain⟨r1,e1,q1⟩:=qxe (a:=b) (left:=1048576) h0 (by omega) (by omega);refine Ev.bind e1 ?_;rcases q1 with q1|⟨p1,q1⟩
 ·exact Ev.tt (by simpa using q1) .done
 refine Ev.ff (by simp;omega) ?_;obtain⟨r2,e2,q2⟩:=qwb (a:=c) (left:=r1) h1 p1 (by omega);refine Ev.bind e2 ?_;rcases q2 with q2|⟨p2,q2⟩
 ·exact Ev.tt (by simpa using q2) .done
 refine Ev.ff (by simp;omega) ?_;have w0:qgl b≤1048576:=by omega
 have k0:=qun h0 w0;have w1:qlY c≤1048576:=by omega
 have k1:=qtm h1 w1;have w2:qa1 br≤1048576:=by unfold qa1;omega
 have k2:=qes h2 w2;obtain⟨⟨R0,R1⟩,hs,hi,v0⟩:=qoD (b:=b) (c:=c) (br:=br) (a_open:=a_open) (close:=close) (period:=period) k0 k1.Au k2.len;have v0:qfJ R0≤1048576:=v0;refine Ev.bind (qoQ w0) ?_;refine Ev.bind (qpn w1) ?_;refine Ev.bind (qeI w2) ?_;refine Ev.bind hs ?_;refine Ev.bind (qoQ w0) ?_;refine Ev.bind (qeI w2) ?_;refine Ev.bind (qpn w1) ?_;refine Ev.bind hi ?_;refine Ev.bind (b:=false) (Ev.bind (qlb v0) (Ev.ff Z (Ev.now (by simp)))) (Ev.ff Z ?_);refine Ev.bind (qoQ w0) ?_;refine Ev.bind (qxb w0) (Ev.ff Z ?_);refine Ev.bind (qeI w2) ?_;refine Ev.bind (qgR w2) (Ev.ff Z ?_);obtain⟨m1,⟨x1_0,x1_1,x1_2,x1_3,x1_4⟩,mk1,ml1,mu1⟩:=qsz (a:=b) (k:=1) (by omega) (by omega) w0;refine Ev.bind mk1 ?_;obtain⟨m2,x2_0,mk2,ml2,mu2⟩:=qfI (a:=br) (k:=m1) (by omega) (by omega) w2;refine Ev.bind mk2 ?_;refine Ev.bind (b:=false) (Ev.ff (by simp;omega) (Ev.bind (qlb v0) (Ev.ff Z (Ev.now (by simp))))) (Ev.ff Z ?_);obtain⟨z1,⟨y1_0,y1_1⟩,hm1,hh1,zl1⟩:=qqV (a:=R0) (k:=1) (by omega) (by omega) v0;refine Ev.bind hm1 ?_;refine Ev.bind hh1 (Ev.ff (by simp;omega) (Ev.ff qaX ?_));refine Ev.bind (qoQ w0) ?_;refine Ev.bind (qpn w1) ?_;refine Ev.bind (qeI w2) ?_;refine Ev.bind hi ?_;refine Ev.bind (b:=false) (Ev.bind (qlb v0) (Ev.ff Z (Ev.now (by simp)))) (Ev.ff Z ?_);refine Ev.bind hh1 (Ev.ff (by simp;omega) (Ev.ff qaX ?_));exact .done
end Go.Fw


namespace Go.Fw
open Go
end Go.Fw


namespace Go.Fw
open Go
open Go.RowKit (Below)
structure Same where
 w:World
 K:Nat→Prop
instance instSame:GoT Same where
 k:=1
 agg:=false
 zero:=⟨default,fun _=>False⟩
 zc:=[.bool true]
 R w S x cs:=cs=[.bool true]∧∀ b,x.K b→S b∧w.heap[b]?=x.w.heap[b]?
 O w S x cs:=cs=[.bool true]∧∀ b,x.K b→S b∧w.heap[b]?=x.w.heap[b]?
 kpos:=by decide
 noagg _:=rfl
 len h:=by obtain⟨rfl,_⟩:=h;rfl
 one h:=by obtain⟨rfl,_⟩:=h;simp[Value.oneCell']
 loc h hs:=⟨h.1,fun b hb=>⟨(h.2 b hb).1,(hs b (h.2 b hb).1).trans (h.2 b hb).2⟩⟩
 mono h hs:=⟨h.1,fun b hb=>⟨hs b (h.2 b hb).1,(h.2 b hb).2⟩⟩
 toR h:=h
 locO h hs:=⟨h.1,fun b hb=>⟨(h.2 b hb).1,(hs b (h.2 b hb).1).trans (h.2 b hb).2⟩⟩
 monoO h hs:=⟨h.1,fun b hb=>⟨hs b (h.2 b hb).1,(h.2 b hb).2⟩⟩
 zO _ _:=⟨rfl,fun _ h=>h.elim⟩
def FS (F:List Ch)(b:Nat):Prop:=∃ d,d ∈ F∧d.S b
abbrev Fr (w0:World)(F:List Ch)(b:Nat):Prop:=FS F b∨old w0 b
abbrev same (w0 w:World)(F:List Ch):Fct:=fct (⟨w,Fr w0 F⟩:Same) [.bool true]
section
variable {P:Program}{T:Tab}{n:Nat}{Q:Exit→Act→World→Prop}{k:List It}{e:Env}{w0 w w':World}{L L' F:List Ch}
theorem SH.frame (L:List Ch)(h:SH w0 w (L++F)):SH w0 w (L++[Ch.grp (Fw.old w0) (FS F) [same w0 w F]]):=by
 have hp:=List.pairwise_append.1 h.apart;refine⟨h.below,fun c hc=>?_,fun c hc=>?_,List.pairwise_append.2 ⟨hp.1,List.pairwise_singleton ..,fun c hc d hd b hb=>?_⟩⟩
 ·rcases List.mem_append.1 hc with hc|hc
  ·exact h.holds c (jT _ hc)
  ·obtain rfl:=List.mem_singleton.1 hc;refine⟨fun f hf=>?_,fun b hb=>?_⟩
   ·obtain rfl:=List.mem_singleton.1 hf;exact⟨rfl,fun b hb=>⟨hb,rfl⟩⟩
   ·obtain⟨d,hd,hb⟩:=hb;exact(h.holds d (List.mem_append_right _ hd)).2 b hb
 ·rcases List.mem_append.1 hc with hc|hc
  ·exact h.elder c (jT _ hc)
  ·obtain rfl:=List.mem_singleton.1 hc;exact fun b hb=>hb
 ·obtain rfl:=List.mem_singleton.1 hd;rintro⟨d,hd,hdb⟩;exact hp.2.2 c hc d hd b hb hdb
variable {α:Type}[GoT α]{x:α}{cs:List Value}{S D:Nat→Prop}{fs:List Fct}
end
section
open Go.ChangeShapes Go.RowKit
variable {H:Type}{enc:TypeId×Value→H}{P:Program}{w:World}{base:Nat}{spare:Nat→Bool}{held:Bool}
theorem qtt {t0 t1 t2 t3 t4 t5:TypeId}{args:Array Value}{ds:List (DataW H)}{ps:List MemPlace}(h:DataW.TrodAll enc P w base spare held [t0,t1,t2,t3,t4,t5] args.toList ds ps) :
  ∃ v0 v1 v2 v3 v4 v5 d0 d1 d2 d3 d4 d5 p0 p1 p2 p3 p4 p5,args=#[v0,v1,v2,v3,v4,v5]∧ds=[d0,d1,d2,d3,d4,d5]∧ps=p0++p1++p2++p3++p4++p5∧DataW.Trod enc P w base spare held t0 v0 d0 p0∧DataW.Trod enc P w base spare held t1 v1 d1 p1∧DataW.Trod enc P w base spare held t2 v2 d2 p2∧DataW.Trod enc P w base spare held t3 v3 d3 p3∧DataW.Trod enc P w base spare held t4 v4 d4 p4∧DataW.Trod enc P w base spare held t5 v5 d5 p5:=by
 obtain⟨v0,vs0,d0,ds0,p0,q0,hargs,rfl,rfl,g0,k0⟩:=trodAll_cons h;obtain⟨v1,vs1,d1,ds1,p1,q1,rfl,rfl,rfl,g1,k1⟩:=trodAll_cons k0;obtain⟨v2,vs2,d2,ds2,p2,q2,rfl,rfl,rfl,g2,k2⟩:=trodAll_cons k1;obtain⟨v3,vs3,d3,ds3,p3,q3,rfl,rfl,rfl,g3,k3⟩:=trodAll_cons k2;obtain⟨v4,vs4,d4,ds4,p4,q4,rfl,rfl,rfl,g4,k4⟩:=trodAll_cons k3;obtain⟨v5,vs5,d5,ds5,p5,q5,rfl,rfl,rfl,g5,k5⟩:=trodAll_cons k4;obtain⟨rfl,rfl,rfl⟩:=trodAll_nil k5;exact⟨v0,v1,v2,v3,v4,v5,d0,d1,d2,d3,d4,d5,p0,p1,p2,p3,p4,p5,by cases args;simp_all,rfl,by simp,g0,g1,g2,g3,g4,g5⟩
end
end Go.Fw
