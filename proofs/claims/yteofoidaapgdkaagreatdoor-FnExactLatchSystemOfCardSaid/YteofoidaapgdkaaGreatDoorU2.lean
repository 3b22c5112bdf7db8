/- By a program of mine (gen.py): for each function a plain function and the proof that the code computes it. -/
import Derived.Test.YteofoidaapgdkaaGreatDoorR1
open Option renaming bind_some → jd, some → V, none → U
open Nat renaming le_refl → je, le_of_ble_eq_true → jr, mul_le_mul_right → js, lt_of_lt_of_le → jv, succ_mul → jM, zero_add → Jg
open Bool renaming and_eq_true → jf, eq_iff_iff → jj, not_eq_true' → jD, true_and → jG, not_true → jW
open Go.Result renaming andThen_ok → jg
open List renaming length_append → jh, getElem?_eq_getElem → ji, mem_cons_of_mem → jn, getElem_mem → jo, append_assoc → jp, length_singleton → jt, length_map → ju, getElem?_append_left → jw, mem_cons_self → jx, take_succ_eq_append_getElem → jy, getElem?_take → jz, length_cons → jA, getElem?_append_right → jB, getD_eq_getElem?_getD → jC, getElem?_toArray → jE, map_append → jF, take_length → jH, eq_nil_of_length_eq_zero → jK, drop_eq_getElem_cons → jL, all_eq_true → jN, not_mem_nil → jO, getElem_of_mem → jP, length_replicate → jQ, size_toArray → jR, mem_of_getElem? → jS, mem_append_left → jT, length_nil → jV, append_nil → jX, ext_getElem → jZ, mem_cons → Jb, getElem?_map → Jc, range_succ → Je, length_take → Jf
open Go.Sem renaming run_bind → jk, run_pure → jm
open Int renaming toNat_natCast → jq, tdiv_eq_ediv_of_nonneg → jJ, mul_nonneg → jU, le_refl → jY, mul_assoc → Ja, mul_le_mul → Jd
open Array renaming getElem?_append_left → jI

namespace Go.Fw
open Go Go.Proofs Go.Proofs.Tryz
open Go.RowKit (Below)
set_option maxRecDepth 100000
set_option maxHeartbeats 1600000
variable {n:Nat}{w:World}{cs1 cs2 cs3 cs4 cs5 cs6 cs7 cs8 cs9:List Value}
def qdd (a_0:qd)(a_1:qy)(a_2:(List qt))(a_3:(List Bool))(a_5:qB)(a_6:Int):Nat→Int→Int→Int→Int→Int→Bool→Int→Option (Int×Int×Int×Int×Int×Bool×Int)
 | 0,_,_,_,_,_,_,_=>U
 | n+1,i7,i8,i9,i10,i11,b4,i12=>
  bif decide (i12<(a_2.length:Int)) then
   (idx a_2 i12).bind fun y3=>
   (
    (idx a_3 i12).bind fun y16=>
    bif (!y16) then V true else
    bif (y3.To != a_6) then V true else
    (idx a_5.Bb y3.Bc).bind fun y17=>
    V (!y17)).bind fun b6=>
   bif b6 then qdd a_0 a_1 a_2 a_3 a_5 a_6 n i7 i8 i9 i10 i11 b4 (W64 (i12+1)) else
   (idx a_5.Ba y3.Bc).bind fun y4=>
   (qh1 n a_0 a_1 y3 y4).bind fun o=>match o with
    | (r2,r3)=>
     (idx a_5.Ai y3.Bc).bind fun y14=>
     (idx a_5.Ai y3.Bc).bind fun y15=>
     bif b4 then
      (qkD n (⟨W64 (y14.Ar+r2.Ar),W64 (y15.Ay+r2.Ay)⟩:qi) (⟨i8,i9⟩:qi)).bind fun r8=>
      (qkD n r3 (⟨i10,i11⟩:qi)).bind fun r9=>
      qdd a_0 a_1 a_2 a_3 a_5 a_6 n a_6 r8.Ar r8.Ay r9.Ar r9.Ay true (W64 (i12+1))
     else
      qdd a_0 a_1 a_2 a_3 a_5 a_6 n a_6 (W64 (y14.Ar+r2.Ar)) (W64 (y15.Ay+r2.Ay)) r3.Ar r3.Ay true (W64 (i12+1))
  else
   V (i7,i8,i9,i10,i11,b4,i12)
def qdf (a_4:(List qw))(a_6:Int):Nat→Int→Int→Int→Int→Int→Bool→Int→Option (Int×Int×Int×Int×Int×Bool×Int)
 | 0,_,_,_,_,_,_,_=>U
 | n+1,i1,i2,i3,i4,i5,b1,i6=>
  bif decide (i6<(a_4.length:Int)) then
   (idx a_4 i6).bind fun y1=>
   bif (y1.Bt==a_6) then
    (idx a_4 i6).bind fun y2=>
    qdf a_4 a_6 n y2.Bt y2.Ai.Ar y2.Ai.Ay y2.Ba.Ar y2.Ba.Ay true (W64 (i6+1))
   else
    qdf a_4 a_6 n i1 i2 i3 i4 i5 b1 (W64 (i6+1))
  else
   V (i1,i2,i3,i4,i5,b1,i6)
def qiQ (n:Nat)(a_0:qd)(a_1:qy)(a_2:(List qt))(a_3:(List Bool))(a_4:(List qw))(a_5:qB)(a_6:Int):Option (Bool×qw):=
 (qdf a_4 a_6 n 0 0 0 0 0 false 0).bind fun o=>match o with
 | (i1,i2,i3,i4,i5,b1,_)=>
  (qdd a_0 a_1 a_2 a_3 a_5 a_6 n i1 i2 i3 i4 i5 b1 0).bind fun o=>match o with
  | (i7,i8,i9,i10,i11,b4,_)=>
   V (b4,(⟨i7,(⟨i8,i9⟩:qi),(⟨i10,i11⟩:qi)⟩:qw))
theorem qp6 {a_0:qd}{a_1:qy}{a_2:(List qt)}{a_3:(List Bool)}{a_4:(List qw)}{a_5:qB}{a_6:Int}(ha1:Ro w a_0 cs1)(ha2:Ro w a_1 cs2)(ha3:Ro w a_2 cs3)(ha4:Ro w a_3 cs4)(ha5:Ro w a_4 cs5)(ha6:Ro w a_5 cs6){r:(Bool×qw)}(F:qiQ n a_0 a_1 a_2 a_3 a_4 a_5 a_6=V r):RetV prog 172 [GoT.v qd cs1,GoT.v qy cs2,GoT.v (List qt) cs3,GoT.v (List Bool) cs4,GoT.v (List qw) cs5,GoT.v qB cs6,.int .i64 a_6] w r:=by
 obtain⟨p1,k1,p2,k2,p3,k3,p4,k4,p5,k5,rfl,_,_,_,_,_⟩:=qM ha1;obtain rfl:=qag ha2;obtain⟨p6,k6,rfl,s6⟩:=ha3;obtain⟨p7,k7,rfl,s7⟩:=ha4;obtain⟨p8,k8,rfl,s8⟩:=ha5;obtain⟨p9,k9,p10,k10,p11,k11,rfl,s9,s10,s11⟩:=qfi ha6;refine zV 121 func172 Z fun h=>zSR (qx h Z Z fun _ bb1 h=>qx h Z Z fun _ bb2 h=>qx h Z Z fun _ bb3 h=>zp1 Z (qp qa h Z Z Z fun _ bb4 h=>X0 7 Z (r_v (qJ qa [] [] Z Z Z Z Z Z Z Z) Z (qp qa h Z Z Z fun _ bb5 h=>zs 0 h Z fun _ h=>X0 6 Z ?_))));obtain⟨o1,F,hK1⟩:=qc F;refine qn (rL (fun m e w'=>∃(i1:Int) (i2:Int) (i3:Int) (i4:Int) (i5:Int) (b1:Bool) (i6:Int),qdf a_4 a_6 m i1 i2 i3 i4 i5 b1 i6=V o1∧e=[(2,.slice p6 a_2.length k6),(3,.slice p7 a_3.length k7),(4,.slice p8 a_4.length k8),(6,.int .i64 a_6),(7,.pointer (V ⟨bb1,0,U⟩)),(8,.pointer (V ⟨bb2,0,U⟩)),(12,.pointer (V ⟨bb3,0,U⟩)),(15,.pointer (V ⟨bb4,0,U⟩)),(16,.bool b1),(17,.pointer (V ⟨bb5,0,U⟩)),(18,.int .i64 i6)]∧SH w w' [Ch.box bb5 [.int .i64 i1,.int .i64 i2,.int .i64 i3,.int .i64 i4,.int .i64 i5] 140,Ch.box bb4 [.int .i64 0,.int .i64 0,.int .i64 0,.int .i64 0,.int .i64 0] 140,Ch.box bb3 (qbd a_5 p9 p10 p11 k9 k10 k11) 57,Ch.box bb2 (qad a_1) 77,Ch.box bb1 (qT a_0 p1 p2 p3 p4 p5 k1 k2 k3 k4 k5) 53]) n ⟨_,_,_,_,_,_,_,F,rfl,h⟩ Z ?_);rintro m1 _ _ ⟨i1,i2,i3,i4,i5,b1,i6,F,rfl,h⟩;rcases m1 with _|m1
 ·cases F
 refine X0 8 Z (qh Z F ?_ ?_)<;>intro F
 ·refine X0 7 Z ?_;obtain⟨_,_,F,he1,_,_,_,_,hp1,hq1,hr1,hc2⟩:=s8.ix F;obtain rfl:=qfu hr1;refine zxe hp1 hq1 he1 Z (zp1 Z (zc 0 (hc2.below h.below) Z (X0 3 Z (qh Z F ?_ ?_))))<;>intro F
  ·refine X0 7 Z ?_;obtain⟨_,_,F,he2,_,_,_,_,hp2,hq2,hr2,hc4⟩:=s8.ix F;obtain rfl:=qfu hr2;exact zxe hp2 hq2 he2 Z (zc 0 (hc4.below h.below) Z (zs 0 h Z fun _ h=>X0 7 Z (rK ⟨_,_,_,_,_,_,_,F,rfl,h⟩ Z)))
  exact X0 7 Z (rK ⟨_,_,_,_,_,_,_,F,rfl,h⟩ Z)
 refine qq Z ?_;obtain rfl:=qb F;replace F:=hK1;refine X0 5 Z ?_;obtain⟨o2,F,hK2⟩:=qc F;refine qn (rL (fun m e w'=>∃(i7:Int) (i8:Int) (i9:Int) (i10:Int) (i11:Int) (b4:Bool) (i12:Int),qdd a_0 a_1 a_2 a_3 a_5 a_6 m i7 i8 i9 i10 i11 b4 i12=V o2∧e=[(2,.slice p6 a_2.length k6),(3,.slice p7 a_3.length k7),(6,.int .i64 a_6),(7,.pointer (V ⟨bb1,0,U⟩)),(8,.pointer (V ⟨bb2,0,U⟩)),(12,.pointer (V ⟨bb3,0,U⟩)),(15,.pointer (V ⟨bb4,0,U⟩)),(16,.bool b4),(17,.pointer (V ⟨bb5,0,U⟩)),(19,.int .i64 i12)]∧SH w w' [Ch.box bb5 [.int .i64 i7,.int .i64 i8,.int .i64 i9,.int .i64 i10,.int .i64 i11] 140,Ch.box bb4 [.int .i64 0,.int .i64 0,.int .i64 0,.int .i64 0,.int .i64 0] 140,Ch.box bb3 (qbd a_5 p9 p10 p11 k9 k10 k11) 57,Ch.box bb2 (qad a_1) 77,Ch.box bb1 (qT a_0 p1 p2 p3 p4 p5 k1 k2 k3 k4 k5) 53]) n ⟨_,_,_,_,_,_,_,F,rfl,h⟩ Z ?_);rintro m2 _ _ ⟨i7,i8,i9,i10,i11,b4,i12,F,rfl,h⟩;rcases m2 with _|m2
 ·cases F
 refine X0 8 Z (qh Z F ?_ ?_)<;>intro F
 ·refine X0 7 Z ?_;obtain⟨y3,_,F,he3,_,_,_,_,hp3,hq3,hr3,hc6⟩:=s6.ix F;obtain rfl:=qav hr3;refine zxe hp3 hq3 he3 Z (zc 0 (hc6.below h.below) Z (qp qa h Z Z Z fun _ bb6 h=>zs 0 h Z fun _ h=>zNSS ?_));obtain⟨KF3,hKF3,_,F,hK4⟩:=bindE F;refine qbe (fun e w'=>∃(b6:Bool),KF3 b6=V o2∧e=[(2,.slice p6 a_2.length k6),(3,.slice p7 a_3.length k7),(6,.int .i64 a_6),(7,.pointer (V ⟨bb1,0,U⟩)),(8,.pointer (V ⟨bb2,0,U⟩)),(12,.pointer (V ⟨bb3,0,U⟩)),(15,.pointer (V ⟨bb4,0,U⟩)),(16,.bool b4),(17,.pointer (V ⟨bb5,0,U⟩)),(19,.int .i64 i12),(20,.pointer (V ⟨bb6,0,U⟩)),(71,.bool b6)]∧SH w w' [Ch.box bb6 (qkv y3) 187,Ch.box bb5 [.int .i64 i7,.int .i64 i8,.int .i64 i9,.int .i64 i10,.int .i64 i11] 140,Ch.box bb4 [.int .i64 0,.int .i64 0,.int .i64 0,.int .i64 0,.int .i64 0] 140,Ch.box bb3 (qbd a_5 p9 p10 p11 k9 k10 k11) 57,Ch.box bb2 (qad a_1) 77,Ch.box bb1 (qT a_0 p1 p2 p3 p4 p5 k1 k2 k3 k4 k5) 53]) ?_ ?_
  ·refine X0 3 Z ?_;obtain⟨_,_,F,he16,_,_,_,_,hp16,hq16,rfl,hc22⟩:=s7.ix F;refine zxe hp16 hq16 he16 Z (zc 0 (hc22.below h.below) Z (zp2 Z (qm (t:=57) F Z ?_ ?_)))<;>intro F
   ·refine X0 15 Z ?_;obtain rfl:=qb F;exact rG ⟨_,hK4,rfl,h⟩ Z
   refine X1 10 0 h Z (qm (t:=63) F Z ?_ ?_)<;>intro F
   ·refine X0 9 Z ?_;obtain rfl:=qb F;exact rG ⟨_,hK4,rfl,h⟩ Z
   refine X2 9 3 0 h Z ?_;obtain⟨_,_,F,he17,_,_,_,_,hp17,hq17,rfl,hc23⟩:=s9.ix F;refine zxe hp17 hq17 he17 Z (X0 1 Z (zc 0 (hc23.below h.below) Z (X0 4 Z ?_)));obtain rfl:=qb F;exact rG ⟨_,hK4,rfl,h⟩ Z
  rintro _ _ ⟨b6,F,rfl,h⟩;subst hKF3;refine qh Z F ?_ ?_<;>intro F
  ·refine qq Z (X0 5 Z ?_);replace h:=h.pick [1,2,3,4,5] Z;exact rK ⟨_,_,_,_,_,_,_,F,rfl,h⟩ Z
  refine zKS (rA [] [0,3,4,5] h Z fun _ h=>M4 63 [0,1,2,3,4,5] 3 2 0 1 (h.pick [0,3,4,5] Z) Z (M1 127 [6] 0 (h.pick [0,3,4,5] Z) Z ?_));obtain⟨y4,_,F,he4,_,_,_,_,hp4,hq4,hr4,hc8⟩:=s11.ix F;obtain rfl:=qD hr4;refine Ae 7 255 hp4 hq4 he4 (h.pick [0,3,4,5] Z) Z (Al 8 511 0 hc8 (h.pick [0,3,4,5] Z) Z ?_);obtain⟨r1,hr5,F⟩:=qc F;obtain⟨r2,r3⟩:=r1;refine qnx (fun e w'=>∃(bb33:Nat) (bb34:Nat),e=[(12,.pointer (V ⟨bb3,0,U⟩)),(15,.pointer (V ⟨bb4,0,U⟩)),(16,.bool b4),(17,.pointer (V ⟨bb5,0,U⟩)),(19,.int .i64 i12),(2,.slice p6 a_2.length k6),(20,.pointer (V ⟨bb6,0,U⟩)),(21,.pointer (V ⟨bb34,0,U⟩)),(22,.pointer (V ⟨bb33,0,U⟩)),(3,.slice p7 a_3.length k7),(6,.int .i64 a_6),(7,.pointer (V ⟨bb1,0,U⟩)),(8,.pointer (V ⟨bb2,0,U⟩))]∧SH w w' [Ch.box bb33 (qi0 r3) 138,Ch.box bb34 (qi0 r2) 138,Ch.box bb6 (qkv y3) 187,Ch.box bb5 [.int .i64 i7,.int .i64 i8,.int .i64 i9,.int .i64 i10,.int .i64 i11] 140,Ch.box bb4 [.int .i64 0,.int .i64 0,.int .i64 0,.int .i64 0,.int .i64 0] 140,Ch.box bb3 (qbd a_5 p9 p10 p11 k9 k10 k11) 57,Ch.box bb2 (qad a_1) 77,Ch.box bb1 (qT a_0 p1 p2 p3 p4 p5 k1 k2 k3 k4 k5) 53]) 0 (bits 17 131071) ?_ ?_
  ·intro K;refine qqC 9 13 14 Z Z Z (bits 17 1023) (bits 17 8703) (bits 17 16895) (by kernel_rfl) (by kernel_rfl) (by kernel_rfl) (by kernel_rfl) ?_ ?_ ?_
   ·refine qa3 (r2,r3) h (cB 218 Z) (qfU (h.old ha1) (h.old ha2) (qcf y3) (qP y4) hr5) Z Z Z Z fun w67 S29 us13 hv19 hr36=>?_;obtain⟨S30,S31,cs35,us14,rfl,hv20,hr37⟩:=hv19.cons hr36;obtain rfl:=qD (hv20.sh.own 0 Z);obtain⟨cs36,rfl,h⟩:=hv20.last hr37;obtain rfl:=qD (h.own 0 Z);refine G0 8191 [10,11,12] (h.pick [2,5,6,7] Z) Z (At 13 14 16383 24575 Z ?_ ?_)
    ·refine qp qa h Z Z Z fun w68 bb31 h=>Ag (h.pick [3,6,7,8] Z) (Ao 14 32767 Z (qp qa h Z Z Z fun w69 bb32 h=>Ag (h.pick [4,7,8,9] Z) (Ao 15 65535 Z (zs 1 h Z fun w70 h=>Ag (h.pick [4,7,8,9] Z) (Ao 16 131071 Z (zs 0 h Z fun w71 h=>Ag (h.pick [4,7,8,9] Z) ?_))))));replace h:=h.pick [0,1,4,5,6,7,8,9] Z;exact qfK [(12,_),(15,_),(16,_),(17,_),(19,_),(2,_),(20,_),(21,_),(22,_),(3,_),(6,_),(7,_),(8,_)] ⟨rfl,rfl,rfl,rfl,rfl,rfl,rfl,rfl,rfl,rfl,rfl,rfl,rfl,trivial⟩ (K _ _ ⟨_,_,rfl,h⟩)
    refine qp qa h Z Z Z fun w68 bb31 h=>Ag (h.pick [3,6,7,8] Z) (Ao 13 32767 Z (qp qa h Z Z Z fun w69 bb32 h=>Ag (h.pick [4,7,8,9] Z) (Ao 15 65535 Z (zs 0 h Z fun w70 h=>Ag (h.pick [4,7,8,9] Z) (Ao 16 131071 Z (zs 1 h Z fun w71 h=>Ag (h.pick [4,7,8,9] Z) ?_))))));replace h:=h.pick [1,0,4,5,6,7,8,9] Z;exact qfK [(12,_),(15,_),(16,_),(17,_),(19,_),(2,_),(20,_),(21,_),(22,_),(3,_),(6,_),(7,_),(8,_)] ⟨rfl,rfl,rfl,rfl,rfl,rfl,rfl,rfl,rfl,rfl,rfl,rfl,rfl,trivial⟩ (K _ _ ⟨_,_,rfl,h⟩)
   ·refine qp qa h Z Z Z fun w67 bb31 h=>Ag (h.pick [1,4,5,6] Z) (At 9 14 9215 25087 Z ?_ ?_)
    ·refine qa3 (r2,r3) h (cB 218 Z) (qfU (h.old ha1) (h.old ha2) (qcf y3) (qP y4) hr5) Z Z Z Z fun w68 S29 us13 hv19 hr36=>?_;obtain⟨S30,S31,cs35,us14,rfl,hv20,hr37⟩:=hv19.cons hr36;obtain rfl:=qD (hv20.sh.own 0 Z);obtain⟨cs36,rfl,h⟩:=hv20.last hr37;obtain rfl:=qD (h.own 0 Z);refine G0 16383 [10,11,12] (h.pick [3,6,7,8] Z) Z (Ao 14 32767 Z (qp qa h Z Z Z fun w69 bb32 h=>Ag (h.pick [4,7,8,9] Z) (Ao 15 65535 Z (zs 3 h Z fun w70 h=>Ag (h.pick [4,7,8,9] Z) (Ao 16 131071 Z (zs 0 h Z fun w71 h=>Ag (h.pick [4,7,8,9] Z) ?_))))));replace h:=h.pick [0,3,4,5,6,7,8,9] Z;exact qfK [(12,_),(15,_),(16,_),(17,_),(19,_),(2,_),(20,_),(21,_),(22,_),(3,_),(6,_),(7,_),(8,_)] ⟨rfl,rfl,rfl,rfl,rfl,rfl,rfl,rfl,rfl,rfl,rfl,rfl,rfl,trivial⟩ (K _ _ ⟨_,_,rfl,h⟩)
    refine qp qa h Z Z Z fun w68 bb32 h=>Ag (h.pick [2,5,6,7] Z) (Ao 9 25599 Z (qa3 (r2,r3) h (cB 218 Z) (qfU (h.old ha1) (h.old ha2) (qcf y3) (qP y4) hr5) Z Z Z Z fun w69 S29 us13 hv19 hr36=>?_));obtain⟨S30,S31,cs35,us14,rfl,hv20,hr37⟩:=hv19.cons hr36;obtain rfl:=qD (hv20.sh.own 0 Z);obtain⟨cs36,rfl,h⟩:=hv20.last hr37;obtain rfl:=qD (h.own 0 Z);refine G0 32767 [10,11,12] (h.pick [4,7,8,9] Z) Z (Ao 15 65535 Z (zs 3 h Z fun w70 h=>Ag (h.pick [4,7,8,9] Z) (Ao 16 131071 Z (zs 2 h Z fun w71 h=>Ag (h.pick [4,7,8,9] Z) ?_))));replace h:=h.pick [2,3,4,5,6,7,8,9] Z;exact qfK [(12,_),(15,_),(16,_),(17,_),(19,_),(2,_),(20,_),(21,_),(22,_),(3,_),(6,_),(7,_),(8,_)] ⟨rfl,rfl,rfl,rfl,rfl,rfl,rfl,rfl,rfl,rfl,rfl,rfl,rfl,trivial⟩ (K _ _ ⟨_,_,rfl,h⟩)
   refine qp qa h Z Z Z fun w67 bb31 h=>Ag (h.pick [1,4,5,6] Z) (At 9 13 17407 25087 Z ?_ ?_)
   ·refine qa3 (r2,r3) h (cB 218 Z) (qfU (h.old ha1) (h.old ha2) (qcf y3) (qP y4) hr5) Z Z Z Z fun w68 S29 us13 hv19 hr36=>?_;obtain⟨S30,S31,cs35,us14,rfl,hv20,hr37⟩:=hv19.cons hr36;obtain rfl:=qD (hv20.sh.own 0 Z);obtain⟨cs36,rfl,h⟩:=hv20.last hr37;obtain rfl:=qD (h.own 0 Z);refine G0 24575 [10,11,12] (h.pick [3,6,7,8] Z) Z (Ao 13 32767 Z (qp qa h Z Z Z fun w69 bb32 h=>Ag (h.pick [4,7,8,9] Z) (Ao 15 65535 Z (zs 0 h Z fun w70 h=>Ag (h.pick [4,7,8,9] Z) (Ao 16 131071 Z (zs 3 h Z fun w71 h=>Ag (h.pick [4,7,8,9] Z) ?_))))));replace h:=h.pick [3,0,4,5,6,7,8,9] Z;exact qfK [(12,_),(15,_),(16,_),(17,_),(19,_),(2,_),(20,_),(21,_),(22,_),(3,_),(6,_),(7,_),(8,_)] ⟨rfl,rfl,rfl,rfl,rfl,rfl,rfl,rfl,rfl,rfl,rfl,rfl,rfl,trivial⟩ (K _ _ ⟨_,_,rfl,h⟩)
   refine qp qa h Z Z Z fun w68 bb32 h=>Ag (h.pick [2,5,6,7] Z) (Ao 9 25599 Z (qa3 (r2,r3) h (cB 218 Z) (qfU (h.old ha1) (h.old ha2) (qcf y3) (qP y4) hr5) Z Z Z Z fun w69 S29 us13 hv19 hr36=>?_));obtain⟨S30,S31,cs35,us14,rfl,hv20,hr37⟩:=hv19.cons hr36;obtain rfl:=qD (hv20.sh.own 0 Z);obtain⟨cs36,rfl,h⟩:=hv20.last hr37;obtain rfl:=qD (h.own 0 Z);refine G0 32767 [10,11,12] (h.pick [4,7,8,9] Z) Z (Ao 15 65535 Z (zs 2 h Z fun w70 h=>Ag (h.pick [4,7,8,9] Z) (Ao 16 131071 Z (zs 3 h Z fun w71 h=>Ag (h.pick [4,7,8,9] Z) ?_))));replace h:=h.pick [3,2,4,5,6,7,8,9] Z;exact qfK [(12,_),(15,_),(16,_),(17,_),(19,_),(2,_),(20,_),(21,_),(22,_),(3,_),(6,_),(7,_),(8,_)] ⟨rfl,rfl,rfl,rfl,rfl,rfl,rfl,rfl,rfl,rfl,rfl,rfl,rfl,trivial⟩ (K _ _ ⟨_,_,rfl,h⟩)
  rintro _ _ ⟨bb33,bb34,rfl,h⟩;refine Ad (qcQ (rA [] [1,2,5] h Z fun _ h=>M2 15 [0,1,2,3] 2 1 (h.pick [1,2,5] Z) Z ?_));obtain⟨_,_,F,he14,_,_,_,_,hp14,hq14,hr39,hc19⟩:=s10.ix F;obtain rfl:=qD hr39;refine Ae 4 31 hp14 hq14 he14 (h.pick [1,2,5] Z) Z (M0 63 [5] (h.pick [1,2,5] Z) Z (Al 6 127 0 hc19 (h.pick [1,2,5] Z) Z (M3 16383 [7,8,9,10,11,12,13] 0 2 1 (h.pick [1,2,5] Z) Z ?_)));obtain⟨_,_,F,he15,_,_,_,_,hp15,hq15,hr40,hc20⟩:=s10.ix F;obtain rfl:=qD hr40;refine Ae 14 32767 hp15 hq15 he15 (h.pick [1,2,5] Z) Z (M0 65535 [15] (h.pick [1,2,5] Z) Z (Al 16 131071 1 hc20 (h.pick [1,2,5] Z) Z (M1 1048575 [17,18,19] 0 (h.pick [1,2,5] Z) Z (Aw 20 2097151 (fun w' hw=>qJ qa [0,1] [.tmp 94,.tmp 104] Z Z Z Z Z Z Z Z) (h.pick [1,2,5] Z) Z ?_))));refine Ao 21 4194303 Z (qp qa h Z Z Z fun _ _ h=>Ag (h.pick [2,3,6] Z) (Ao 22 8388607 Z (zs 0 h Z fun _ h=>Ag (h.pick [2,3,6] Z) (Ad (X0 5 Z (qh Z F ?_ ?_))))))<;>intro F
  ·refine X2 5 0 4 h Z (zcO h F (qmO (qP _) (qP _)) Z fun _ _ _ _ h F=>?_);obtain rfl:=qD (h.own 0 Z);refine zs 1 h Z fun _ h=>X2 5 2 5 h Z (zcO h F (qmO (qP r3) (qP _)) Z fun _ _ _ _ h F=>?_);obtain rfl:=qD (h.own 0 Z);refine zs 3 h Z fun _ h=>X2 9 2 3 h Z (r_v (qJ qa [0,1,2] [.tmp 115,.tmp 116,.tmp 117] Z Z Z Z Z Z Z Z) Z (zs 6 h Z fun _ h=>X0 7 Z ?_));replace h:=h.pick [6,7,8,9,10] Z;exact rK ⟨_,_,_,_,_,_,_,F,rfl,h⟩ Z
  refine X2 9 0 1 h Z (r_v (qJ qa [0,1,2] [.tmp 115,.tmp 116,.tmp 117] Z Z Z Z Z Z Z Z) Z (zs 4 h Z fun _ h=>X0 7 Z ?_));replace h:=h.pick [4,5,6,7,8] Z;exact rK ⟨_,_,_,_,_,_,_,F,rfl,h⟩ Z
 refine qq Z ?_;obtain rfl:=qb F;replace F:=hK2;refine qcQ (rA [] [0] h Z fun _ h=>M1 7 [0,1,2] 0 (h.pick [0] Z) Z (Ao 3 15 Z (zs 1 h Z fun _ h=>Ag (h.pick [0] Z) (Ad ?_))));obtain rfl:=qb F;exact qae qa (ρ:=(Bool×qw)) [GoT.v Bool [.bool b4],GoT.v qw [.int .i64 i7,.int .i64 i8,.int .i64 i9,.int .i64 i10,.int .i64 i11]] h ⟨rfl,⟨_,_,_,rfl,rfl,h.box 1 Z,rfl⟩,trivial⟩ (PV.done h (qap h (qA (S:=fun _=>False) Z) (qaj (qA (S:=fun _=>False) (qer (⟨i7,(⟨i8,i9⟩:qi),(⟨i10,i11⟩:qi)⟩:qw)))) (by rfl)))
def qcs (a_0:qd)(a_1:qy)(a_2:(List qt))(a_3:(List Bool))(a_4:(List qw))(a_5:(List Int)):Nat→(List qi)→(List qi)→(List Bool)→Int→Option (Flow (qB×Bool) ((List qi)×(List qi)×(List Bool)×Int))
 | 0,_,_,_,_=>U
 | n+1,x1,x2,x3,i1=>
  bif decide (i1<(a_5.length:Int)) then
   (idx a_5 i1).bind fun y1=>
   (qiQ n a_0 a_1 a_2 a_3 a_4 (⟨x3,x2,x1⟩:qB) y1).bind fun o=>match o with
    | (r4,r5)=>
     bif (!r4) then qcs a_0 a_1 a_2 a_3 a_4 a_5 n x1 x2 x3 (W64 (i1+1)) else
     (qlC n (⟨r5.Ai.Ar,r5.Ai.Ay⟩:qi)).bind fun r6=>
     bif (!r6) then V (.ret ((⟨[],[],[]⟩:qB),false)) else
     (idx x3 y1).bind fun _=>
     (idx x2 y1).bind fun _=>
     (idx x1 y1).bind fun _=>
     qcs a_0 a_1 a_2 a_3 a_4 a_5 n (setS x1 y1 (⟨r5.Ba.Ar,r5.Ba.Ay⟩:qi)) (setS x2 y1 (⟨r5.Ai.Ar,r5.Ai.Ay⟩:qi)) (setS x3 y1 true) (W64 (i1+1))
  else
   V (.nxt (x1,x2,x3,i1))
def qjP (n:Nat)(a_0:qd)(a_1:qy)(a_2:(List qt))(a_3:(List Bool))(a_4:(List qw))(a_5:(List Int)):Option (qB×Bool):=
 (qh2 n a_0).bind fun r1=>
 (qlS n r1).bind fun r2=>
 (qcs a_0 a_1 a_2 a_3 a_4 a_5 n r2.Ba r2.Ai r2.Bb 0).bind fun o=>match o with
 | .ret r=>V r
 | .nxt (x1,x2,x3,_)=>
  V ((⟨x3,x2,x1⟩:qB),true)
theorem qqX {a_0:qd}{a_1:qy}{a_2:(List qt)}{a_3:(List Bool)}{a_4:(List qw)}{a_5:(List Int)}(ha1:Ro w a_0 cs1)(ha2:Ro w a_1 cs2)(ha3:Ro w a_2 cs3)(ha4:Ro w a_3 cs4)(ha5:Ro w a_4 cs5)(ha6:Ro w a_5 cs6){r:(qB×Bool)}(F:qjP n a_0 a_1 a_2 a_3 a_4 a_5=V r):RetV prog 98 [GoT.v qd cs1,GoT.v qy cs2,GoT.v (List qt) cs3,GoT.v (List Bool) cs4,GoT.v (List qw) cs5,GoT.v (List Int) cs6] w r:=by
 obtain⟨p1,k1,p2,k2,p3,k3,p4,k4,p5,k5,rfl,_,_,_,_,_⟩:=qM ha1;obtain rfl:=qag ha2;obtain⟨p6,k6,rfl,s6⟩:=ha3;obtain⟨p7,k7,rfl,s7⟩:=ha4;obtain⟨p8,k8,rfl,s8⟩:=ha5;obtain⟨p9,k9,rfl,s9⟩:=ha6;refine zV 67 func98 Z fun h=>zSR (qx h Z Z fun _ bb1 h=>qx h Z Z fun _ bb2 h=>qp qa h Z Z Z fun _ bb3 h=>X1 5 2 h Z (zcI h F (ql6 (h.old ha1)) Z fun _ _ h F=>zcO h F qpi Z fun r2 _ _ _ h F=>?_));obtain⟨p10,k10,p11,k11,p12,k12,rfl,-,-,-⟩:=qfi (h.own 0 Z);refine qp qa h Z Z Z fun _ bb4 h=>zs 0 h Z fun _ h=>X0 6 Z ?_;replace h:=h.pick [1,0,2,3,4] Z;obtain⟨S2,S3,S4,h⟩:=qn4 h;obtain⟨o1,F,hK1⟩:=qc F;refine qn (rL (fun m e w'=>∃(x1:(List qi)) (x2:(List qi)) (x3:(List Bool)) (i1:Int),qcs a_0 a_1 a_2 a_3 a_4 a_5 m x1 x2 x3 i1=V o1∧e=[(2,.slice p6 a_2.length k6),(3,.slice p7 a_3.length k7),(4,.slice p8 a_4.length k8),(5,.slice p9 a_5.length k9),(6,.pointer (V ⟨bb1,0,U⟩)),(7,.pointer (V ⟨bb2,0,U⟩)),(12,.pointer (V ⟨bb3,0,U⟩)),(14,.pointer (V ⟨bb4,0,U⟩)),(15,.int .i64 i1)]∧SH w w' [Ch.own S4 (x1:List qi) [.slice p12 r2.Ba.length k12],Ch.own S3 (x2:List qi) [.slice p11 r2.Ai.length k11],Ch.own S2 (x3:List Bool) [.slice p10 r2.Bb.length k10],Ch.box bb4 (qbd r2 p10 p11 p12 k10 k11 k12) 57,Ch.box bb3 [.slice U 0 0,.slice U 0 0,.slice U 0 0] 57,Ch.box bb2 (qad a_1) 77,Ch.box bb1 (qT a_0 p1 p2 p3 p4 p5 k1 k2 k3 k4 k5) 53]) n ⟨_,_,_,_,F,rfl,h⟩ Z ?_);rintro m1 _ _ ⟨x1,x2,x3,i1,F,rfl,h⟩;rcases m1 with _|m1
 ·cases F
 refine X0 8 Z (qh Z F ?_ ?_)<;>intro F
 ·refine X0 7 Z ?_;obtain⟨_,_,F,he1,_,_,_,_,hp1,hq1,rfl,hc2⟩:=s9.ix F;refine zxe hp1 hq1 he1 Z (zc 0 (hc2.below h.below) Z (X3 11 6 5 3 h Z ?_));obtain⟨r3,hr4,F⟩:=qc F;obtain⟨r4,r5⟩:=r3;refine qa3 (r4,r5) h (cB 172 Z) (qp6 (h.old ha1) (h.old ha2) ⟨_,_,rfl,(h.oldS s6)⟩ ⟨_,_,rfl,(h.oldS s7)⟩ ⟨_,_,rfl,(h.oldS s8)⟩ ⟨[.slice p10 r2.Bb.length k10],[.slice p11 r2.Ai.length k11,.slice p12 r2.Ba.length k12],rfl,(h.own 2 Z),⟨[.slice p11 r2.Ai.length k11],[.slice p12 r2.Ba.length k12],rfl,(h.own 1 Z),(h.own 0 Z)⟩⟩ hr4) Z Z Z Z fun _ _ _ hv1 hr5=>?_;obtain⟨_,_,rfl,hv2,hr6⟩:=hv1.consB hr5;obtain⟨_,rfl,h⟩:=hv2.last hr6;obtain rfl:=qfu (h.own 0 Z);refine zp3 Z (qp qa h Z Z Z fun _ _ h=>zp1 Z (zs 0 h Z fun _ h=>X0 7 Z (qh Z F ?_ ?_)))<;>intro F
  ·refine qq Z (X0 5 Z ?_);replace h:=h.pick [2,3,4,5,6,7,8] Z;exact rK ⟨_,_,_,_,F,rfl,h⟩ Z
  refine X1 6 0 h Z (zcB h F (qrp (qP _)) Z fun _ _ h F=>X0 2 Z (qh Z F ?_ ?_))<;>intro F
  ·refine zSR (r_v (qJ qa [] [] Z Z Z Z Z Z Z Z) Z (zs 6 h Z fun _ h=>X0 2 Z ?_));obtain rfl:=qb F;replace F:=hK1;obtain rfl:=qb F;exact qae qa (ρ:=(qB×Bool)) [GoT.v qB [.slice U 0 0,.slice U 0 0,.slice U 0 0],GoT.v Bool [.bool false]] h ⟨⟨_,_,_,rfl,rfl,h.box 6 Z,rfl⟩,rfl,trivial⟩ (PV.done h (qap h (qjn (⟨[],[],[]⟩:qB) h qb8 qb8 qb8 (by rfl) (by rfl)) (qaj (qA (S:=fun _=>False) Z)) (by rfl)))
  refine X1 6 5 h Z ?_;obtain⟨_,hy2,F,he2,_,_,_,_,hp2,hq2,rfl,hc5⟩:=(h.sl 4 Z).1.ix F;refine zx hp2 hq2 ⟨he2.1,qC he2.2.1 (h.sl 4 Z).2⟩ Z (qay qa 4 0 true h Z hy2 hp2 hq2 Z hc5 Z Z Z Z Z Z Z fun _ h=>X2 8 5 0 h Z ?_);obtain⟨y3,hy3,F,he3,_,_,_,_,hp3,hq3,hr10,hc6⟩:=(h.sl 3 Z).1.ix F;obtain rfl:=qD hr10;refine zx hp3 hq3 ⟨he3.1,qC he3.2.1 (h.sl 3 Z).2⟩ Z (qay qa 3 0 (⟨r5.Ai.Ar,r5.Ai.Ay⟩:qi) h Z hy3 hp3 hq3 (qP y3) hc6 Z Z Z (qP (⟨r5.Ai.Ar,r5.Ai.Ay⟩:qi)) Z Z Z fun _ h=>X2 7 5 0 h Z ?_);obtain⟨y4,hy4,F,he4,_,_,_,_,hp4,hq4,hr11,hc7⟩:=(h.sl 2 Z).1.ix F;obtain rfl:=qD hr11;refine zx hp4 hq4 ⟨he4.1,qC he4.2.1 (h.sl 2 Z).2⟩ Z (qay qa 2 0 (⟨r5.Ba.Ar,r5.Ba.Ay⟩:qi) h Z hy4 hp4 hq4 (qP y4) hc7 Z Z Z (qP (⟨r5.Ba.Ar,r5.Ba.Ay⟩:qi)) Z Z Z fun _ h=>X0 7 Z ?_);replace h:=h.pick [2,3,4,5,6,7,8] Z;exact rK ⟨_,_,_,_,F,rfl,h⟩ Z
 refine qq Z ?_;obtain rfl:=qb F;replace F:=hK1;refine X1 3 3 h Z (zs 4 h Z fun _ h=>X0 2 Z ?_);obtain rfl:=qb F;exact qae qa (ρ:=(qB×Bool)) [GoT.v qB (qbd r2 p10 p11 p12 k10 k11 k12),GoT.v Bool [.bool true]] h ⟨⟨_,_,_,rfl,rfl,h.box 4 Z,rfl⟩,rfl,trivial⟩ (PV.done h (qap h (qjn (⟨x3,x2,x1⟩:qB) h (qaA 2 h Z) (qaA 1 h Z) (qaA 0 h Z) (by rfl) (by rfl)) (qaj (qA (S:=fun _=>False) Z)) (by rfl)))
def qhV (n:Nat)(v:(Option Tview)):Option qB:=
 (qe9 n v).bind fun r1=>
 (mkS r1 (false:Bool)).bind fun x1=>
 (mkS r1 ((⟨0,0⟩:qi):qi)).bind fun x2=>
 (mkS r1 ((⟨0,0⟩:qi):qi)).bind fun x3=>
 V (⟨x1,x2,x3⟩:qB)
theorem qmH {v:(Option Tview)}(ha1:Ro w v cs1){r:qB}(F:qhV n v=V r):RetV prog 156 [GoT.v (Option Tview) cs1] w r:=by
 obtain⟨_,rfl,s1⟩:=qct ha1;refine zV 13 func156 Z fun h=>zSR (qp qa h Z Z Z fun _ bb1 h=>X0 4 Z (zcI h F (qkX (h.old s1)) Z fun _ _ h F=>X0 3 Z (rA [] [] h Z fun _ h=>M0 21 [0,2,4] (h.pick [] Z) Z ?_)));obtain⟨x1,hx1,F⟩:=qc F;obtain⟨x2,hx2,F⟩:=qc F;obtain⟨x3,hx3,F⟩:=qc F;refine qnx (fun e w'=>∃(S13:Nat→Prop) (p14:Option Addr) (S14:Nat→Prop) (p15:Option Addr) (S15:Nat→Prop) (p16:Option Addr),e=[(2,.pointer (V ⟨bb1,0,U⟩))]∧SH w w' [Ch.own S13 (x3:List qi) [.slice p14 x3.length x3.length],Ch.own S14 (x2:List qi) [.slice p15 x2.length x2.length],Ch.own S15 (x1:List Bool) [.slice p16 x1.length x1.length],Ch.box bb1 [.slice p16 x1.length x1.length,.slice p15 x2.length x2.length,.slice p14 x3.length x3.length] 57]) 0 (bits 8 255) ?_ ?_
 ·intro K;refine qqC 1 3 5 Z Z Z (bits 8 23) (bits 8 29) (bits 8 53) (by kernel_rfl) (by kernel_rfl) (by kernel_rfl) (by kernel_rfl) ?_ ?_ ?_
  ·obtain⟨g13,g14,hx1⟩:=qac hx1;refine qaw qa Bool h Z Z Z Z Z Z Z Z Z g13 g14 hx1 Z fun w13 S10 p11 h=>Ag (h.pick [] Z) (At 3 5 31 55 Z ?_ ?_)
   ·obtain⟨g15,g16,hx2⟩:=qac hx2;refine qaw qa qi h Z Z Z Z Z Z Z Z Z g15 g16 hx2 Z fun w14 S11 p12 h=>Ag (h.pick [] Z) (Ao 5 63 Z ?_);obtain⟨g17,g18,hx3⟩:=qac hx3;refine qaw qa qi h Z Z Z Z Z Z Z Z Z g17 g18 hx3 Z fun w15 S12 p13 h=>Ag (h.pick [] Z) (Aw 6 127 (fun w' hw=>qJ qa [0,1,2] [.tmp 7,.tmp 9,.tmp 11] Z Z Z Z Z Z Z Z) (h.pick [] Z) Z ?_);exact Ao 7 255 Z (zs 3 h Z fun w16 h=>Ag (h.pick [] Z) (qfK [(2,_)] ⟨rfl,trivial⟩ (K _ _ ⟨_,_,_,_,_,_,rfl,h⟩)))
   obtain⟨g15,g16,hx3⟩:=qac hx3;refine qaw qa qi h Z Z Z Z Z Z Z Z Z g15 g16 hx3 Z fun w14 S11 p12 h=>Ag (h.pick [] Z) (Ao 3 63 Z ?_);obtain⟨g17,g18,hx2⟩:=qac hx2;refine qaw qa qi h Z Z Z Z Z Z Z Z Z g17 g18 hx2 Z fun w15 S12 p13 h=>Ag (h.pick [] Z) (Aw 6 127 (fun w' hw=>qJ qa [0,1,2] [.tmp 7,.tmp 9,.tmp 11] Z Z Z Z Z Z Z Z) (h.pick [] Z) Z ?_);refine Ao 7 255 Z (zs 3 h Z fun w16 h=>Ag (h.pick [] Z) ?_);replace h:=h.pick [1,0,2,3] Z;exact qfK [(2,_)] ⟨rfl,trivial⟩ (K _ _ ⟨_,_,_,_,_,_,rfl,h⟩)
  ·obtain⟨g13,g14,hx2⟩:=qac hx2;refine qaw qa qi h Z Z Z Z Z Z Z Z Z g13 g14 hx2 Z fun w13 S10 p11 h=>Ag (h.pick [] Z) (At 1 5 31 61 Z ?_ ?_)
   ·obtain⟨g15,g16,hx1⟩:=qac hx1;refine qaw qa Bool h Z Z Z Z Z Z Z Z Z g15 g16 hx1 Z fun w14 S11 p12 h=>Ag (h.pick [] Z) (Ao 5 63 Z ?_);obtain⟨g17,g18,hx3⟩:=qac hx3;refine qaw qa qi h Z Z Z Z Z Z Z Z Z g17 g18 hx3 Z fun w15 S12 p13 h=>Ag (h.pick [] Z) (Aw 6 127 (fun w' hw=>qJ qa [0,1,2] [.tmp 7,.tmp 9,.tmp 11] Z Z Z Z Z Z Z Z) (h.pick [] Z) Z ?_);refine Ao 7 255 Z (zs 3 h Z fun w16 h=>Ag (h.pick [] Z) ?_);replace h:=h.pick [0,2,1,3] Z;exact qfK [(2,_)] ⟨rfl,trivial⟩ (K _ _ ⟨_,_,_,_,_,_,rfl,h⟩)
   obtain⟨g15,g16,hx3⟩:=qac hx3;refine qaw qa qi h Z Z Z Z Z Z Z Z Z g15 g16 hx3 Z fun w14 S11 p12 h=>Ag (h.pick [] Z) (Ao 1 63 Z ?_);obtain⟨g17,g18,hx1⟩:=qac hx1;refine qaw qa Bool h Z Z Z Z Z Z Z Z Z g17 g18 hx1 Z fun w15 S12 p13 h=>Ag (h.pick [] Z) (Aw 6 127 (fun w' hw=>qJ qa [0,1,2] [.tmp 7,.tmp 9,.tmp 11] Z Z Z Z Z Z Z Z) (h.pick [] Z) Z ?_);refine Ao 7 255 Z (zs 3 h Z fun w16 h=>Ag (h.pick [] Z) ?_);replace h:=h.pick [1,2,0,3] Z;exact qfK [(2,_)] ⟨rfl,trivial⟩ (K _ _ ⟨_,_,_,_,_,_,rfl,h⟩)
  obtain⟨g13,g14,hx3⟩:=qac hx3;refine qaw qa qi h Z Z Z Z Z Z Z Z Z g13 g14 hx3 Z fun w13 S10 p11 h=>Ag (h.pick [] Z) (At 1 3 55 61 Z ?_ ?_)
  ·obtain⟨g15,g16,hx1⟩:=qac hx1;refine qaw qa Bool h Z Z Z Z Z Z Z Z Z g15 g16 hx1 Z fun w14 S11 p12 h=>Ag (h.pick [] Z) (Ao 3 63 Z ?_);obtain⟨g17,g18,hx2⟩:=qac hx2;refine qaw qa qi h Z Z Z Z Z Z Z Z Z g17 g18 hx2 Z fun w15 S12 p13 h=>Ag (h.pick [] Z) (Aw 6 127 (fun w' hw=>qJ qa [0,1,2] [.tmp 7,.tmp 9,.tmp 11] Z Z Z Z Z Z Z Z) (h.pick [] Z) Z ?_);refine Ao 7 255 Z (zs 3 h Z fun w16 h=>Ag (h.pick [] Z) ?_);replace h:=h.pick [2,0,1,3] Z;exact qfK [(2,_)] ⟨rfl,trivial⟩ (K _ _ ⟨_,_,_,_,_,_,rfl,h⟩)
  obtain⟨g15,g16,hx2⟩:=qac hx2;refine qaw qa qi h Z Z Z Z Z Z Z Z Z g15 g16 hx2 Z fun w14 S11 p12 h=>Ag (h.pick [] Z) (Ao 1 63 Z ?_);obtain⟨g17,g18,hx1⟩:=qac hx1;refine qaw qa Bool h Z Z Z Z Z Z Z Z Z g17 g18 hx1 Z fun w15 S12 p13 h=>Ag (h.pick [] Z) (Aw 6 127 (fun w' hw=>qJ qa [0,1,2] [.tmp 7,.tmp 9,.tmp 11] Z Z Z Z Z Z Z Z) (h.pick [] Z) Z ?_);refine Ao 7 255 Z (zs 3 h Z fun w16 h=>Ag (h.pick [] Z) ?_);replace h:=h.pick [2,1,0,3] Z;exact qfK [(2,_)] ⟨rfl,trivial⟩ (K _ _ ⟨_,_,_,_,_,_,rfl,h⟩)
 rintro _ _ ⟨S13,p14,S14,p15,S15,p16,rfl,h⟩;refine Ad ?_;obtain rfl:=qb F;exact qae qa (ρ:=qB) [GoT.v qB [.slice p16 x1.length x1.length,.slice p15 x2.length x2.length,.slice p14 x3.length x3.length]] h ⟨⟨_,_,_,rfl,rfl,h.box 3 Z,rfl⟩,trivial⟩ (PV.done h (qaj (qjn (⟨x1,x2,x3⟩:qB) h (qaA 2 h Z) (qaA 1 h Z) (qaA 0 h Z) (by rfl) (by rfl))))
def qkf (_:Nat)(s:qw)(v0:Int):Option Bool:=
 V (s.Bt==v0)
theorem qn5 {s:qw}{v0:Int}(ha1:Ro w s cs1){p1:Option Addr}(ha2:Ro w (V v0) [.pointer p1]){r:Bool}(F:qkf n s v0=V r):RetV prog 261 [GoT.v qw cs1,.pointer p1] w r:=by
 obtain rfl:=qfu ha1;obtain⟨_,o_1,_,rfl,-,hr1,hc1⟩:=PtR.get ha2 Z;obtain rfl:=hr1;exact zV 8 func261 Z fun h=>zSR (qx h Z Z fun _ _ h=>X1 6 0 h Z (zc 0 (hc1.below h.below) Z (X0 3 Z (rb h F Z))))
def qZ (s:(List qw))(f_0:Int):Nat→Int→Option (Flow Int Int)
 | 0,_=>U
 | n+1,i1=>
  bif decide (i1<(s.length:Int)) then
   (idx s i1).bind fun y1=>
   (qkf n y1 f_0).bind fun r1=>
   bif r1 then V (.ret i1) else
   qZ s f_0 n (W64 (i1+1))
  else
   V (.nxt i1)
def qaK (n:Nat)(s:(List qw))(f_0:Int):Option Int:=
 (qZ s f_0 n 0).bind fun o=>match o with
 | .ret r=>V r
 | .nxt _=>
  V (-1)
theorem qfB {s:(List qw)}{f_0:Int}(ha1:Ro w s cs1){p2:Option Addr}(ha2:Ro w (V f_0) [.pointer p2]){r:Int}(F:qaK n s f_0=V r):RetV prog 260 [GoT.v (List qw) cs1,.func (.func 261) #[] #[.pointer p2]] w r:=by
 obtain⟨p1,k1,rfl,s1⟩:=ha1;obtain⟨b1,o_1,_,rfl,-,hr1,_⟩:=PtR.get ha2 Z;obtain rfl:=hr1;refine zV 19 func260 Z fun h=>X0 11 Z ?_;obtain⟨o1,F,hK1⟩:=qc F;refine qn (rL (fun m e w'=>∃(i1:Int),qZ s f_0 m i1=V o1∧e=[(0,.slice p1 s.length k1),(1,.func (.func 261) #[] #[.pointer (V ⟨b1,o_1,U⟩)]),(7,.int .i64 (s.length:Int)),(8,.int .i64 i1)]∧SH w w' []) n ⟨_,F,rfl,h⟩ Z ?_);rintro m1 _ _ ⟨i1,F,rfl,h⟩;rcases m1 with _|m1
 ·cases F
 refine X0 5 Z (qh Z F ?_ ?_)<;>intro F
 ·refine X0 13 Z ?_;obtain⟨y1,_,F,he1,_,_,_,_,hp1,hq1,hr2,hc3⟩:=s1.ix F;obtain rfl:=qfu hr2;refine zxe hp1 hq1 he1 Z (zc 0 (hc3.below h.below) Z (zcB h F (qn5 (qer y1) (h.old ha2)) Z fun _ _ h F=>qcP (qh Z F ?_ ?_)))<;>intro F
  ·refine X0 5 Z ?_;obtain rfl:=qb F;replace F:=hK1;exact ri h F Z
  exact X0 6 Z (rK ⟨_,F,rfl,h⟩ Z)
 refine qq Z ?_;obtain rfl:=qb F;replace F:=hK1;exact X0 4 Z (ri h F Z)
def qjx (n:Nat)(list:(List qw))(node:Int):Option (qw×Bool):=
 (qaK n list node).bind fun r1=>
 bif decide (r1 ≥ 0) then
  (idx list r1).bind fun y1=>
  V (y1,true)
 else
  V ((⟨0,(⟨0,0⟩:qi),(⟨0,0⟩:qi)⟩:qw),false)
theorem qo9 {list:(List qw)}{node:Int}(ha1:Ro w list cs1){r:(qw×Bool)}(F:qjx n list node=V r):RetV prog 221 [GoT.v (List qw) cs1,.int .i64 node] w r:=by
 obtain⟨_,_,rfl,s1⟩:=ha1;refine zV 17 func221 Z fun h=>zSR (qx h Z Z fun _ _ h=>qp qa h Z Z Z fun _ _ h=>X0 7 Z (zcI h F (qfB ⟨_,_,rfl,(h.oldS s1)⟩ (qeb (x:=node) 1 h Z Z)) Z fun _ _ h F=>X0 7 Z (qh Z F ?_ ?_)))<;>intro F
 ·refine X0 4 Z ?_;obtain⟨y1,_,F,he1,_,_,_,_,hp1,hq1,hr2,hc2⟩:=s1.ix F;obtain rfl:=qfu hr2;refine zxe hp1 hq1 he1 Z (zc 0 (hc2.below h.below) Z (zs 0 h Z fun _ h=>X0 2 Z ?_));obtain rfl:=qb F;exact qae qa (ρ:=(qw×Bool)) [GoT.v qw (qgf y1),GoT.v Bool [.bool true]] h ⟨⟨_,_,_,rfl,rfl,h.box 0 Z,rfl⟩,rfl,trivial⟩ (PV.done h (qap h (qA (S:=fun _=>False) (qer y1)) (qaj (qA (S:=fun _=>False) Z)) (by rfl)))
 refine zKSR (r_v (qJ qa [] [] Z Z Z Z Z Z Z Z) Z (zs 0 h Z fun _ h=>X0 2 Z ?_));obtain rfl:=qb F;exact qae qa (ρ:=(qw×Bool)) [GoT.v qw [.int .i64 0,.int .i64 0,.int .i64 0,.int .i64 0,.int .i64 0],GoT.v Bool [.bool false]] h ⟨⟨_,_,_,rfl,rfl,h.box 0 Z,rfl⟩,rfl,trivial⟩ (PV.done h (qap h (qA (S:=fun _=>False) (qer (⟨0,(⟨0,0⟩:qi),(⟨0,0⟩:qi)⟩:qw))) (qaj (qA (S:=fun _=>False) Z)) (by rfl)))
def qhz (_:Nat)(s:qi)(t:qi):Option qi:=
 V (⟨(if t.Ar<s.Ar then t.Ar else s.Ar),(if t.Ay > s.Ay then t.Ay else s.Ay)⟩:qi)
theorem qdR {s:qi}{t:qi}(ha1:Ro w s cs1)(ha2:Ro w t cs2){r:qi}(F:qhz n s t=V r):RetV prog 262 [GoT.v qi cs1,GoT.v qi cs2] w r:=by
 obtain rfl:=qD ha1;obtain rfl:=qD ha2;refine zV 16 func262 Z fun h=>zSR (qx h Z Z fun _ _ h=>qx h Z Z fun _ _ h=>qp qa h Z Z Z fun _ _ h=>X4 13 2 1 2 1 h Z (r_v (qJ qa [0,1] [.tmp 9,.tmp 14] Z Z Z Z Z Z Z Z) Z (zs 0 h Z fun _ h=>qcP ?_)));obtain rfl:=qb F;exact qae qa (ρ:=qi) [GoT.v qi [.int .i64 (if t.Ar<s.Ar then t.Ar else s.Ar),.int .i64 (if t.Ay > s.Ay then t.Ay else s.Ay)]] h ⟨⟨_,_,_,rfl,rfl,h.box 0 Z,rfl⟩,trivial⟩ (PV.done h (qaj (qA (S:=fun _=>False) (qP (⟨(if t.Ar<s.Ar then t.Ar else s.Ar),(if t.Ay > s.Ay then t.Ay else s.Ay)⟩:qi)))))
def qdt (n:Nat)(s:qw)(reached:Bool)(arrival:qi)(slew:qi):Option (qw×Bool):=
 bif (!reached) then V ((⟨s.Bt,(⟨arrival.Ar,arrival.Ay⟩:qi),(⟨slew.Ar,slew.Ay⟩:qi)⟩:qw),true) else
 (qhz n (⟨s.Ai.Ar,s.Ai.Ay⟩:qi) arrival).bind fun r1=>
 (qhz n (⟨s.Ba.Ar,s.Ba.Ay⟩:qi) slew).bind fun r2=>
 V ((⟨s.Bt,(⟨r1.Ar,r1.Ay⟩:qi),(⟨r2.Ar,r2.Ay⟩:qi)⟩:qw),reached)
theorem qhA {n:Nat}{w0 w:World}{F:List Ch}{bb1:Nat}{s:qw}{bb2:Nat}{reached:Bool}{arrival:qi}{slew:qi}(h:SH w0 w (Ch.box bb2 [.bool reached] 4::Ch.box bb1 (qgf s) 140::F)){r:(qw×Bool)}(hF:qdt n s reached arrival slew=V r):RetU prog 222 [.pointer (V ⟨bb1,0,U⟩),.pointer (V ⟨bb2,0,U⟩),.agg #[.int .i64 arrival.Ar,.int .i64 arrival.Ay],.agg #[.int .i64 slew.Ar,.int .i64 slew.Ay]] w (fun w'=>SH w0 w' (Ch.box bb2 [.bool r.2] 4::Ch.box bb1 (qgf r.1) 140::F)):=by
 refine qtu func222 Z (m:=40) Z Z (zSR (qx h Z Z fun _ _ h=>qx h Z Z fun _ _ h=>X1 9 2 h Z (qh Z hF ?_ ?_)))<;>intro hF
 ·refine qcQ (rA [] [0,1] h Z fun _ h=>M2 63 [0,1,2,3,4,5] 1 0 (h.pick [0,1] Z) Z (Ao 6 127 Z (zs 2 h Z fun _ h=>G0 511 [7,8] (h.pick [0,1] Z) Z (Ao 9 1023 Z (zs 3 h Z fun _ h=>G0 4095 [10,11] (h.pick [0,1] Z) Z (Ao 12 8191 Z (zs 3 h Z fun _ h=>Ag (h.pick [0,1] Z) (Ad ?_))))))));obtain rfl:=qb hF;replace h:=h.pickT 4 [2,3] Z;exact qzH qa h trivial
 refine qio ?_;obtain⟨r1,hr1,hF⟩:=qc hF;obtain⟨r2,hr2,hF⟩:=qc hF;refine qbe (fun e w'=>e=[]∧SH w0 w' (Ch.box bb2 [.bool reached] 4::Ch.box bb1 [.int .i64 s.Bt,.int .i64 r1.Ar,.int .i64 r1.Ay,.int .i64 r2.Ar,.int .i64 r2.Ay] 140::F)) ?_ ?_
 ·refine rA [] [0,1] h Z fun _ h=>M2 5983 [0,1,2,3,4,6,8,9,10,12] 1 0 (h.pick [0,1] Z) Z (At 5 11 6015 8031 Z ?_ ?_)
  ·refine zl 3 1 h Z (Ag (h.pick [0,1] Z) (At 7 11 6143 8063 Z ?_ ?_))
   ·refine qek r1 h (cB 262 Z) (qdR (qP _) (qP arrival) hr1) Z Z Z Z fun _ _ _ h=>?_;obtain rfl:=qD (h.own 0 Z);refine Ag (h.pick [1,2] Z) (Ao 11 8191 Z (zl 4 3 h Z (Ag (h.pick [1,2] Z) (Ao 13 16383 Z (qek r2 h (cB 262 Z) (qdR (qP _) (qP slew) hr2) Z Z Z Z fun _ _ _ h=>?_)))));obtain rfl:=qD (h.own 0 Z);refine G0 65535 [14,15] (h.pick [2,3] Z) Z (Ao 16 131071 Z (zs 5 h Z fun _ h=>G0 524287 [17,18] (h.pick [2,3] Z) Z (Ao 19 1048575 Z (zs 5 h Z fun _ h=>Ag (h.pick [2,3] Z) (Ad ?_)))));replace h:=h.pickT 6 [4,5] Z;exact rG ⟨rfl,h⟩ Z
   refine zl 3 3 h Z (Ag (h.pick [0,1] Z) (Ao 7 8191 Z (qek r1 h (cB 262 Z) (qdR (qP _) (qP arrival) hr1) Z Z Z Z fun _ _ _ h=>?_)));obtain rfl:=qD (h.own 0 Z);refine Ag (h.pick [1,2] Z) (Ao 13 16383 Z (qek r2 h (cB 262 Z) (qdR (qP _) (qP slew) hr2) Z Z Z Z fun _ _ _ h=>?_));obtain rfl:=qD (h.own 0 Z);refine G0 65535 [14,15] (h.pick [2,3] Z) Z (Ao 16 131071 Z (zs 5 h Z fun _ h=>G0 524287 [17,18] (h.pick [2,3] Z) Z (Ao 19 1048575 Z (zs 5 h Z fun _ h=>Ag (h.pick [2,3] Z) (Ad ?_)))));replace h:=h.pickT 6 [4,5] Z;exact rG ⟨rfl,h⟩ Z
  refine zl 3 3 h Z (Ag (h.pick [0,1] Z) (Ao 5 8063 Z (zl 3 1 h Z (Ag (h.pick [0,1] Z) (Ao 7 8191 Z (qek r1 h (cB 262 Z) (qdR (qP _) (qP arrival) hr1) Z Z Z Z fun _ _ _ h=>?_))))));obtain rfl:=qD (h.own 0 Z);refine Ag (h.pick [1,2] Z) (Ao 13 16383 Z (qek r2 h (cB 262 Z) (qdR (qP _) (qP slew) hr2) Z Z Z Z fun _ _ _ h=>?_));obtain rfl:=qD (h.own 0 Z);refine G0 65535 [14,15] (h.pick [2,3] Z) Z (Ao 16 131071 Z (zs 5 h Z fun _ h=>G0 524287 [17,18] (h.pick [2,3] Z) Z (Ao 19 1048575 Z (zs 5 h Z fun _ h=>Ag (h.pick [2,3] Z) (Ad ?_)))));replace h:=h.pickT 6 [4,5] Z;exact rG ⟨rfl,h⟩ Z
 rintro _ _ ⟨rfl,h⟩;obtain rfl:=qb hF;exact qzI qa h trivial
def qka (_:Nat)(l:qt)(v0:Int):Option Bool:=
 V (l.To==v0)
theorem qn6 {l:qt}{v0:Int}(ha1:Ro w l cs1){p1:Option Addr}(ha2:Ro w (V v0) [.pointer p1]){r:Bool}(F:qka n l v0=V r):RetV prog 263 [GoT.v qt cs1,.pointer p1] w r:=by
 obtain rfl:=qav ha1;obtain⟨_,o_1,_,rfl,-,hr1,hc1⟩:=PtR.get ha2 Z;obtain rfl:=hr1;exact zV 8 func263 Z fun h=>zSR (qx h Z Z fun _ _ h=>X1 6 0 h Z (zc 0 (hc1.below h.below) Z (X0 3 Z (rb h F Z))))
def qR (is_0:Int)(y1:Tgraph)(y2:Tview):Nat→(List Int)→Int→Option ((List Int)×Int)
 | 0,_,_=>U
 | n+1,x1,i1=>
  bif decide (i1<(y2.links.length:Int)) then
   (idx y2.links i1).bind fun y3=>
   (idx y1.live i1).bind fun y4=>
   bif y4 then
    (qka n y3 is_0).bind fun r1=>
    bif r1 then
     (appS x1 ([i1]:List Int)).bind fun x2=>
     qR is_0 y1 y2 n x2 (W64 (i1+1))
    else
     qR is_0 y1 y2 n x1 (W64 (i1+1))
   else
    qR is_0 y1 y2 n x1 (W64 (i1+1))
  else
   V (x1,i1)
def qcN (n:Nat)(g:(Option Tgraph))(is_0:Int):Option (List Int):=
 (g).bind fun y1=>
 (y1.view).bind fun y2=>
 (qR is_0 y1 y2 n ([]:List Int) 0).bind fun o=>match o with
 | (x1,_)=>
  V x1
theorem qhW {g:(Option Tgraph)}{is_0:Int}(ha1:Ro w g cs1){p2:Option Addr}(ha2:Ro w (V is_0) [.pointer p2]){r:(List Int)}(F:qcN n g is_0=V r):RetV prog 184 [GoT.v (Option Tgraph) cs1,.func (.func 263) #[] #[.pointer p2]] w r:=by
 obtain⟨_,rfl,s1⟩:=qct ha1;obtain⟨b1,o_1,_,rfl,-,hr1,_⟩:=PtR.get ha2 Z;obtain rfl:=hr1;refine zV 39 func184 Z fun h=>X0 12 Z ?_;obtain⟨y1,hy1,F⟩:=qc F;obtain⟨b2,o_2,_,rfl,-,hr2,hc2⟩:=PtR.get s1 hy1;obtain⟨_,_,_,rfl,s2,s3⟩:=qhg hr2;refine zp2 Z (zc 0 (hc2.below h.below) Z ?_);obtain⟨y2,hy2,F⟩:=qc F;obtain⟨_,o_3,_,rfl,-,hr3,hc3⟩:=PtR.get s2 hy2;obtain⟨_,_,_,_,_,_,_,_,_,_,_,_,p11,k8,_,_,_,_,_,_,rfl,_,_,_,_,_,_,s10,_,_,_⟩:=qb3 hr3;refine zp2 Z (zc 6 (hc3.below h.below) Z (X0 3 Z ?_));replace h:=h.nil (α:=Int);obtain⟨o1,F,hK1⟩:=qc F;refine qn (rL (fun m e w'=>∃(S1:Nat→Prop) (p15:Option Addr) (ln1:Nat) (k12:Nat) (x1:(List Int)) (i1:Int),qR is_0 y1 y2 m x1 i1=V o1∧e=[(0,.pointer (V ⟨b2,o_2,U⟩)),(1,.func (.func 263) #[] #[.pointer (V ⟨b1,o_1,U⟩)]),(5,.slice p15 ln1 k12),(14,.slice p11 y2.links.length k8),(15,.int .i64 (y2.links.length:Int)),(16,.int .i64 i1)]∧SH w w' [Ch.own S1 (x1:List Int) [.slice p15 ln1 k12]]) n ⟨_,_,_,_,_,_,F,rfl,h⟩ Z ?_);rintro m1 _ _ ⟨S1,p15,ln1,k12,x1,i1,F,rfl,h⟩;obtain rfl:=(h.sl 0 Z).2;rcases m1 with _|m1
 ·cases F
 refine X0 5 Z (qh Z F ?_ ?_)<;>intro F
 ·refine X0 6 Z ?_;obtain⟨y3,_,F,he1,_,_,_,_,hp1,hq1,hr4,hc5⟩:=s10.ix F;obtain rfl:=qav hr4;refine zxe hp1 hq1 he1 Z (zc 0 (hc5.below h.below) Z (qp qa h Z Z Z fun _ _ h=>zp1 Z (zs 0 h Z fun _ h=>X0 6 Z (zc 1 (hc2.below h.below) Z (zp1 Z ?_)))));obtain⟨_,_,F,he2,_,_,_,_,hp2,hq2,rfl,hc6⟩:=s3.ix F;refine zxe hp2 hq2 he2 Z (zc 0 (hc6.below h.below) Z (zp1 Z (qm (t:=28) F Z ?_ ?_)))<;>intro F
  ·refine X1 5 0 h Z (zcB h F (qn6 (qcf y3) (h.old ha2)) Z fun _ _ h F=>X0 2 Z (qh Z F ?_ ?_))<;>intro F
   ·refine X0 3 Z (qK qa [.tmp 34] _ ([i1]:List Int) h Z Z Z Z Z Z Z Z Z ⟨rfl,trivial⟩ Z fun _ _ _ h=>?_);obtain⟨_,hx1,F⟩:=qc F;obtain⟨g1,hx1⟩:=qan hx1;refine qbW qa 2 h Z (h.sl 0 Z).1 (h.sl 0 Z).2 Z Z Z Z Z Z Z Z Z g1 hx1 Z fun _ _ _ _ h=>X0 7 Z ?_;replace h:=h.pick [2] Z;exact rK ⟨_,_,_,_,_,_,F,rfl,h⟩ Z
   refine X0 6 Z ?_;replace h:=h.pick [1] Z;exact rK ⟨_,_,_,_,_,_,F,rfl,h⟩ Z
  refine X0 5 Z (qdi Z Z (X0 6 Z ?_));replace h:=h.pick [1] Z;exact rK ⟨_,_,_,_,_,_,F,rfl,h⟩ Z
 refine qq Z ?_;obtain rfl:=qb F;replace F:=hK1;refine X0 5 Z ?_;obtain rfl:=qb F;exact rO 0 h Z ⟨rfl,trivial⟩
def qjA (n:Nat)(g:(Option Tgraph))(node:Int):Option (List Int):=
 (qcN n g node).bind fun r1=>
 V r1
theorem qpa {g:(Option Tgraph)}{node:Int}(ha1:Ro w g cs1){r:(List Int)}(F:qjA n g node=V r):RetV prog 223 [GoT.v (Option Tgraph) cs1,.int .i64 node] w r:=by
 obtain⟨_,rfl,s1⟩:=qct ha1;refine zV 8 func223 Z fun h=>zSR (qx h Z Z fun _ _ h=>X0 6 Z (zcL h F (qhW (h.old s1) (qeb (x:=node) 0 h Z Z)) Z fun _ _ _ _ _ h F=>X0 2 Z ?_));obtain rfl:=qb F;exact rO 0 h Z ⟨rfl,trivial⟩
def qfa (_:Nat)(v:(Option Tview))(l:qt):Option Int:=
 (v).bind fun y1=>
 (idx y1.places (W64 (l.To.tdiv 2))).bind fun y2=>
 V y2.net
theorem qiv {v:(Option Tview)}{l:qt}(ha1:Ro w v cs1)(ha2:Ro w l cs2){r:Int}(F:qfa n v l=V r):RetV prog 264 [GoT.v (Option Tview) cs1,GoT.v qt cs2] w r:=by
 obtain⟨_,rfl,s1⟩:=qct ha1;obtain rfl:=qav ha2;refine zV 15 func264 Z fun h=>zSR (qx h Z Z fun _ _ h=>X0 3 Z (rD (zd1 Z ?_)));obtain⟨_,hy1,F⟩:=qc F;obtain⟨_,o_1,_,rfl,-,hr1,hc1⟩:=PtR.get s1 hy1;obtain⟨_,_,_,_,_,_,_,_,_,_,_,_,_,_,_,_,_,_,_,_,rfl,_,_,_,_,_,s7,_,_,_,_⟩:=qb3 hr1;refine zd2 Z (zdc 5 (hc1.below h.below) Z (Y1 2 0 h Z ?_));refine zd1 Z ?_;obtain⟨_,_,F,he1,_,_,_,_,hp1,hq1,hr2,hc2⟩:=s7.ix F;obtain rfl:=qfk hr2;exact zdxe hp1 hq1 he1 Z (zd1 Z (zdc 2 (hc2.below h.below) Z (zd1 Z (dN h fun _ h=>ri h F Z))))
def qgO (_:Nat)(v:(Option Tview))(l:qt):Option qH:=
 (v).bind fun y1=>
 (idx y1.places (W64 (l.To.tdiv 2))).bind fun y2=>
 (idx y1.Bq.Aa.Ab y2.instance_).bind fun y3=>
 (idx y1.Bq.Ap.Am y3.Bp).bind fun y4=>
 (idx y4.Ak l.Bw).bind fun y5=>
 V y5
theorem qkY {A:Nat→Prop}(hA:∀ b,A b→old w b){v:(Option Tview)}{l:qt}(ha1:GoT.R w A v cs1)(ha2:GoT.R w A l cs2){r:qH}(F:qgO n v l=V r):RetG prog 282 [GoT.v (Option Tview) cs1,GoT.v qt cs2] w A r:=by
 obtain⟨_,rfl,s1⟩:=qct ha1;obtain rfl:=qav ha2;have hg:=Rg.start hA;refine qnm func282 Z (m:=39) Z Z (fun h=>?_);refine zSR (qx h Z Z fun _ _ h=>qp qa h Z Z Z fun _ _ h=>zNS (rA [] [1] h Z fun _ h=>M0 1 [0] (h.pick [1] Z) Z ?_));obtain⟨_,hy1,F⟩:=qc F;obtain⟨_,o_1,_,rfl,-,hr1,hc1⟩:=PtR.get s1 hy1;obtain⟨_,_,_,_,_,_,_,_,_,_,_,_,_,_,_,_,_,_,_,_,rfl,s2,s3,_,_,_,s7,_,_,_,_⟩:=qb3 hr1;refine M0 31 [1,2,3,4] (h.pick [1] Z) Z (Al 5 63 1 hc1 (h.pick [1] Z) Z (M0 511 [6,7,8] (h.pick [1] Z) Z (Al 9 1023 5 hc1 (h.pick [1] Z) Z (M1 8191 [10,11,12] 0 (h.pick [1] Z) Z ?_))));obtain⟨_,_,F,he1,_,_,_,_,hp1,hq1,hr2,hc2⟩:=s7.ix F;obtain rfl:=qfk hr2;refine Ae 13 16383 hp1 hq1 he1 (h.pick [1] Z) Z (M0 32767 [14] (h.pick [1] Z) Z (Al 15 65535 0 hc2 (h.pick [1] Z) Z ?_));obtain⟨_,_,F,he2,_,_,_,_,hp2,hq2,hr3,hc3⟩:=s3.ix F;obtain⟨_,_,rfl,_⟩:=qF hr3;refine Ae 16 131071 hp2 hq2 he2 (h.pick [1] Z) Z (Al 17 262143 0 hc3 (h.pick [1] Z) Z (Ao 18 524287 Z (qp qa h Z Z Z fun _ _ h=>Ag (h.pick [2] Z) (Ao 19 1048575 Z (zs 0 h Z fun _ h=>Ag (h.pick [2] Z) (Ad (qcQ (rA [] [0,2] h Z fun _ h=>M0 31 [0,1,2,3,4] (h.pick [0,2] Z) Z (Al 5 63 0 hc1 (h.pick [0,2] Z) Z (M1 255 [6,7] 0 (h.pick [0,2] Z) Z ?_))))))))));obtain⟨_,_,F,he3,_,_,_,_,hp3,hq3,hr4,hc4⟩:=s2.ix F;obtain⟨_,_,_,_,_,_,rfl,_,s14,_⟩:=qO hr4;refine Ae 8 511 hp3 hq3 he3 (h.pick [0,2] Z) Z (M0 1023 [9] (h.pick [0,2] Z) Z (Al 10 2047 3 hc4 (h.pick [0,2] Z) Z (M1 8191 [11,12] 1 (h.pick [0,2] Z) Z ?_)));obtain⟨y5,_,F,he4,_,_,_,_,hp4,hq4,hr5,hc5⟩:=s14.ix F;obtain⟨p16,k15,p17,k16,rfl,s16,s17⟩:=qX hr5;refine Ae 13 16383 hp4 hq4 he4 (h.pick [0,2] Z) Z (Al 14 32767 0 hc5 (h.pick [0,2] Z) Z (Ao 15 65535 Z (zs 1 h Z fun _ h=>Ag (h.pick [0,2] Z) (Ad ?_))));obtain rfl:=qb F;have hv1:GoRs.Rs (ρ:=qH) h.wc (reg A w h.wc) y5 [GoT.v qH (qhc y5 p16 p17 k15 k16)]:=⟨_,rfl,(hg.outR h (qfo y5 (hg.inS h s16) (hg.inS h s17)))⟩;exact qu1 qa (ρ:=qH) (r:=y5) [GoT.v qH (qhc y5 p16 p17 k15 k16)] h ⟨⟨_,_,_,rfl,rfl,h.box 1 Z,rfl⟩,trivial⟩ hv1
def qfn (_:Nat)(a:Int)(b:Int)(mode:Int):Option Int:=
 (quoS a b).bind fun y1=>
 (remS a b).bind fun y2=>
 (
  bif (mode==0) then V (decide (y2<0)) else
  V false).bind fun b1=>
 bif b1 then V (W64 (y1-1)) else
 bif (mode==1) then
  bif decide (y2 > 0) then V (W64 (y1+1)) else
  V y1
 else
  V y1
theorem qjd {a:Int}{b:Int}{mode:Int}  {r:Int}(F:qfn n a b mode=V r):RetV prog 284 [.int .i64 a,.int .i64 b,.int .i64 mode] w r:=by
 refine zV 34 func284 Z fun h=>X0 5 Z (rD (zd2 Z ?_));obtain⟨y1,hx1,F⟩:=qc F;obtain⟨g1,hx1⟩:=qr0 hx1;refine d_v (fun _ hb=>qzd g1 Z Z) Z ?_;rw[hx1];refine zd2 Z ?_;obtain⟨y2,hx2,F⟩:=qc F;obtain⟨g2,hx2⟩:=qrY hx2;refine d_v (fun _ hb=>qy7 g2 Z Z) Z ?_;rw[hx2];refine zd2 Z (dN h fun _ h=>X0 3 Z ?_);obtain⟨KF1,hKF1,_,F,hK1⟩:=bindE F;refine qbe (fun e w'=>∃(b1:Bool),KF1 b1=V r∧e=[(2,.int .i64 mode),(7,.int .i64 y1),(8,.int .i64 y2),(15,.bool b1)]∧SH w w' []) ?_ ?_
 ·refine X0 4 Z (qm (t:=18) F Z ?_ ?_)<;>intro F
  ·refine X0 7 Z ?_;obtain rfl:=qb F;exact rG ⟨_,hK1,rfl,h⟩ Z
  refine X0 5 Z ?_;obtain rfl:=qb F;exact rG ⟨_,hK1,rfl,h⟩ Z
 rintro _ _ ⟨b1,F,rfl,h⟩;subst hKF1;refine qh Z F ?_ ?_<;>intro F
 ·exact X0 6 Z (ri h F Z)
 refine X0 5 Z (qm (t:=27) F Z ?_ ?_)<;>intro F
 ·refine X0 7 Z (qh Z F ?_ ?_)<;>intro F
  ·exact X0 6 Z (ri h F Z)
  exact X0 7 Z (ri h F Z)
 exact X0 5 Z (qdi Z Z (X0 7 Z (ri h F Z)))
def qlf (n:Nat)(x:Int)(y:Int):Option Bool:=
 (qik n x).bind fun r1=>
 bif r1 then
  (qik n y).bind fun r2=>
  bif (!r2) then V true else
  V (decide (x<y))
 else
  V (decide (x<y))
theorem qou {x:Int}{y:Int}  {r:Bool}(F:qlf n x y=V r):RetV prog 337 [.int .i64 x,.int .i64 y] w r:=by
 refine zV 17 func337 Z fun h=>X0 7 Z (zcB h F qlc Z fun _ _ h F=>zp1 Z (qm (t:=7) F Z ?_ ?_))<;>intro F
 ·refine X0 3 Z (zcB h F qlc Z fun _ _ h F=>X0 4 Z (qm (t:=12) F Z ?_ ?_))<;>intro F
  ·exact X0 6 Z (rb h F Z)
  exact X0 9 Z (rb h F Z)
 exact X0 14 Z (rb h F Z)
def qgu (_:Nat)(x:Int):Option Bool:=
 V (x != x)
theorem qji {x:Int}  {r:Bool}(F:qgu n x=V r):RetV prog 338 [.int .i64 x] w r:=by
 exact zV 6 func338 Z fun h=>X0 11 Z (rb h F Z)
def qaC (x:(List Int))(target:Int):Nat→Int→Int→Option (Int×Int)
 | 0,_,_=>U
 | n+1,i1,i2=>
  bif decide (i1<i2) then
   (shrS .u64 (IntKind.wrap .u64 (W64 (i1+i2))) 1).bind fun y1=>
   (idx x (W64 y1)).bind fun y2=>
   (qlf n y2 target).bind fun r1=>
   bif r1 then qaC x target n (W64 ((W64 y1)+1)) i2 else
   qaC x target n i1 (W64 y1)
  else
   V (i1,i2)
def qdh (n:Nat)(x:(List Int))(target:Int):Option (Int×Bool):=
 (qaC x target n 0 (x.length:Int)).bind fun o=>match o with
 | (i1,_)=>
  bif decide (i1<(x.length:Int)) then
   (idx x i1).bind fun y3=>
   bif (y3==target) then V (i1,true) else
   (idx x i1).bind fun y4=>
   (qgu n y4).bind fun r2=>
   bif r2 then
    (qgu n target).bind fun r3=>
    V (i1,r3)
   else
    V (i1,false)
  else
   V (i1,false)
theorem qkb {x:(List Int)}{target:Int}(ha1:Ro w x cs1){r:(Int×Bool)}(F:qdh n x target=V r):RetV prog 324 [GoT.v (List Int) cs1,.int .i64 target] w r:=by
 obtain⟨p1,k1,rfl,s1⟩:=ha1;refine zV 54 func324 Z fun h=>X0 18 Z ?_;obtain⟨o1,F,hK1⟩:=qc F;refine qn (rL (fun m e w'=>∃(i1:Int) (i2:Int),qaC x target m i1 i2=V o1∧e=[(0,.slice p1 x.length k1),(1,.int .i64 target),(6,.int .i64 (x.length:Int)),(7,.int .i64 i1),(8,.int .i64 i2)]∧SH w w' []) n ⟨_,_,F,rfl,h⟩ Z ?_);rintro m1 _ _ ⟨i1,i2,F,rfl,h⟩;rcases m1 with _|m1
 ·cases F
 refine X0 7 Z (qh Z F ?_ ?_)<;>intro F
 ·refine X0 8 Z ?_;obtain⟨_,hx1,F⟩:=qc F;obtain⟨g1,hx1⟩:=qwc hx1;refine r_v (qzX g1 Z Z) Z ?_;rw[hx1];refine X0 7 Z ?_;obtain⟨_,_,F,he1,_,_,_,_,hp1,hq1,rfl,hc2⟩:=s1.ix F;refine zxe hp1 hq1 he1 Z (zc 0 (hc2.below h.below) Z (zp1 Z (zcB h F qou Z fun _ _ h F=>qcP (qh Z F ?_ ?_))))<;>intro F
  ·exact X0 6 Z (rK ⟨_,_,F,rfl,h⟩ Z)
  exact X0 5 Z (rK ⟨_,_,F,rfl,h⟩ Z)
 refine qq Z ?_;obtain rfl:=qb F;replace F:=hK1;refine X0 7 Z (qm (t:=35) F Z ?_ ?_)<;>intro F
 ·refine X0 5 Z ?_;obtain⟨_,_,F,he2,_,_,_,_,hp2,hq2,rfl,hc4⟩:=s1.ix F;refine zxe hp2 hq2 he2 Z (X0 1 Z (zc 0 (hc4.below h.below) Z (X0 6 Z (qm (t:=42) F Z ?_ ?_))))<;>intro F
  ·refine X0 15 Z ?_;obtain rfl:=qb F;exact qae qa (ρ:=(Int×Bool)) [GoT.v Int [.int .i64 i1],GoT.v Bool [.bool true]] h ⟨rfl,rfl,trivial⟩ (PV.done h (qap h (qA (S:=fun _=>False) Z) (qaj (qA (S:=fun _=>False) Z)) (by rfl)))
  refine X0 5 Z ?_;obtain⟨_,_,F,he3,_,_,_,_,hp3,hq3,rfl,hc5⟩:=s1.ix F;refine zxe hp3 hq3 he3 Z (X0 1 Z (zc 0 (hc5.below h.below) Z (X0 1 Z (zcB h F qji Z fun _ _ h F=>X0 2 Z (qm (t:=48) F Z ?_ ?_)))))<;>intro F
  ·refine X0 3 Z (zcB h F qji Z fun r3 _ h F=>X0 8 Z ?_);obtain rfl:=qb F;exact qae qa (ρ:=(Int×Bool)) [GoT.v Int [.int .i64 i1],GoT.v Bool [.bool r3]] h ⟨rfl,rfl,trivial⟩ (PV.done h (qap h (qA (S:=fun _=>False) Z) (qaj (qA (S:=fun _=>False) Z)) (by rfl)))
  refine X0 10 Z ?_;obtain rfl:=qb F;exact qae qa (ρ:=(Int×Bool)) [GoT.v Int [.int .i64 i1],GoT.v Bool [.bool false]] h ⟨rfl,rfl,trivial⟩ (PV.done h (qap h (qA (S:=fun _=>False) Z) (qaj (qA (S:=fun _=>False) Z)) (by rfl)))
 refine X0 21 Z ?_;obtain rfl:=qb F;exact qae qa (ρ:=(Int×Bool)) [GoT.v Int [.int .i64 i1],GoT.v Bool [.bool false]] h ⟨rfl,rfl,trivial⟩ (PV.done h (qap h (qA (S:=fun _=>False) Z) (qaj (qA (S:=fun _=>False) Z)) (by rfl)))
def qhO (n:Nat)(axis:(List Int))(x:Int):Option ((List Tweight)×Int):=
 (idx axis 0).bind fun y1=>
 (idx axis (W64 ((axis.length:Int)-1))).bind fun y2=>
 (qdh n axis (if y2<(if y1 > x then y1 else x) then y2 else(if y1 > x then y1 else x))).bind fun o=>match o with
  | (r2,r3)=>
   bif r3 then V (([(⟨r2,1⟩:Tweight)]:List Tweight),1) else
   (idx axis r2).bind fun y3=>
   (idx axis (W64 (r2-1))).bind fun y4=>
   (idx axis r2).bind fun y5=>
   (idx axis (W64 (r2-1))).bind fun y6=>
   V (([(⟨W64 (r2-1),W64 (y3-(if y2<(if y1 > x then y1 else x) then y2 else(if y1 > x then y1 else x)))⟩:Tweight),(⟨r2,W64 ((if y2<(if y1 > x then y1 else x) then y2 else(if y1 > x then y1 else x))-y4)⟩:Tweight)]:List Tweight),W64 (y5-y6))
theorem qmK {axis:(List Int)}{x:Int}(ha1:Ro w axis cs1){r:((List Tweight)×Int)}(F:qhO n axis x=V r):RetV prog 309 [GoT.v (List Int) cs1,.int .i64 x] w r:=by
 obtain⟨_,_,rfl,s1⟩:=ha1;refine zV 59 func309 Z fun h=>X0 6 Z (rD (zd2 Z ?_));obtain⟨y1,_,F,he1,_,_,_,_,hp1,hq1,rfl,hc1⟩:=s1.ix F;refine zdxe hp1 hq1 he1 Z (zdc 0 (hc1.below h.below) Z (zd5 Z ?_));obtain⟨y2,_,F,he2,_,_,_,_,hp2,hq2,rfl,hc2⟩:=s1.ix F;refine zdxe hp2 hq2 he2 Z (zdc 0 (hc2.below h.below) Z (zd2 Z (dN h fun _ h=>X0 4 Z ?_)));obtain⟨r1,hr3,F⟩:=qc F;obtain⟨r2,r3⟩:=r1;refine qa3 (r2,r3) h (cB 324 Z) (qkb ⟨_,_,rfl,(h.oldS s1)⟩ hr3) Z Z Z Z fun _ _ _ hv1 hr4=>?_;obtain⟨_,_,rfl,hv2,hr5⟩:=hv1.consI hr4;obtain⟨rfl,h⟩:=hv2.lastB hr5;refine X0 11 Z (qh Z F ?_ ?_)<;>intro F
 ·refine X0 3 Z (r_v (qJ qa [0,1] [.tmp 27,.const (.int .i64 (1))] Z Z Z Z Z Z Z Z) Z (qK qa [.tmp 28] _ ([(⟨r2,1⟩:Tweight)]:List Tweight) h Z Z Z Z Z Z Z Z Z ⟨(qnw (⟨r2,1⟩:Tweight)),trivial⟩ Z fun _ p2 _ h=>X0 3 Z ?_));obtain rfl:=qb F;exact qae qa (ρ:=((List Tweight)×Int)) [GoT.v (List Tweight) [.slice p2 1 1],GoT.v Int [.int .i64 1]] h ⟨rfl,rfl,trivial⟩ (PV.done h (qap h (qaA 0 h Z) (qaj (qA (S:=fun _=>False) Z)) (by rfl)))
 refine zKS (rA [] [] h Z fun _ h=>M0 15 [0,1,2,3] (h.pick [] Z) Z ?_);obtain⟨y3,_,F,he3,_,_,_,_,hp3,hq3,rfl,hc4⟩:=s1.ix F;refine Ae 4 31 hp3 hq3 he3 (h.pick [] Z) Z (Al 5 63 0 hc4 (h.pick [] Z) Z (M0 255 [6,7] (h.pick [] Z) Z (Aw 8 511 (fun w' hw=>qJ qa [0,1] [.tmp 31,.tmp 37] Z Z Z Z Z Z Z Z) (h.pick [] Z) Z ?_)));refine M0 16383 [9,10,11,12,13] (h.pick [] Z) Z ?_;obtain⟨y4,_,F,he4,_,_,_,_,hp4,hq4,rfl,hc5⟩:=s1.ix F;refine Ae 14 32767 hp4 hq4 he4 (h.pick [] Z) Z (Al 15 65535 0 hc5 (h.pick [] Z) Z (M0 131071 [16] (h.pick [] Z) Z (Aw 17 262143 (fun w' hw=>qJ qa [0,1] [.tmp 39,.tmp 46] Z Z Z Z Z Z Z Z) (h.pick [] Z) Z ?_)));refine M0 1835007 [19,20] (h.pick [] Z) Z ?_;obtain⟨y5,_,F,he5,_,_,_,_,hp5,hq5,rfl,hc6⟩:=s1.ix F;refine Ae 21 3932159 hp5 hq5 he5 (h.pick [] Z) Z (Al 22 8126463 0 hc6 (h.pick [] Z) Z (M0 66846719 [23,24,25] (h.pick [] Z) Z ?_));obtain⟨y6,_,F,he6,_,_,_,_,hp6,hq6,rfl,hc7⟩:=s1.ix F;refine Ae 26 133955583 hp6 hq6 he6 (h.pick [] Z) Z (Al 27 268173311 0 hc7 (h.pick [] Z) Z (M0 536608767 [28] (h.pick [] Z) Z (Ao 18 536870911 Z (qK qa [.tmp 38,.tmp 47] _ ([(⟨W64 (r2-1),W64 (y3-(if y2<(if y1 > x then y1 else x) then y2 else(if y1 > x then y1 else x)))⟩:Tweight),(⟨r2,W64 ((if y2<(if y1 > x then y1 else x) then y2 else(if y1 > x then y1 else x))-y4)⟩:Tweight)]:List Tweight) h Z Z Z Z Z Z Z Z Z ⟨(qnw (⟨W64 (r2-1),W64 (y3-(if y2<(if y1 > x then y1 else x) then y2 else(if y1 > x then y1 else x)))⟩:Tweight)),(qnw (⟨r2,W64 ((if y2<(if y1 > x then y1 else x) then y2 else(if y1 > x then y1 else x))-y4)⟩:Tweight)),trivial⟩ Z fun _ p3 _ h=>G0 2147483647 [29,30] (h.pick [] Z) Z (Ad ?_)))));obtain rfl:=qb F;exact qae qa (ρ:=((List Tweight)×Int)) [GoT.v (List Tweight) [.slice p3 2 2],GoT.v Int [.int .i64 (W64 (y5-y6))]] h ⟨rfl,rfl,trivial⟩ (PV.done h (qap h (qaA 0 h Z) (qaj (qA (S:=fun _=>False) Z)) (by rfl)))
def qa9 (a_0:qu)(r5:(List Tweight))(y1:Tweight):Nat→Int→Int→Option (Int×Int)
 | 0,_,_=>U
 | n+1,i3,i4=>
  bif decide (i4<(r5.length:Int)) then
   (idx r5 i4).bind fun y2=>
   (idx a_0.Az (W64 ((W64 (y1.index*(a_0.Bd.length:Int)))+y2.index))).bind fun y3=>
   qa9 a_0 r5 y1 n (W64 (i3+(W64 ((W64 (y3*y1.part))*y2.part)))) (W64 (i4+1))
  else
   V (i3,i4)
def qa7 (a_0:qu)(r2:(List Tweight))(r5:(List Tweight)):Nat→Int→Int→Option (Int×Int)
 | 0,_,_=>U
 | n+1,i1,i2=>
  bif decide (i2<(r2.length:Int)) then
   (idx r2 i2).bind fun y1=>
   (qa9 a_0 r5 y1 n i1 0).bind fun o=>match o with
   | (i3,_)=>
    qa7 a_0 r2 r5 n i3 (W64 (i2+1))
  else
   V (i1,i2)
def qdX (n:Nat)(a_0:qu)(a_1:Int)(a_2:Int)(a_3:Int):Option Int:=
 (qhO n a_0.Bl a_1).bind fun o=>match o with
  | (r2,r3)=>
   (qhO n a_0.Bd a_2).bind fun o=>match o with
    | (r5,r6)=>
     (qa7 a_0 r2 r5 n 0 0).bind fun o=>match o with
     | (i1,_)=>
      (qfn n i1 (W64 (r3*r6)) a_3).bind fun r7=>
      V r7
theorem qj0 {a_0:qu}{a_1:Int}{a_2:Int}{a_3:Int}(ha1:Ro w a_0 cs1){r:Int}(F:qdX n a_0 a_1 a_2 a_3=V r):RetV prog 283 [GoT.v qu cs1,.int .i64 a_1,.int .i64 a_2,.int .i64 a_3] w r:=by
 obtain⟨p1,k1,p2,k2,p3,k3,rfl,s1,s2,s3⟩:=qaJ ha1;refine zV 73 func283 Z fun h=>zSR (qx h Z Z fun _ bb1 h=>X1 7 0 h Z ?_);obtain⟨r1,hr1,F⟩:=qc F;obtain⟨r2,r3⟩:=r1;refine qa3 (r2,r3) h (cB 309 Z) (qmK ⟨_,_,rfl,(h.oldS s1)⟩ hr1) Z Z Z Z fun _ _ _ hv1 hr2=>?_;obtain⟨S2,_,p4,k4,_,rfl,hv2,hr3⟩:=hv1.consL hr2;obtain⟨rfl,h⟩:=hv2.lastI hr3;refine X1 11 1 h Z ?_;obtain⟨r4,hr5,F⟩:=qc F;obtain⟨r5,r6⟩:=r4;refine qa3 (r5,r6) h (cB 309 Z) (qmK ⟨_,_,rfl,(h.oldS s2)⟩ hr5) Z Z Z Z fun _ _ _ hv4 hr6=>?_;obtain⟨S6,_,p5,k5,_,rfl,hv5,hr7⟩:=hv4.consL hr6;obtain⟨rfl,h⟩:=hv5.lastI hr7;refine X0 17 Z ?_;obtain⟨o1,F,hK1⟩:=qc F;refine qn (rL (fun m e w'=>∃(i1:Int) (i2:Int),qa7 a_0 r2 r5 m i1 i2=V o1∧e=[(3,.int .i64 a_3),(4,.pointer (V ⟨bb1,0,U⟩)),(10,.int .i64 r3),(11,.slice p5 r5.length k5),(12,.int .i64 r6),(13,.int .i64 i1),(32,.slice p4 r2.length k4),(33,.int .i64 (r2.length:Int)),(34,.int .i64 i2)]∧SH w w' [Ch.own S6 (r5:List Tweight) [.slice p5 r5.length k5],Ch.own S2 (r2:List Tweight) [.slice p4 r2.length k4],Ch.box bb1 (qhf a_0 p1 p2 p3 k1 k2 k3) 329]) n ⟨_,_,F,rfl,h⟩ Z ?_);rintro m1 _ _ ⟨i1,i2,F,rfl,h⟩;rcases m1 with _|m1
 ·cases F
 refine X0 5 Z (qh Z F ?_ ?_)<;>intro F
 ·refine zKSBSR ?_;obtain⟨y1,_,F,he1,_,_,_,_,hp1,hq1,hr9,hc2⟩:=(h.sl 1 Z).1.ix F;obtain rfl:=qo0 hr9;refine zx hp1 hq1 ⟨he1.1,qC he1.2.1 (h.sl 1 Z).2⟩ Z (zc 0 hc2 Z (qp qa h Z Z Z fun _ bb2 h=>zs 0 h Z fun _ h=>X0 7 Z ?_));obtain⟨o2,F,hK2⟩:=qc F;refine qn (rL (fun m e w'=>∃(i3:Int) (i4:Int),qa9 a_0 r5 y1 m i3 i4=V o2∧e=[(3,.int .i64 a_3),(4,.pointer (V ⟨bb1,0,U⟩)),(10,.int .i64 r3),(11,.slice p5 r5.length k5),(12,.int .i64 r6),(13,.int .i64 i3),(15,.pointer (V ⟨bb2,0,U⟩)),(32,.slice p4 r2.length k4),(33,.int .i64 (r2.length:Int)),(34,.int .i64 i2),(38,.slice p5 r5.length k5),(39,.int .i64 (r5.length:Int)),(40,.int .i64 i4)]∧SH w w' [Ch.box bb2 (qpv y1) 397,Ch.own S6 (r5:List Tweight) [.slice p5 r5.length k5],Ch.own S2 (r2:List Tweight) [.slice p4 r2.length k4],Ch.box bb1 (qhf a_0 p1 p2 p3 k1 k2 k3) 329]) m1 ⟨_,_,F,rfl,h⟩ Z ?_);rintro m2 _ _ ⟨i3,i4,F,rfl,h⟩;rcases m2 with _|m2
  ·cases F
  refine X0 5 Z (qh Z F ?_ ?_)<;>intro F
  ·refine zKSBSR ?_;obtain⟨_,_,F,he2,_,_,_,_,hp2,hq2,hr10,hc4⟩:=(h.sl 1 Z).1.ix F;obtain rfl:=qo0 hr10;refine zx hp2 hq2 ⟨he2.1,qC he2.2.1 (h.sl 1 Z).2⟩ Z (zc 0 hc4 Z (qp qa h Z Z Z fun _ _ h=>zs 0 h Z fun _ h=>qcP (rD (Y1 3 4 h Z ?_))));refine Y1 2 1 h Z ?_;refine Y1 2 4 h Z ?_;refine Y1 4 0 h Z ?_;refine zd1 Z ?_;obtain⟨_,_,F,he3,_,_,_,_,hp3,hq3,rfl,hc5⟩:=s3.ix F;refine zdxe hp3 hq3 he3 Z (zdc 0 (hc5.below h.below) Z (Y1 2 1 h Z ?_));refine Y1 3 0 h Z ?_;refine zd3 Z (dN h fun _ h=>X0 5 Z ?_);replace h:=h.pick [1,2,3,4] Z;exact rK ⟨_,_,F,rfl,h⟩ Z
  refine qq Z ?_;obtain rfl:=qb F;replace F:=hK2;refine X0 5 Z ?_;replace h:=h.pick [1,2,3] Z;exact rK ⟨_,_,F,rfl,h⟩ Z
 refine qq Z ?_;obtain rfl:=qb F;replace F:=hK1;exact X0 7 Z (zcI h F qjd Z fun _ _ h F=>X0 2 Z (ri h F Z))
def qk6 (n:Nat)(t:Int)(thousandths:Int)(mode:Int):Option Int:=
 (qfn n (W64 (t*thousandths)) 1000 mode).bind fun r1=>
 V r1
theorem qn2 {t:Int}{thousandths:Int}{mode:Int}  {r:Int}(F:qk6 n t thousandths mode=V r):RetV prog 285 [.int .i64 t,.int .i64 thousandths,.int .i64 mode] w r:=by
 exact zV 12 func285 Z fun h=>X0 10 Z (zcI h F qjd Z fun _ _ h F=>X0 2 Z (ri h F Z))
def qeT (_:Nat)(c:qy)(kind:Int)(mode:Int):Option Int:=
 (
  bif (kind==1) then V (mode==0) else
  V false).bind fun b1=>
 bif b1 then V c.Be else
 bif (kind==1) then V c.Bh else
 bif (mode==0) then V c.Bf else
 V c.Bj
theorem qjh {c:qy}{kind:Int}{mode:Int}(ha1:Ro w c cs1){r:Int}(F:qeT n c kind mode=V r):RetV prog 286 [GoT.v qy cs1,.int .i64 kind,.int .i64 mode] w r:=by
 obtain rfl:=qag ha1;refine zV 28 func286 Z fun h=>zSR (qx h Z Z fun _ bb1 h=>X0 5 Z ?_);obtain⟨KF1,hKF1,_,F,hK1⟩:=bindE F;refine qbe (fun e w'=>∃(b1:Bool),KF1 b1=V r∧e=[(1,.int .i64 kind),(2,.int .i64 mode),(3,.pointer (V ⟨bb1,0,U⟩)),(7,.bool b1)]∧SH w w' [Ch.box bb1 (qad c) 77]) ?_ ?_
 ·refine X0 4 Z (qm (t:=10) F Z ?_ ?_)<;>intro F
  ·refine X0 7 Z ?_;obtain rfl:=qb F;exact rG ⟨_,hK1,rfl,h⟩ Z
  refine X0 5 Z ?_;obtain rfl:=qb F;exact rG ⟨_,hK1,rfl,h⟩ Z
 rintro _ _ ⟨b1,F,rfl,h⟩;subst hKF1;refine qh Z F ?_ ?_<;>intro F
 ·exact X1 6 0 h Z (ri h F Z)
 refine X0 6 Z (qh Z F ?_ ?_)<;>intro F
 ·exact X1 6 0 h Z (ri h F Z)
 refine X0 6 Z (qh Z F ?_ ?_)<;>intro F
 ·exact X1 6 0 h Z (ri h F Z)
 exact X1 8 0 h Z (ri h F Z)
def qbo (n:Nat)(a_0:(Option Tview))(a_1:qy)(a_2:Int)(a_3:Int)(a_4:Int):Option Int:=
 (a_0).bind fun y1=>
 (idx y1.links a_2).bind fun y2=>
 (qfa n a_0 y2).bind fun r1=>
 bif (y2.Aq==1) then
  (idx y1.loads r1).bind fun y3=>
  (qgO n a_0 y2).bind fun r2=>
  (idx r2.Bk (y2.To.tmod 2)).bind fun y4=>
  (qdX n y4 a_3 y3 a_4).bind fun r3=>
  (qeT n a_1 y2.Aq a_4).bind fun r4=>
  (qk6 n r3 r4 a_4).bind fun r5=>
  V r5
 else
  (idx y1.delays r1).bind fun y5=>
  (idx y5 y2.Bw).bind fun y6=>
  (qfn n y6 1000 a_4).bind fun r6=>
  (qeT n a_1 y2.Aq a_4).bind fun r7=>
  (qk6 n r6 r7 a_4).bind fun r8=>
  V r8
theorem qau {a_0:(Option Tview)}{a_1:qy}{a_2:Int}{a_3:Int}{a_4:Int}(ha1:Ro w a_0 cs1)(ha2:Ro w a_1 cs2){r:Int}(F:qbo n a_0 a_1 a_2 a_3 a_4=V r):RetV prog 249 [GoT.v (Option Tview) cs1,GoT.v qy cs2,.int .i64 a_2,.int .i64 a_3,.int .i64 a_4] w r:=by
 obtain⟨_,rfl,s1⟩:=qct ha1;obtain rfl:=qag ha2;refine zV 67 func249 Z fun h=>zSR (qx h Z Z fun _ _ h=>X0 5 Z ?_);obtain⟨_,hy1,F⟩:=qc F;obtain⟨_,o_1,_,rfl,-,hr1,hc1⟩:=PtR.get s1 hy1;obtain⟨_,_,_,_,_,_,_,_,_,_,_,_,_,_,_,_,_,_,_,_,rfl,s2,s3,s4,s5,s6,s7,s8,s9,s10,s11⟩:=qb3 hr1;refine zp2 Z (zc 6 (hc1.below h.below) Z (zp1 Z ?_));obtain⟨y2,_,F,he1,_,_,_,_,hp1,hq1,hr2,hc2⟩:=s8.ix F;obtain rfl:=qav hr2;refine zxe hp1 hq1 he1 Z (zc 0 (hc2.below h.below) Z (qp qa h Z Z Z fun _ _ h=>zs 0 h Z fun _ h=>X1 5 0 h Z (zcI h F (qiv (h.old s1) (qcf y2)) Z fun _ _ h F=>X1 13 0 h Z (qh Z F ?_ ?_))))<;>intro F
 ·refine rA [] [0] h Z fun _ h=>M2 7795 [0,1,4,5,6,9,10,11,12] 0 0 (h.pick [0] Z) Z (Al 13 15987 7 hc1 (h.pick [0] Z) Z (M0 32371 [14] (h.pick [0] Z) Z ?_));obtain⟨_,_,F,he2,_,_,_,_,hp2,hq2,rfl,hc4⟩:=s9.ix F;refine Ae 15 65139 hp2 hq2 he2 (h.pick [0] Z) Z (Al 16 130675 0 hc4 (h.pick [0] Z) Z (M0 261747 [17] (h.pick [0] Z) Z (Ao 2 261751 Z ?_)));have hg1:Rg (old w) w (old w) w:=.start (fun _ h=>h);obtain⟨r2,hr5,F⟩:=qc F;refine qnC r2 hg1 h (cB 282 Z) (qkY (hg1.regOld h) (hg1.inR h s1) (qcf y2) hr5) Z Z Z Z fun _ _ _ hg2 hu1 hz1 hv1=>?_;have hL1:=h.ext hu1.below;have hc5:=Up.box 0 h hu1 Z;have ha3:=Up.boxP (x:=y2) hg1 0 h hu1 Z (qcf y2);have hc6:=Up.box 1 h hu1 Z;have s12:=Up.R hg1 h hu1 ha2;have ha4:=Up.boxP (x:=a_1) hg1 1 h hu1 Z (hg1.inR h ha2);have hc7:=Up.C h hu1 hc1;have s13:=Up.S hg1 h hu1 s2;have s14:=Up.S hg1 h hu1 s3;have s15:=Up.S hg1 h hu1 s4;have s16:=Up.S hg1 h hu1 s5;have s17:=Up.S hg1 h hu1 s6;have s18:=Up.S hg1 h hu1 s7;have s19:=Up.S hg1 h hu1 s8;have s20:=Up.S hg1 h hu1 s9;have s21:=Up.S hg1 h hu1 s10;have s22:=Up.S hg1 h hu1 s11;have hb1:=h.below.trans (hu1.below.mono h.below.size);have hC1:=((h.pick [0] Z)).ext hu1.below;replace h:=hz1;obtain⟨_,rfl,hr6⟩:=qon hv1;have ha5:=hr6;obtain⟨_,_,_,_,rfl,s23,_⟩:=qX hr6;refine qbf (fun _=>(hC1.ext h.below)) (qhs 3 Z (bits 20 261759) (by kernel_rfl) (by kernel_rfl) (fun w' hw=>v_p qa Z w') (hC1.ext h.below) Z ?_);obtain⟨y4,_,F,he3,_,_,_,_,hp3,hq3,hr7,hc8⟩:=s23.ix F;obtain⟨_,_,_,_,_,_,rfl,s25,s26,s27⟩:=qaJ hr7;refine qhs 7 Z (bits 20 261887) (by kernel_rfl) (by kernel_rfl) (fun w' hw=>qvw qa hp3 hq3 ⟨he3.1,he3.2.1⟩ Z Z Z Z Z Z) (hC1.ext h.below) Z (Ao 8 262143 Z (zc 0 (hc8.below h.below) Z (qbf (fun _=>(hC1.ext h.below)) (Ao 18 524287 Z (zcI h F (qj0 (qfE y4 (h.oldS (s25.mono hg2.old)) (h.oldS (s26.mono hg2.old)) (h.oldS (s27.mono hg2.old)))) Z fun _ _ h F=>qbf (fun _=>(hC1.ext h.below)) (qhs 19 Z (bits 20 1048575) (by kernel_rfl) (by kernel_rfl) (fun w' hw=>v_p qa Z w') (hC1.ext h.below) Z (Ad (X0 3 Z (zc 0 (hc6.below h.below) Z (zp1 Z (zc 2 (hc5.below h.below) Z (zp1 Z (zcI h F (qjh (h.old (GoT.mono s12 hg2.old))) Z fun _ _ h F=>zp1 Z (zcI h F qn2 Z fun _ _ h F=>X0 2 Z ?_))))))))))))));replace h:=h.unbase hg2.below (show NoD [] from trivial);exact ri h F Z
 refine rD (zd3 Z (zdc 8 (hc1.below h.below) Z (zd1 Z ?_)));obtain⟨_,_,F,he4,_,_,_,_,hp4,hq4,hr11,hc9⟩:=s10.ix F;obtain⟨_,_,rfl,s28⟩:=hr11;refine zdxe hp4 hq4 he4 Z (zdc 0 (hc9.below h.below) Z (Y1 2 0 h Z ?_));obtain⟨_,_,F,he5,_,_,_,_,hp5,hq5,rfl,hc10⟩:=s28.ix F;refine zdxe hp5 hq5 he5 Z (zdc 0 (hc10.below h.below) Z (zd1 Z ?_));obtain⟨r6,hr13,F⟩:=qc F;exact qbJ r6 (vsI _) (cB 284 Z) (fun _ hb=>qjd  hr13) Z Z Z Z (zd1 Z (dN h fun _ h=>X2 7 1 0 h Z (zcI h F (qjh (h.old ha2)) Z fun _ _ h F=>zp1 Z (zcI h F qn2 Z fun _ _ h F=>X0 2 Z (ri h F Z)))))
def qgo (a_n:Int):Nat→Int→Int→Option (Int×Int)
 | 0,_,_=>U
 | n+1,i1,i2=>
  bif decide (i1<i2) then
   bif decide ((W64 ((W64 ((W64 ((W64 (i1+i2))+1)).tdiv 2))*(W64 ((W64 ((W64 (i1+i2))+1)).tdiv 2))))≤a_n) then qgo a_n n (W64 ((W64 ((W64 (i1+i2))+1)).tdiv 2)) i2 else
   qgo a_n n i1 (W64 ((W64 ((W64 ((W64 (i1+i2))+1)).tdiv 2))-1))
  else
   V (i1,i2)
def qnL (n:Nat)(a_n:Int):Option Int:=
 (qgo a_n n 0 3000000000).bind fun o=>match o with
 | (i1,_)=>
  V i1
theorem qsR {a_n:Int}  {r:Int}(F:qnL n a_n=V r):RetV prog 315 [.int .i64 a_n] w r:=by
 refine zV 23 func315 Z fun h=>X0 10 Z ?_;obtain⟨o1,F,hK1⟩:=qc F;refine qn (rL (fun m e w'=>∃(i1:Int) (i2:Int),qgo a_n m i1 i2=V o1∧e=[(0,.int .i64 a_n),(3,.int .i64 i1),(4,.int .i64 i2)]∧SH w w' []) n ⟨_,_,F,rfl,h⟩ Z ?_);rintro m1 _ _ ⟨i1,i2,F,rfl,h⟩;rcases m1 with _|m1
 ·cases F
 refine X0 7 Z (qh Z F ?_ ?_)<;>intro F
 ·refine X0 19 Z (qh Z F ?_ ?_)<;>intro F
  ·exact X0 5 Z (rK ⟨_,_,F,rfl,h⟩ Z)
  exact X0 6 Z (rK ⟨_,_,F,rfl,h⟩ Z)
 refine qq Z ?_;obtain rfl:=qb F;replace F:=hK1;exact X0 5 Z (ri h F Z)
def qjJ (n:Nat)(slew:Int)(delay:Int)(mode:Int):Option Int:=
 (qnL n (W64 ((W64 ((W64 ((W64 (500*slew))*500))*slew))+(W64 (delay*delay))))).bind fun r1=>
 (
  bif (mode==1) then V (decide ((W64 (r1*r1))<(W64 ((W64 ((W64 ((W64 (500*slew))*500))*slew))+(W64 (delay*delay)))))) else
  V false).bind fun b1=>
 bif b1 then V (W64 ((W64 (r1.tdiv 500))+1)) else
 (qfn n r1 500 mode).bind fun r2=>
 V r2
theorem qpF {slew:Int}{delay:Int}{mode:Int}  {r:Int}(F:qjJ n slew delay mode=V r):RetV prog 297 [.int .i64 slew,.int .i64 delay,.int .i64 mode] w r:=by
 refine zV 35 func297 Z fun h=>X0 20 Z (zcI h F qsR Z fun r1 _ h F=>X0 4 Z ?_);obtain⟨KF1,hKF1,_,F,hK1⟩:=bindE F;refine qbe (fun e w'=>∃(b1:Bool),KF1 b1=V r∧e=[(2,.int .i64 mode),(8,.int .i64 r1),(28,.bool b1)]∧SH w w' []) ?_ ?_
 ·refine X0 4 Z (qm (t:=22) F Z ?_ ?_)<;>intro F
  ·refine X0 12 Z ?_;obtain rfl:=qb F;exact rG ⟨_,hK1,rfl,h⟩ Z
  refine X0 7 Z ?_;obtain rfl:=qb F;exact rG ⟨_,hK1,rfl,h⟩ Z
 rintro _ _ ⟨b1,F,rfl,h⟩;subst hKF1;refine qh Z F ?_ ?_<;>intro F
 ·exact X0 7 Z (ri h F Z)
 exact X0 5 Z (zcI h F qjd Z fun _ _ h F=>X0 2 Z (ri h F Z))
def qbq (n:Nat)(v:(Option Tview))(link:Int)(slew:Int)(mode:Int):Option Int:=
 (v).bind fun y1=>
 (idx y1.links link).bind fun y2=>
 (qfa n v y2).bind fun r1=>
 bif (y2.Aq==1) then
  (idx y1.loads r1).bind fun y3=>
  (qgO n v y2).bind fun r2=>
  (idx r2.Ba (y2.To.tmod 2)).bind fun y4=>
  (qdX n y4 slew y3 mode).bind fun r3=>
  V (if 1000000<r3 then 1000000 else r3)
 else
  (idx y1.delays r1).bind fun y5=>
  (idx y5 y2.Bw).bind fun y6=>
  (qjJ n slew y6 mode).bind fun r4=>
  V (if 1000000<r4 then 1000000 else r4)
theorem qg6 {v:(Option Tview)}{link:Int}{slew:Int}{mode:Int}(ha1:Ro w v cs1){r:Int}(F:qbq n v link slew mode=V r):RetV prog 265 [GoT.v (Option Tview) cs1,.int .i64 link,.int .i64 slew,.int .i64 mode] w r:=by
 obtain⟨_,rfl,s1⟩:=qct ha1;refine zV 59 func265 Z fun h=>X0 7 Z ?_;obtain⟨_,hy1,F⟩:=qc F;obtain⟨_,o_1,_,rfl,-,hr1,hc1⟩:=PtR.get s1 hy1;obtain⟨_,_,_,_,_,_,_,_,_,_,_,_,_,_,_,_,_,_,_,_,rfl,s2,s3,s4,s5,s6,s7,s8,s9,s10,s11⟩:=qb3 hr1;refine zp2 Z (zc 6 (hc1.below h.below) Z (zp1 Z ?_));obtain⟨y2,_,F,he1,_,_,_,_,hp1,hq1,hr2,hc2⟩:=s8.ix F;obtain rfl:=qav hr2;refine zxe hp1 hq1 he1 Z (zc 0 (hc2.below h.below) Z (qp qa h Z Z Z fun _ _ h=>zs 0 h Z fun _ h=>X1 5 0 h Z (zcI h F (qiv (h.old s1) (qcf y2)) Z fun _ _ h F=>X1 9 0 h Z (qh Z F ?_ ?_))))<;>intro F
 ·refine qcQ (rA [] [0] h Z fun _ h=>M2 7795 [0,1,4,5,6,9,10,11,12] 0 0 (h.pick [0] Z) Z (Al 13 15987 7 hc1 (h.pick [0] Z) Z (M0 32371 [14] (h.pick [0] Z) Z ?_)));obtain⟨_,_,F,he2,_,_,_,_,hp2,hq2,rfl,hc4⟩:=s9.ix F;refine Ae 15 65139 hp2 hq2 he2 (h.pick [0] Z) Z (Al 16 130675 0 hc4 (h.pick [0] Z) Z (M0 261747 [17] (h.pick [0] Z) Z (Ao 2 261751 Z ?_)));have hg1:Rg (old w) w (old w) w:=.start (fun _ h=>h);obtain⟨r2,hr5,F⟩:=qc F;refine qnC r2 hg1 h (cB 282 Z) (qkY (hg1.regOld h) (hg1.inR h s1) (qcf y2) hr5) Z Z Z Z fun _ _ _ hg2 hu1 hz1 hv1=>?_;have hL1:=h.ext hu1.below;have hc5:=Up.C h hu1 hc1;have s12:=Up.S hg1 h hu1 s2;have s13:=Up.S hg1 h hu1 s3;have s14:=Up.S hg1 h hu1 s4;have s15:=Up.S hg1 h hu1 s5;have s16:=Up.S hg1 h hu1 s6;have s17:=Up.S hg1 h hu1 s7;have s18:=Up.S hg1 h hu1 s8;have s19:=Up.S hg1 h hu1 s9;have s20:=Up.S hg1 h hu1 s10;have s21:=Up.S hg1 h hu1 s11;have hb1:=h.below.trans (hu1.below.mono h.below.size);have hC1:=((h.pick [0] Z)).ext hu1.below;replace h:=hz1;obtain⟨_,rfl,hr6⟩:=qon hv1;have ha2:=hr6;obtain⟨_,_,_,_,rfl,_,s23⟩:=qX hr6;refine qbf (fun _=>(hC1.ext h.below)) (qhs 3 Z (bits 21 261759) (by kernel_rfl) (by kernel_rfl) (fun w' hw=>v_p qa Z w') (hC1.ext h.below) Z ?_);obtain⟨y4,_,F,he3,_,_,_,_,hp3,hq3,hr7,hc6⟩:=s23.ix F;obtain⟨_,_,_,_,_,_,rfl,s24,s25,s26⟩:=qaJ hr7;refine qhs 7 Z (bits 21 261887) (by kernel_rfl) (by kernel_rfl) (fun w' hw=>qvw qa hp3 hq3 ⟨he3.1,he3.2.1⟩ Z Z Z Z Z Z) (hC1.ext h.below) Z (Ao 8 262143 Z (zc 0 (hc6.below h.below) Z (qbf (fun _=>(hC1.ext h.below)) (Ao 18 524287 Z (zcI h F (qj0 (qfE y4 (h.oldS (s24.mono hg2.old)) (h.oldS (s25.mono hg2.old)) (h.oldS (s26.mono hg2.old)))) Z fun _ _ h F=>qbf (fun _=>(hC1.ext h.below)) (qhs 19 Z (bits 21 1048575) (by kernel_rfl) (by kernel_rfl) (fun w' hw=>v_p qa Z w') (hC1.ext h.below) Z (qhs 20 Z (bits 21 2097151) (by kernel_rfl) (by kernel_rfl) (fun w' hw=>v_p qa Z w') (hC1.ext h.below) Z (Ad ?_))))))));replace h:=h.unbase hg2.below (show NoD [] from trivial);exact ri h F Z
 refine zKS (rD (zd4 Z (zdc 8 (hc1.below h.below) Z (zd1 Z ?_))));obtain⟨_,_,F,he4,_,_,_,_,hp4,hq4,hr9,hc7⟩:=s10.ix F;obtain⟨_,_,rfl,s27⟩:=hr9;refine zdxe hp4 hq4 he4 Z (zdc 0 (hc7.below h.below) Z (Y1 2 0 h Z ?_));obtain⟨_,_,F,he5,_,_,_,_,hp5,hq5,rfl,hc8⟩:=s27.ix F;refine zdxe hp5 hq5 he5 Z (zdc 0 (hc8.below h.below) Z (zd1 Z ?_));obtain⟨r4,hr11,F⟩:=qc F;exact qbJ r4 (vsI _) (cB 297 Z) (fun _ hb=>qpF  hr11) Z Z Z Z (zd2 Z (dN h fun _ h=>ri h F Z))
end Go.Fw


namespace Go.Fw
open Go Go.Proofs Go.Proofs.Tryz
open Go.RowKit (Below)
set_option maxRecDepth 100000
set_option maxHeartbeats 1600000
variable {n:Nat}{w:World}{cs1 cs2 cs3 cs4 cs5 cs6 cs7 cs8 cs9:List Value}
def qgE (n:Nat)(a_0:(Option Tview))(a_1:qy)(a_2:Int)(a_3:qi):Option (qi×qi):=
 (qbo n a_0 a_1 a_2 a_3.Ar 0).bind fun r1=>
 (qbo n a_0 a_1 a_2 a_3.Ay 0).bind fun r2=>
 (qbo n a_0 a_1 a_2 a_3.Ar 1).bind fun r3=>
 (qbo n a_0 a_1 a_2 a_3.Ay 1).bind fun r4=>
 (a_0).bind fun y1=>
 (idx y1.links a_2).bind fun y2=>
 (
  bif decide ((y1.extras.length:Int) > 0) then V (y2.Aq==2) else
  V false).bind fun b3=>
 (
  bif b3 then
   (qfa n a_0 y2).bind fun r9=>
   (idx y1.extras r9).bind fun y3=>
   V (W64 ((if r2<r1 then r2 else r1)-y3),W64 ((if r4 > r3 then r4 else r3)+y3))
  else
   V ((if r2<r1 then r2 else r1),(if r4 > r3 then r4 else r3))).bind fun o=>match o with
  | (i1,i2)=>
   (qbq n a_0 a_2 a_3.Ar 0).bind fun r5=>
   (qbq n a_0 a_2 a_3.Ay 0).bind fun r6=>
   (qbq n a_0 a_2 a_3.Ar 1).bind fun r7=>
   (qbq n a_0 a_2 a_3.Ay 1).bind fun r8=>
   V ((⟨i1,i2⟩:qi),(⟨(if r6<r5 then r6 else r5),(if r8 > r7 then r8 else r7)⟩:qi))
theorem qeY {a_0:(Option Tview)}{a_1:qy}{a_2:Int}{a_3:qi}(ha1:Ro w a_0 cs1)(ha2:Ro w a_1 cs2)(ha3:Ro w a_3 cs3){r:(qi×qi)}(F:qgE n a_0 a_1 a_2 a_3=V r):RetV prog 224 [GoT.v (Option Tview) cs1,GoT.v qy cs2,.int .i64 a_2,GoT.v qi cs3] w r:=by
 obtain⟨p1,rfl,s1⟩:=qct ha1;obtain rfl:=qag ha2;obtain rfl:=qD ha3;refine zV 100 func224 Z fun h=>zSR (qx h Z Z fun _ _ h=>qx h Z Z fun _ _ h=>qp qa h Z Z Z fun _ bb3 h=>qp qa h Z Z Z fun _ bb4 h=>zNS (rD (Y1 2 2 h Z ?_)));refine Y1 2 2 h Z ?_;refine zd2 Z (dN h fun _ h=>qcQ ?_);obtain⟨r1,hr1,F⟩:=qc F;obtain⟨r2,hr2,F⟩:=qc F;obtain⟨r3,hr3,F⟩:=qc F;obtain⟨r4,hr4,F⟩:=qc F;refine qbe (fun e w'=>∃(bb11:Nat),e=[(0,.pointer p1),(2,.int .i64 a_2),(8,.pointer (V ⟨bb3,0,U⟩)),(9,.pointer (V ⟨bb4,0,U⟩)),(10,.int .i64 a_3.Ar),(11,.int .i64 a_3.Ay),(12,.pointer (V ⟨bb11,0,U⟩))]∧SH w w' [Ch.box bb11 [.int .i64 (if r2<r1 then r2 else r1),.int .i64 (if r4 > r3 then r4 else r3)] 138,Ch.box bb4 [.int .i64 0,.int .i64 0] 138,Ch.box bb3 [.int .i64 0,.int .i64 0] 138]) ?_ ?_
 ·refine rA [24] [3] h Z fun _ h=>M4 1014255 [0,1,2,3,5,6,7,8,11,12,13,14,16,17,18,19] 0 0 0 0 (h.pick [3] Z) Z (At 4 23 1014271 9402863 Z ?_ ?_)
  ·refine qcv r1 h (cB 249 Z) (qau (h.old s1) (h.old ha2) hr1) Z Z Z Z fun _ h=>Ag (h.pick [3] Z) (At 9 23 1014783 9402879 Z ?_ ?_)
   ·refine qcv r2 h (cB 249 Z) (qau (h.old s1) (h.old ha2) hr2) Z Z Z Z fun _ h=>G0 1015807 [10] (h.pick [3] Z) Z (At 15 23 1048575 9404415 Z ?_ ?_)
    ·refine qcv r3 h (cB 249 Z) (qau (h.old s1) (h.old ha2) hr3) Z Z Z Z fun _ h=>Ag (h.pick [3] Z) (At 20 23 2097151 9437183 Z ?_ ?_)
     ·refine qcv r4 h (cB 249 Z) (qau (h.old s1) (h.old ha2) hr4) Z Z Z Z fun _ h=>G0 4194303 [21] (h.pick [3] Z) Z (Aw 22 8388607 (fun w' hw=>qJ qa [0,1] [.tmp 30,.tmp 41] Z Z Z Z Z Z Z Z) (h.pick [3] Z) Z ?_);refine Ao 23 16777215 Z (qp qa h Z Z Z fun _ _ h=>Ag (h.pick [4] Z) (Ao 24 33554431 Z (zs 0 h Z fun _ h=>qbf (fun hs=>absurd (hs 24 (by decide)) (by decide)) (Ad ?_))));replace h:=h.pick [0,1,2] Z;exact rG ⟨_,rfl,h⟩ Z
     refine qp qa h Z Z Z fun _ _ h=>Ag (h.pick [4] Z) (Ao 20 10485759 Z (qcv r4 h (cB 249 Z) (qau (h.old s1) (h.old ha2) hr4) Z Z Z Z fun _ h=>G0 12582911 [21] (h.pick [4] Z) Z (Aw 22 16777215 (fun w' hw=>qJ qa [0,1] [.tmp 30,.tmp 41] Z Z Z Z Z Z Z Z) (h.pick [4] Z) Z ?_)));refine Ao 24 33554431 Z (zs 0 h Z fun _ h=>qbf (fun hs=>absurd (hs 24 (by decide)) (by decide)) (Ad ?_));replace h:=h.pick [0,1,2] Z;exact rG ⟨_,rfl,h⟩ Z
    refine qp qa h Z Z Z fun _ _ h=>Ag (h.pick [4] Z) (Ao 15 9437183 Z (qcv r3 h (cB 249 Z) (qau (h.old s1) (h.old ha2) hr3) Z Z Z Z fun _ h=>Ag (h.pick [4] Z) (Ao 20 10485759 Z (qcv r4 h (cB 249 Z) (qau (h.old s1) (h.old ha2) hr4) Z Z Z Z fun _ h=>G0 12582911 [21] (h.pick [4] Z) Z (Aw 22 16777215 (fun w' hw=>qJ qa [0,1] [.tmp 30,.tmp 41] Z Z Z Z Z Z Z Z) (h.pick [4] Z) Z ?_)))));refine Ao 24 33554431 Z (zs 0 h Z fun _ h=>qbf (fun hs=>absurd (hs 24 (by decide)) (by decide)) (Ad ?_));replace h:=h.pick [0,1,2] Z;exact rG ⟨_,rfl,h⟩ Z
   refine qp qa h Z Z Z fun _ _ h=>Ag (h.pick [4] Z) (Ao 9 9403391 Z (qcv r2 h (cB 249 Z) (qau (h.old s1) (h.old ha2) hr2) Z Z Z Z fun _ h=>G0 9404415 [10] (h.pick [4] Z) Z (Ao 15 9437183 Z (qcv r3 h (cB 249 Z) (qau (h.old s1) (h.old ha2) hr3) Z Z Z Z fun _ h=>Ag (h.pick [4] Z) (Ao 20 10485759 Z (qcv r4 h (cB 249 Z) (qau (h.old s1) (h.old ha2) hr4) Z Z Z Z fun _ h=>G0 12582911 [21] (h.pick [4] Z) Z (Aw 22 16777215 (fun w' hw=>qJ qa [0,1] [.tmp 30,.tmp 41] Z Z Z Z Z Z Z Z) (h.pick [4] Z) Z ?_)))))));refine Ao 24 33554431 Z (zs 0 h Z fun _ h=>qbf (fun hs=>absurd (hs 24 (by decide)) (by decide)) (Ad ?_));replace h:=h.pick [0,1,2] Z;exact rG ⟨_,rfl,h⟩ Z
  refine qp qa h Z Z Z fun _ _ h=>Ag (h.pick [4] Z) (Ao 4 9402879 Z (qcv r1 h (cB 249 Z) (qau (h.old s1) (h.old ha2) hr1) Z Z Z Z fun _ h=>Ag (h.pick [4] Z) (Ao 9 9403391 Z (qcv r2 h (cB 249 Z) (qau (h.old s1) (h.old ha2) hr2) Z Z Z Z fun _ h=>G0 9404415 [10] (h.pick [4] Z) Z (Ao 15 9437183 Z (qcv r3 h (cB 249 Z) (qau (h.old s1) (h.old ha2) hr3) Z Z Z Z fun _ h=>Ag (h.pick [4] Z) (Ao 20 10485759 Z (qcv r4 h (cB 249 Z) (qau (h.old s1) (h.old ha2) hr4) Z Z Z Z fun _ h=>G0 12582911 [21] (h.pick [4] Z) Z (Aw 22 16777215 (fun w' hw=>qJ qa [0,1] [.tmp 30,.tmp 41] Z Z Z Z Z Z Z Z) (h.pick [4] Z) Z ?_)))))))));refine Ao 24 33554431 Z (zs 0 h Z fun _ h=>qbf (fun hs=>absurd (hs 24 (by decide)) (by decide)) (Ad ?_));replace h:=h.pick [0,1,2] Z;exact rG ⟨_,rfl,h⟩ Z
 rintro _ _ ⟨bb11,rfl,h⟩;refine X0 4 Z ?_;obtain⟨_,hy1,F⟩:=qc F;obtain⟨b1,o_1,_,rfl,-,hr5,hc1⟩:=PtR.get s1 hy1;obtain⟨_,_,_,_,_,_,_,_,_,_,_,_,_,_,_,_,_,_,_,_,rfl,_,_,_,_,_,_,s8,_,_,s11⟩:=qb3 hr5;refine zp2 Z (zc 6 (hc1.below h.below) Z (zp1 Z ?_));obtain⟨y2,_,F,he1,_,_,_,_,hp1,hq1,hr6,hc2⟩:=s8.ix F;obtain rfl:=qav hr6;refine zxe hp1 hq1 he1 Z (zc 0 (hc2.below h.below) Z (qp qa h Z Z Z fun _ bb17 h=>zs 0 h Z fun _ h=>zNS ?_));obtain⟨KF2,hKF2,_,F,hK2⟩:=bindE F;refine qbe (fun e w'=>∃(b3:Bool),KF2 b3=V r∧e=[(0,.pointer (V ⟨b1,o_1,U⟩)),(2,.int .i64 a_2),(8,.pointer (V ⟨bb3,0,U⟩)),(9,.pointer (V ⟨bb4,0,U⟩)),(10,.int .i64 a_3.Ar),(11,.int .i64 a_3.Ay),(12,.pointer (V ⟨bb11,0,U⟩)),(13,.pointer (V ⟨bb17,0,U⟩)),(60,.bool b3)]∧SH w w' [Ch.box bb17 (qkv y2) 187,Ch.box bb11 [.int .i64 (if r2<r1 then r2 else r1),.int .i64 (if r4 > r3 then r4 else r3)] 138,Ch.box bb4 [.int .i64 0,.int .i64 0] 138,Ch.box bb3 [.int .i64 0,.int .i64 0] 138]) ?_ ?_
 ·refine X0 4 Z (zc 9 (hc1.below h.below) Z (zp3 Z (qm (t:=56) F Z ?_ ?_)))<;>intro F
  ·refine X1 8 0 h Z ?_;obtain rfl:=qb F;exact rG ⟨_,hK2,rfl,h⟩ Z
  refine X0 5 Z ?_;obtain rfl:=qb F;exact rG ⟨_,hK2,rfl,h⟩ Z
 rintro _ _ ⟨b3,F,rfl,h⟩;subst hKF2;obtain⟨KF1,hKF1,_,F,hK1⟩:=bindE F;refine qbe (fun e w'=>∃(i1:Int) (i2:Int),KF1 (i1,i2)=V r∧e=[(0,.pointer (V ⟨b1,o_1,U⟩)),(2,.int .i64 a_2),(8,.pointer (V ⟨bb3,0,U⟩)),(9,.pointer (V ⟨bb4,0,U⟩)),(10,.int .i64 a_3.Ar),(11,.int .i64 a_3.Ay),(12,.pointer (V ⟨bb11,0,U⟩))]∧SH w w' [Ch.box bb11 [.int .i64 i1,.int .i64 i2] 138,Ch.box bb4 [.int .i64 0,.int .i64 0] 138,Ch.box bb3 [.int .i64 0,.int .i64 0] 138]) ?_ ?_
 ·refine qh Z F ?_ ?_<;>intro F
  ·refine qcQ (rD (zd3 Z (zdc 9 (hc1.below h.below) Z (Y1 2 0 h Z ?_))));obtain⟨r9,hr11,F⟩:=qc F;refine qbJ r9 (vsI _) (cB 264 Z) (fun _ hb=>qiv ((h.ext hb).old s1) (qcf y2) hr11) Z Z Z Z ?_;obtain⟨_,_,F,he2,_,_,_,_,hp2,hq2,rfl,hc4⟩:=s11.ix F;refine zdxe hp2 hq2 he2 Z (zdc 0 (hc4.below h.below) Z (zd1 Z (dN h fun _ h=>X2 9 1 1 h Z (r_v (qJ qa [0,1] [.tmp 73,.tmp 77] Z Z Z Z Z Z Z Z) Z (zs 1 h Z fun _ h=>qcP ?_)))));replace h:=h.pick [1,2,3] Z;obtain rfl:=qb F;exact rG ⟨_,_,hK1,rfl,h⟩ Z
  refine qio ?_;replace h:=h.pick [1,2,3] Z;obtain rfl:=qb F;exact rG ⟨_,_,hK1,rfl,h⟩ Z
 rintro _ _ ⟨i1,i2,F,rfl,h⟩;subst hKF1;refine X0 5 Z (zcI h F (qg6 (h.old s1)) Z fun r5 _ h F=>zp3 Z (zcI h F (qg6 (h.old s1)) Z fun r6 _ h F=>zp4 Z (zcI h F (qg6 (h.old s1)) Z fun r7 _ h F=>zp3 Z (zcI h F (qg6 (h.old s1)) Z fun r8 _ h F=>zp1 Z (r_v (qJ qa [0,1] [.tmp 87,.tmp 96] Z Z Z Z Z Z Z Z) Z (qp qa h Z Z Z fun _ _ h=>zs 0 h Z fun _ h=>zNS (rA [] [0,1] h Z fun _ h=>M2 3 [0,1] 1 0 (h.pick [0,1] Z) Z (Ao 2 7 Z (zs 3 h Z fun _ h=>Ag (h.pick [0,1] Z) (Ao 3 15 Z (zs 2 h Z fun _ h=>Ag (h.pick [0,1] Z) (Ad ?_))))))))))));obtain rfl:=qb F;exact qae qa (ρ:=(qi×qi)) [GoT.v qi [.int .i64 i1,.int .i64 i2],GoT.v qi [.int .i64 (if r6<r5 then r6 else r5),.int .i64 (if r8 > r7 then r8 else r7)]] h ⟨⟨_,_,_,rfl,rfl,h.box 3 Z,rfl⟩,⟨_,_,_,rfl,rfl,h.box 2 Z,rfl⟩,trivial⟩ (PV.done h (qap h (qA (S:=fun _=>False) (qP (⟨i1,i2⟩:qi))) (qaj (qA (S:=fun _=>False) (qP (⟨(if r6<r5 then r6 else r5),(if r8 > r7 then r8 else r7)⟩:qi)))) (by rfl)))
def qkT (_:Nat)(s:qi)(t:qi):Option qi:=
 V (⟨W64 (s.Ar+t.Ar),W64 (s.Ay+t.Ay)⟩:qi)
theorem qoG {s:qi}{t:qi}(ha1:Ro w s cs1)(ha2:Ro w t cs2){r:qi}(F:qkT n s t=V r):RetV prog 225 [GoT.v qi cs1,GoT.v qi cs2] w r:=by
 obtain rfl:=qD ha1;obtain rfl:=qD ha2;refine zV 16 func225 Z fun h=>zSR (qx h Z Z fun _ _ h=>qx h Z Z fun _ _ h=>qp qa h Z Z Z fun _ _ h=>X4 13 2 1 2 1 h Z (r_v (qJ qa [0,1] [.tmp 9,.tmp 14] Z Z Z Z Z Z Z Z) Z (zs 0 h Z fun _ h=>qcP ?_)));obtain rfl:=qb F;exact qae qa (ρ:=qi) [GoT.v qi [.int .i64 (W64 (s.Ar+t.Ar)),.int .i64 (W64 (s.Ay+t.Ay))]] h ⟨⟨_,_,_,rfl,rfl,h.box 0 Z,rfl⟩,trivial⟩ (PV.done h (qaj (qA (S:=fun _=>False) (qP (⟨W64 (s.Ar+t.Ar),W64 (s.Ay+t.Ay)⟩:qi)))))
def qbw (a_0:(Option Tgraph))(a_1:qy)(a_3:qB)(r4:(List Int)):Nat→Bool→Int→Int→Int→Int→Int→Int→Option (Bool×Int×Int×Int×Int×Int×Int)
 | 0,_,_,_,_,_,_,_=>U
 | n+1,b2,i6,i7,i8,i9,i10,i11=>
  bif decide (i11<(r4.length:Int)) then
   (idx r4 i11).bind fun y1=>
   (a_0).bind fun y2=>
   (y2.view).bind fun y3=>
   (idx y3.links y1).bind fun y4=>
   (idx a_3.Bb y4.Bc).bind fun y5=>
   bif y5 then
    (idx a_3.Ba y4.Bc).bind fun y6=>
    (qgE n y2.view a_1 y1 y6).bind fun o=>match o with
     | (r6,r7)=>
      (idx a_3.Ai y4.Bc).bind fun y9=>
      (qkT n y9 r6).bind fun r10=>
      (qdt n (⟨i6,(⟨i7,i8⟩:qi),(⟨i9,i10⟩:qi)⟩:qw) b2 r10 r7).bind fun o=>match o with
       | (x7,x8)=>
        qbw a_0 a_1 a_3 r4 n x8 x7.Bt x7.Ai.Ar x7.Ai.Ay x7.Ba.Ar x7.Ba.Ay (W64 (i11+1))
   else
    qbw a_0 a_1 a_3 r4 n b2 i6 i7 i8 i9 i10 (W64 (i11+1))
  else
   V (b2,i6,i7,i8,i9,i10,i11)
def qdL (n:Nat)(a_0:(Option Tgraph))(a_1:qy)(a_2:(List qw))(a_3:qB)(a_4:Int):Option (Bool×qw):=
 (qjx n a_2 a_4).bind fun o=>match o with
  | (r2,r3)=>
   (
    bif r3 then
     (qdt n (⟨a_4,(⟨0,0⟩:qi),(⟨0,0⟩:qi)⟩:qw) false (⟨r2.Ai.Ar,r2.Ai.Ay⟩:qi) (⟨r2.Ba.Ar,r2.Ba.Ay⟩:qi)).bind fun o=>match o with
      | (x9,x10)=>
       V (x10,x9.Bt,x9.Ai.Ar,x9.Ai.Ay,x9.Ba.Ar,x9.Ba.Ay)
    else
     V (false,a_4,0,0,0,0)).bind fun o=>match o with
    | (b1,i1,i2,i3,i4,i5)=>
     (qjA n a_0 a_4).bind fun r4=>
     (qbw a_0 a_1 a_3 r4 n b1 i1 i2 i3 i4 i5 0).bind fun o=>match o with
     | (b2,i6,i7,i8,i9,i10,_)=>
      bif (!b2) then V (false,(⟨0,(⟨0,0⟩:qi),(⟨0,0⟩:qi)⟩:qw)) else
      V (true,(⟨i6,(⟨i7,i8⟩:qi),(⟨i9,i10⟩:qi)⟩:qw))
theorem ql8 {a_0:(Option Tgraph)}{a_1:qy}{a_2:(List qw)}{a_3:qB}{a_4:Int}(ha1:Ro w a_0 cs1)(ha2:Ro w a_1 cs2)(ha3:Ro w a_2 cs3)(ha4:Ro w a_3 cs4){r:(Bool×qw)}(F:qdL n a_0 a_1 a_2 a_3 a_4=V r):RetV prog 157 [GoT.v (Option Tgraph) cs1,GoT.v qy cs2,GoT.v (List qw) cs3,GoT.v qB cs4,.int .i64 a_4] w r:=by
 obtain⟨p1,rfl,s1⟩:=qct ha1;obtain rfl:=qag ha2;obtain⟨_,_,rfl,s2⟩:=ha3;obtain⟨p3,k2,p4,k3,p5,k4,rfl,s3,s4,s5⟩:=qfi ha4;refine zV 88 func157 Z fun h=>zSR (qx h Z Z fun _ bb1 h=>qx h Z Z fun _ bb2 h=>zp1 Z (qp qa h Z Z Z fun _ bb3 h=>X0 4 Z (r_v (qJ qa [0] [.tmp 21] Z Z Z Z Z Z Z Z) Z (qp qa h Z Z Z fun _ bb4 h=>zs 0 h Z fun _ h=>zNSR (qp qa h Z Z Z fun _ bb5 h=>zs 0 h Z fun _ h=>X0 6 Z ?_)))));obtain⟨r1,hr1,F⟩:=qc F;obtain⟨r2,r3⟩:=r1;refine qa3 (r2,r3) h (cB 221 Z) (qo9 ⟨_,_,rfl,(h.oldS s2)⟩ hr1) Z Z Z Z fun _ _ _ hv1 hr2=>?_;obtain⟨S2,_,_,_,rfl,hv2,hr3⟩:=hv1.cons hr2;obtain rfl:=qfu (hv2.sh.own 0 Z);obtain⟨rfl,h⟩:=hv2.lastB hr3;refine zp3 Z (qp qa h Z Z Z fun _ bb6 h=>zs 0 h Z fun _ h=>X0 6 Z ?_);obtain⟨KF1,hKF1,_,F,hK2⟩:=bindE F;refine qbe (fun e w'=>∃(b1:Bool) (i1:Int) (i2:Int) (i3:Int) (i4:Int) (i5:Int),KF1 (b1,i1,i2,i3,i4,i5)=V r∧e=[(0,.pointer p1),(4,.int .i64 a_4),(6,.pointer (V ⟨bb1,0,U⟩)),(8,.pointer (V ⟨bb2,0,U⟩)),(11,.pointer (V ⟨bb3,0,U⟩)),(12,.pointer (V ⟨bb4,0,U⟩)),(13,.pointer (V ⟨bb5,0,U⟩))]∧SH w w' [Ch.box bb5 [.bool b1] 4,Ch.box bb4 [.int .i64 i1,.int .i64 i2,.int .i64 i3,.int .i64 i4,.int .i64 i5] 140,Ch.box bb3 [.int .i64 0,.int .i64 0,.int .i64 0,.int .i64 0,.int .i64 0] 140,Ch.box bb2 (qbd a_3 p3 p4 p5 k2 k3 k4) 57,Ch.box bb1 (qad a_1) 77]) ?_ ?_
 ·refine qh Z F ?_ ?_<;>intro F
  ·refine X2 5 0 0 h Z ?_;replace h:=h.pick [2,3,0,1,4,5,6] Z;obtain⟨o6,hr43,F⟩:=qc F;obtain⟨x9,x10⟩:=o6;refine qsC (cB 222 Z) (qhA h hr43) Z Z Z Z fun _ h=>?_;replace h:SH _ _ [Ch.box bb5 [.bool x10] 4,Ch.box bb4 (qgf x9) 140,Ch.box bb6 (qgf r2) 140,Ch.own S2 (r2:qw) (qgf r2),Ch.box bb3 [.int .i64 0,.int .i64 0,.int .i64 0,.int .i64 0,.int .i64 0] 140,Ch.box bb2 (qbd a_3 p3 p4 p5 k2 k3 k4) 57,Ch.box bb1 (qad a_1) 77]:=h;refine qcP ?_;replace h:=h.pick [0,1,4,5,6] Z;obtain rfl:=qb F;exact rG ⟨_,_,_,_,_,_,hK2,rfl,h⟩ Z
  refine qio ?_;replace h:=h.pick [2,3,4,5,6] Z;obtain rfl:=qb F;exact rG ⟨_,_,_,_,_,_,hK2,rfl,h⟩ Z
 rintro _ _ ⟨b1,i1,i2,i3,i4,i5,F,rfl,h⟩;subst hKF1;refine X0 5 Z (zcL h F (qpa (h.old s1)) Z fun r4 _ S5 p6 k5 h F=>X0 3 Z ?_);obtain⟨o1,F,hK1⟩:=qc F;refine qn (rL (fun m e w'=>∃(b2:Bool) (i6:Int) (i7:Int) (i8:Int) (i9:Int) (i10:Int) (i11:Int),qbw a_0 a_1 a_3 r4 m b2 i6 i7 i8 i9 i10 i11=V o1∧e=[(0,.pointer p1),(6,.pointer (V ⟨bb1,0,U⟩)),(8,.pointer (V ⟨bb2,0,U⟩)),(11,.pointer (V ⟨bb3,0,U⟩)),(12,.pointer (V ⟨bb4,0,U⟩)),(13,.pointer (V ⟨bb5,0,U⟩)),(37,.slice p6 r4.length k5),(38,.int .i64 (r4.length:Int)),(39,.int .i64 i11)]∧SH w w' [Ch.own S5 (r4:List Int) [.slice p6 r4.length k5],Ch.box bb5 [.bool b2] 4,Ch.box bb4 [.int .i64 i6,.int .i64 i7,.int .i64 i8,.int .i64 i9,.int .i64 i10] 140,Ch.box bb3 [.int .i64 0,.int .i64 0,.int .i64 0,.int .i64 0,.int .i64 0] 140,Ch.box bb2 (qbd a_3 p3 p4 p5 k2 k3 k4) 57,Ch.box bb1 (qad a_1) 77]) n ⟨_,_,_,_,_,_,_,F,rfl,h⟩ Z ?_);rintro m1 _ _ ⟨b2,i6,i7,i8,i9,i10,i11,F,rfl,h⟩;rcases m1 with _|m1
 ·cases F
 refine X0 5 Z (qh Z F ?_ ?_)<;>intro F
 ·refine zKSBSR ?_;obtain⟨_,_,F,he1,_,_,_,_,hp1,hq1,rfl,hc2⟩:=(h.sl 0 Z).1.ix F;refine zx hp1 hq1 ⟨he1.1,qC he1.2.1 (h.sl 0 Z).2⟩ Z (zc 0 hc2 Z (X0 5 Z ?_));obtain⟨_,hy2,F⟩:=qc F;obtain⟨b4,o_2,_,rfl,-,hr7,hc3⟩:=PtR.get s1 hy2;obtain⟨_,_,_,rfl,s6,_⟩:=qhg hr7;refine zp2 Z (zc 0 (hc3.below h.below) Z ?_);obtain⟨_,hy3,F⟩:=qc F;obtain⟨_,o_3,_,rfl,-,hr8,hc4⟩:=PtR.get s6 hy3;obtain⟨_,_,_,_,_,_,_,_,_,_,_,_,_,_,_,_,_,_,_,_,rfl,_,_,_,_,_,_,s14,_,_,_⟩:=qb3 hr8;refine zp2 Z (zc 6 (hc4.below h.below) Z (zp1 Z ?_));obtain⟨y4,_,F,he2,_,_,_,_,hp2,hq2,hr9,hc5⟩:=s14.ix F;obtain rfl:=qav hr9;refine zxe hp2 hq2 he2 Z (zp1 Z (zc 0 (hc5.below h.below) Z (X1 7 4 h Z ?_)));obtain⟨_,_,F,he3,_,_,_,_,hp3,hq3,rfl,hc6⟩:=s3.ix F;refine zxe hp3 hq3 he3 Z (zc 0 (hc6.below h.below) Z (qcP (qh Z F ?_ ?_)))<;>intro F
  ·refine qcQ (rA [] [4,5] h Z fun _ h=>M0 7 [0,1,2] (h.pick [4,5] Z) Z (Al 3 15 0 hc3 (h.pick [4,5] Z) Z (M2 511 [4,5,6,7,8] 1 0 (h.pick [4,5] Z) Z ?_)));obtain⟨y6,_,F,he4,_,_,_,_,hp4,hq4,hr11,hc8⟩:=s5.ix F;obtain rfl:=qD hr11;refine Ae 9 1023 hp4 hq4 he4 (h.pick [4,5] Z) Z (Al 10 2047 0 hc8 (h.pick [4,5] Z) Z ?_);obtain⟨r5,hr12,F⟩:=qc F;obtain⟨r6,r7⟩:=r5;refine qnx (fun e w'=>∃(bb31:Nat) (bb32:Nat),e=[(0,.pointer (V ⟨b4,o_2,U⟩)),(11,.pointer (V ⟨bb3,0,U⟩)),(12,.pointer (V ⟨bb4,0,U⟩)),(13,.pointer (V ⟨bb5,0,U⟩)),(18,.int .i64 y4.Bc),(19,.pointer (V ⟨bb32,0,U⟩)),(20,.pointer (V ⟨bb31,0,U⟩)),(37,.slice p6 r4.length k5),(38,.int .i64 (r4.length:Int)),(39,.int .i64 i11),(6,.pointer (V ⟨bb1,0,U⟩)),(8,.pointer (V ⟨bb2,0,U⟩))]∧SH w w' [Ch.box bb31 (qi0 r7) 138,Ch.box bb32 (qi0 r6) 138,Ch.own S5 (r4:List Int) [.slice p6 r4.length k5],Ch.box bb5 [.bool b2] 4,Ch.box bb4 [.int .i64 i6,.int .i64 i7,.int .i64 i8,.int .i64 i9,.int .i64 i10] 140,Ch.box bb3 [.int .i64 0,.int .i64 0,.int .i64 0,.int .i64 0,.int .i64 0] 140,Ch.box bb2 (qbd a_3 p3 p4 p5 k2 k3 k4) 57,Ch.box bb1 (qad a_1) 77]) 0 (bits 19 524287) ?_ ?_
   ·intro K;refine qqC 11 15 16 Z Z Z (bits 19 4095) (bits 19 34815) (bits 19 67583) (by kernel_rfl) (by kernel_rfl) (by kernel_rfl) (by kernel_rfl) ?_ ?_ ?_
    ·refine qa3 (r6,r7) h (cB 224 Z) (qeY (h.old s6) (h.old ha2) (qP y6) hr12) Z Z Z Z fun w54 S32 us15 hv22 hr37=>?_;obtain⟨S33,S34,cs28,us16,rfl,hv23,hr38⟩:=hv22.cons hr37;obtain rfl:=qD (hv23.sh.own 0 Z);obtain⟨cs29,rfl,h⟩:=hv23.last hr38;obtain rfl:=qD (h.own 0 Z);refine G0 32767 [12,13,14] (h.pick [6,7] Z) Z (At 15 16 65535 98303 Z ?_ ?_)
     ·refine qp qa h Z Z Z fun w55 bb29 h=>Ag (h.pick [7,8] Z) (Ao 16 131071 Z (qp qa h Z Z Z fun w56 bb30 h=>Ag (h.pick [8,9] Z) (Ao 17 262143 Z (zs 1 h Z fun w57 h=>Ag (h.pick [8,9] Z) (Ao 18 524287 Z (zs 0 h Z fun w58 h=>Ag (h.pick [8,9] Z) ?_))))));replace h:=h.pick [0,1,4,5,6,7,8,9] Z;exact qfK [(0,_),(11,_),(12,_),(13,_),(18,_),(19,_),(20,_),(37,_),(38,_),(39,_),(6,_),(8,_)] ⟨rfl,rfl,rfl,rfl,rfl,rfl,rfl,rfl,rfl,rfl,rfl,rfl,trivial⟩ (K _ _ ⟨_,_,rfl,h⟩)
     refine qp qa h Z Z Z fun w55 bb29 h=>Ag (h.pick [7,8] Z) (Ao 15 131071 Z (qp qa h Z Z Z fun w56 bb30 h=>Ag (h.pick [8,9] Z) (Ao 17 262143 Z (zs 0 h Z fun w57 h=>Ag (h.pick [8,9] Z) (Ao 18 524287 Z (zs 1 h Z fun w58 h=>Ag (h.pick [8,9] Z) ?_))))));replace h:=h.pick [1,0,4,5,6,7,8,9] Z;exact qfK [(0,_),(11,_),(12,_),(13,_),(18,_),(19,_),(20,_),(37,_),(38,_),(39,_),(6,_),(8,_)] ⟨rfl,rfl,rfl,rfl,rfl,rfl,rfl,rfl,rfl,rfl,rfl,rfl,trivial⟩ (K _ _ ⟨_,_,rfl,h⟩)
    ·refine qp qa h Z Z Z fun w54 bb29 h=>Ag (h.pick [5,6] Z) (At 11 16 36863 100351 Z ?_ ?_)
     ·refine qa3 (r6,r7) h (cB 224 Z) (qeY (h.old s6) (h.old ha2) (qP y6) hr12) Z Z Z Z fun w55 S32 us15 hv22 hr37=>?_;obtain⟨S33,S34,cs28,us16,rfl,hv23,hr38⟩:=hv22.cons hr37;obtain rfl:=qD (hv23.sh.own 0 Z);obtain⟨cs29,rfl,h⟩:=hv23.last hr38;obtain rfl:=qD (h.own 0 Z);refine G0 65535 [12,13,14] (h.pick [7,8] Z) Z (Ao 16 131071 Z (qp qa h Z Z Z fun w56 bb30 h=>Ag (h.pick [8,9] Z) (Ao 17 262143 Z (zs 3 h Z fun w57 h=>Ag (h.pick [8,9] Z) (Ao 18 524287 Z (zs 0 h Z fun w58 h=>Ag (h.pick [8,9] Z) ?_))))));replace h:=h.pick [0,3,4,5,6,7,8,9] Z;exact qfK [(0,_),(11,_),(12,_),(13,_),(18,_),(19,_),(20,_),(37,_),(38,_),(39,_),(6,_),(8,_)] ⟨rfl,rfl,rfl,rfl,rfl,rfl,rfl,rfl,rfl,rfl,rfl,rfl,trivial⟩ (K _ _ ⟨_,_,rfl,h⟩)
     refine qp qa h Z Z Z fun w55 bb30 h=>Ag (h.pick [6,7] Z) (Ao 11 102399 Z (qa3 (r6,r7) h (cB 224 Z) (qeY (h.old s6) (h.old ha2) (qP y6) hr12) Z Z Z Z fun w56 S32 us15 hv22 hr37=>?_));obtain⟨S33,S34,cs28,us16,rfl,hv23,hr38⟩:=hv22.cons hr37;obtain rfl:=qD (hv23.sh.own 0 Z);obtain⟨cs29,rfl,h⟩:=hv23.last hr38;obtain rfl:=qD (h.own 0 Z);refine G0 131071 [12,13,14] (h.pick [8,9] Z) Z (Ao 17 262143 Z (zs 3 h Z fun w57 h=>Ag (h.pick [8,9] Z) (Ao 18 524287 Z (zs 2 h Z fun w58 h=>Ag (h.pick [8,9] Z) ?_))));replace h:=h.pick [2,3,4,5,6,7,8,9] Z;exact qfK [(0,_),(11,_),(12,_),(13,_),(18,_),(19,_),(20,_),(37,_),(38,_),(39,_),(6,_),(8,_)] ⟨rfl,rfl,rfl,rfl,rfl,rfl,rfl,rfl,rfl,rfl,rfl,rfl,trivial⟩ (K _ _ ⟨_,_,rfl,h⟩)
    refine qp qa h Z Z Z fun w54 bb29 h=>Ag (h.pick [5,6] Z) (At 11 15 69631 100351 Z ?_ ?_)
    ·refine qa3 (r6,r7) h (cB 224 Z) (qeY (h.old s6) (h.old ha2) (qP y6) hr12) Z Z Z Z fun w55 S32 us15 hv22 hr37=>?_;obtain⟨S33,S34,cs28,us16,rfl,hv23,hr38⟩:=hv22.cons hr37;obtain rfl:=qD (hv23.sh.own 0 Z);obtain⟨cs29,rfl,h⟩:=hv23.last hr38;obtain rfl:=qD (h.own 0 Z);refine G0 98303 [12,13,14] (h.pick [7,8] Z) Z (Ao 15 131071 Z (qp qa h Z Z Z fun w56 bb30 h=>Ag (h.pick [8,9] Z) (Ao 17 262143 Z (zs 0 h Z fun w57 h=>Ag (h.pick [8,9] Z) (Ao 18 524287 Z (zs 3 h Z fun w58 h=>Ag (h.pick [8,9] Z) ?_))))));replace h:=h.pick [3,0,4,5,6,7,8,9] Z;exact qfK [(0,_),(11,_),(12,_),(13,_),(18,_),(19,_),(20,_),(37,_),(38,_),(39,_),(6,_),(8,_)] ⟨rfl,rfl,rfl,rfl,rfl,rfl,rfl,rfl,rfl,rfl,rfl,rfl,trivial⟩ (K _ _ ⟨_,_,rfl,h⟩)
    refine qp qa h Z Z Z fun w55 bb30 h=>Ag (h.pick [6,7] Z) (Ao 11 102399 Z (qa3 (r6,r7) h (cB 224 Z) (qeY (h.old s6) (h.old ha2) (qP y6) hr12) Z Z Z Z fun w56 S32 us15 hv22 hr37=>?_));obtain⟨S33,S34,cs28,us16,rfl,hv23,hr38⟩:=hv22.cons hr37;obtain rfl:=qD (hv23.sh.own 0 Z);obtain⟨cs29,rfl,h⟩:=hv23.last hr38;obtain rfl:=qD (h.own 0 Z);refine G0 131071 [12,13,14] (h.pick [8,9] Z) Z (Ao 17 262143 Z (zs 2 h Z fun w57 h=>Ag (h.pick [8,9] Z) (Ao 18 524287 Z (zs 3 h Z fun w58 h=>Ag (h.pick [8,9] Z) ?_))));replace h:=h.pick [3,2,4,5,6,7,8,9] Z;exact qfK [(0,_),(11,_),(12,_),(13,_),(18,_),(19,_),(20,_),(37,_),(38,_),(39,_),(6,_),(8,_)] ⟨rfl,rfl,rfl,rfl,rfl,rfl,rfl,rfl,rfl,rfl,rfl,rfl,trivial⟩ (K _ _ ⟨_,_,rfl,h⟩)
   rintro _ _ ⟨bb31,bb32,rfl,h⟩;refine Ad (rA [] [0,1,6] h Z fun _ h=>M1 7 [0,1,2] 2 (h.pick [0,1,6] Z) Z ?_);obtain⟨y9,_,F,he7,_,_,_,_,hp7,hq7,hr40,hc11⟩:=s4.ix F;obtain rfl:=qD hr40;refine Ae 3 15 hp7 hq7 he7 (h.pick [0,1,6] Z) Z (Al 4 31 0 hc11 (h.pick [0,1,6] Z) Z (M2 191 [5,7] 1 0 (h.pick [0,1,6] Z) Z (Ao 6 255 Z (zcO h F (qoG (qP y9) (qP r6)) Z fun r10 _ S36 _ h F=>?_))));obtain rfl:=qD (h.own 0 Z);refine Ag (h.pick [1,2,7] Z) (Ao 8 511 Z ?_);replace h:=h.pick [4,5,0,1,2,3,6,7,8] Z;obtain⟨o4,hr42,F⟩:=qc F;obtain⟨x7,x8⟩:=o4;refine qsC (cB 222 Z) (qhA h hr42) Z Z Z Z fun _ h=>?_;replace h:SH _ _ [Ch.box bb5 [.bool x8] 4,Ch.box bb4 (qgf x7) 140,Ch.own S36 (r10:qi) (qi0 r10),Ch.box bb31 (qi0 r7) 138,Ch.box bb32 (qi0 r6) 138,Ch.own S5 (r4:List Int) [.slice p6 r4.length k5],Ch.box bb3 [.int .i64 0,.int .i64 0,.int .i64 0,.int .i64 0,.int .i64 0] 140,Ch.box bb2 (qbd a_3 p3 p4 p5 k2 k3 k4) 57,Ch.box bb1 (qad a_1) 77]:=h;refine Ag (h.pick [3,4,7] Z) (Ad (X0 5 Z ?_));replace h:=h.pick [5,0,1,6,7,8] Z;exact rK ⟨_,_,_,_,_,_,_,F,rfl,h⟩ Z
  exact X0 6 Z (rK ⟨_,_,_,_,_,_,_,F,rfl,h⟩ Z)
 refine qq Z ?_;obtain rfl:=qb F;replace F:=hK1;refine X1 6 1 h Z (qh Z F ?_ ?_)<;>intro F
 ·refine zSR (r_v (qJ qa [] [] Z Z Z Z Z Z Z Z) Z (zp1 Z (zs 3 h Z fun _ h=>qcP ?_)));obtain rfl:=qb F;exact qae qa (ρ:=(Bool×qw)) [GoT.v Bool [.bool false],GoT.v qw [.int .i64 0,.int .i64 0,.int .i64 0,.int .i64 0,.int .i64 0]] h ⟨rfl,⟨_,_,_,rfl,rfl,h.box 3 Z,rfl⟩,trivial⟩ (PV.done h (qap h (qA (S:=fun _=>False) Z) (qaj (qA (S:=fun _=>False) (qer (⟨0,(⟨0,0⟩:qi),(⟨0,0⟩:qi)⟩:qw)))) (by rfl)))
 refine zKS (rA [] [2] h Z fun _ h=>M1 3 [0,1] 0 (h.pick [2] Z) Z (Ao 2 7 Z (zs 3 h Z fun _ h=>Ag (h.pick [2] Z) (Ad ?_))));obtain rfl:=qb F;exact qae qa (ρ:=(Bool×qw)) [GoT.v Bool [.bool true],GoT.v qw [.int .i64 i6,.int .i64 i7,.int .i64 i8,.int .i64 i9,.int .i64 i10]] h ⟨rfl,⟨_,_,_,rfl,rfl,h.box 3 Z,rfl⟩,trivial⟩ (PV.done h (qap h (qA (S:=fun _=>False) Z) (qaj (qA (S:=fun _=>False) (qer (⟨i6,(⟨i7,i8⟩:qi),(⟨i9,i10⟩:qi)⟩:qw)))) (by rfl)))
def qaW (g:(Option Tgraph))(c:qy)(sources:(List qw))(order:(List Int)):Nat→(List qi)→(List qi)→(List Bool)→Int→Option (Flow (qB×Bool) ((List qi)×(List qi)×(List Bool)×Int))
 | 0,_,_,_,_=>U
 | n+1,x1,x2,x3,i1=>
  bif decide (i1<(order.length:Int)) then
   (idx order i1).bind fun y2=>
   (qdL n g c sources (⟨x3,x2,x1⟩:qB) y2).bind fun o=>match o with
    | (r3,r4)=>
     (
      bif r3 then
       (qlu n (⟨r4.Ai.Ar,r4.Ai.Ay⟩:qi)).bind fun r5=>
       V (!r5)
      else
       V false).bind fun b3=>
     bif b3 then V (.ret ((⟨[],[],[]⟩:qB),false)) else
     (idx x3 y2).bind fun _=>
     (idx x2 y2).bind fun _=>
     (idx x1 y2).bind fun _=>
     qaW g c sources order n (setS x1 y2 (⟨r4.Ba.Ar,r4.Ba.Ay⟩:qi)) (setS x2 y2 (⟨r4.Ai.Ar,r4.Ai.Ay⟩:qi)) (setS x3 y2 r3) (W64 (i1+1))
  else
   V (.nxt (x1,x2,x3,i1))
def qdK (n:Nat)(g:(Option Tgraph))(c:qy)(sources:(List qw))(order:(List Int)):Option (qB×Bool):=
 (g).bind fun y1=>
 (qhV n y1.view).bind fun r1=>
 (qaW g c sources order n r1.Ba r1.Ai r1.Bb 0).bind fun o=>match o with
 | .ret r=>V r
 | .nxt (x1,x2,x3,_)=>
  V ((⟨x3,x2,x1⟩:qB),true)
theorem qlU {g:(Option Tgraph)}{c:qy}{sources:(List qw)}{order:(List Int)}(ha1:Ro w g cs1)(ha2:Ro w c cs2)(ha3:Ro w sources cs3)(ha4:Ro w order cs4){r:(qB×Bool)}(F:qdK n g c sources order=V r):RetV prog 79 [GoT.v (Option Tgraph) cs1,GoT.v qy cs2,GoT.v (List qw) cs3,GoT.v (List Int) cs4] w r:=by
 obtain⟨_,rfl,s1⟩:=qct ha1;obtain rfl:=qag ha2;obtain⟨p2,k1,rfl,s2⟩:=ha3;obtain⟨p3,k2,rfl,s3⟩:=ha4;refine zV 62 func79 Z fun h=>zSR (qx h Z Z fun _ bb1 h=>qp qa h Z Z Z fun _ bb2 h=>X0 5 Z ?_);obtain⟨_,hy1,F⟩:=qc F;obtain⟨b1,o_1,_,rfl,-,hr1,hc1⟩:=PtR.get s1 hy1;obtain⟨_,_,_,rfl,s4,_⟩:=qhg hr1;refine zp2 Z (zc 0 (hc1.below h.below) Z (zcO h F (qmH (h.old s4)) Z fun r1 _ _ _ h F=>?_));obtain⟨p6,k4,p7,k5,p8,k6,rfl,-,-,-⟩:=qfi (h.own 0 Z);refine qp qa h Z Z Z fun _ bb3 h=>zs 0 h Z fun _ h=>X0 8 Z ?_;replace h:=h.pick [1,0,2,3] Z;obtain⟨S2,S3,S4,h⟩:=qn4 h;obtain⟨o1,F,hK1⟩:=qc F;refine qn (rL (fun m e w'=>∃(x1:(List qi)) (x2:(List qi)) (x3:(List Bool)) (i1:Int),qaW g c sources order m x1 x2 x3 i1=V o1∧e=[(0,.pointer (V ⟨b1,o_1,U⟩)),(2,.slice p2 sources.length k1),(5,.pointer (V ⟨bb1,0,U⟩)),(8,.pointer (V ⟨bb2,0,U⟩)),(10,.pointer (V ⟨bb3,0,U⟩)),(20,.slice p3 order.length k2),(21,.int .i64 (order.length:Int)),(22,.int .i64 i1)]∧SH w w' [Ch.own S4 (x1:List qi) [.slice p8 r1.Ba.length k6],Ch.own S3 (x2:List qi) [.slice p7 r1.Ai.length k5],Ch.own S2 (x3:List Bool) [.slice p6 r1.Bb.length k4],Ch.box bb3 (qbd r1 p6 p7 p8 k4 k5 k6) 57,Ch.box bb2 [.slice U 0 0,.slice U 0 0,.slice U 0 0] 57,Ch.box bb1 (qad c) 77]) n ⟨_,_,_,_,F,rfl,h⟩ Z ?_);rintro m1 _ _ ⟨x1,x2,x3,i1,F,rfl,h⟩;rcases m1 with _|m1
 ·cases F
 refine X0 5 Z (qh Z F ?_ ?_)<;>intro F
 ·refine zKSBSR ?_;obtain⟨y2,_,F,he1,_,_,_,_,hp1,hq1,rfl,hc3⟩:=s3.ix F;refine zxe hp1 hq1 he1 Z (zc 0 (hc3.below h.below) Z (X2 9 5 3 h Z ?_));obtain⟨r2,hr4,F⟩:=qc F;obtain⟨r3,r4⟩:=r2;refine qa3 (r3,r4) h (cB 157 Z) (ql8 (h.old s1) (h.old ha2) ⟨_,_,rfl,(h.oldS s2)⟩ ⟨[.slice p6 r1.Bb.length k4],[.slice p7 r1.Ai.length k5,.slice p8 r1.Ba.length k6],rfl,(h.own 2 Z),⟨[.slice p7 r1.Ai.length k5],[.slice p8 r1.Ba.length k6],rfl,(h.own 1 Z),(h.own 0 Z)⟩⟩ hr4) Z Z Z Z fun _ _ _ hv1 hr5=>?_;obtain⟨_,_,rfl,hv2,hr6⟩:=hv1.consB hr5;obtain⟨_,rfl,h⟩:=hv2.last hr6;obtain rfl:=qfu (h.own 0 Z);refine zp3 Z (qp qa h Z Z Z fun _ bb4 h=>zp1 Z (zs 0 h Z fun _ h=>zNSS ?_));obtain⟨KF1,hKF1,_,F,hK2⟩:=bindE F;refine qbe (fun e w'=>∃(b3:Bool),KF1 b3=V o1∧e=[(0,.pointer (V ⟨b1,o_1,U⟩)),(2,.slice p2 sources.length k1),(5,.pointer (V ⟨bb1,0,U⟩)),(8,.pointer (V ⟨bb2,0,U⟩)),(10,.pointer (V ⟨bb3,0,U⟩)),(12,.int .i64 y2),(13,.bool r3),(14,.pointer (V ⟨bb4,0,U⟩)),(20,.slice p3 order.length k2),(21,.int .i64 (order.length:Int)),(22,.int .i64 i1),(41,.bool b3)]∧SH w w' [Ch.box bb4 (qgf r4) 140,Ch.own S4 (x1:List qi) [.slice p8 r1.Ba.length k6],Ch.own S3 (x2:List qi) [.slice p7 r1.Ai.length k5],Ch.own S2 (x3:List Bool) [.slice p6 r1.Bb.length k4],Ch.box bb3 (qbd r1 p6 p7 p8 k4 k5 k6) 57,Ch.box bb2 [.slice U 0 0,.slice U 0 0,.slice U 0 0] 57,Ch.box bb1 (qad c) 77]) ?_ ?_
  ·refine X0 3 Z (qm (t:=36) F Z ?_ ?_)<;>intro F
   ·refine X1 5 0 h Z (zcB h F (qrl (qP _)) Z fun _ _ h F=>X0 4 Z ?_);replace h:=h.pick [0,2,3,4,5,6,7] Z;obtain rfl:=qb F;exact rG ⟨_,hK2,rfl,h⟩ Z
   refine X0 6 Z ?_;replace h:=h.pick [0,2,3,4,5,6,7] Z;obtain rfl:=qb F;exact rG ⟨_,hK2,rfl,h⟩ Z
  rintro _ _ ⟨b3,F,rfl,h⟩;subst hKF1;refine qh Z F ?_ ?_<;>intro F
  ·refine zSR (r_v (qJ qa [] [] Z Z Z Z Z Z Z Z) Z (zs 5 h Z fun _ h=>X0 2 Z ?_));obtain rfl:=qb F;replace F:=hK1;obtain rfl:=qb F;exact qae qa (ρ:=(qB×Bool)) [GoT.v qB [.slice U 0 0,.slice U 0 0,.slice U 0 0],GoT.v Bool [.bool false]] h ⟨⟨_,_,_,rfl,rfl,h.box 5 Z,rfl⟩,rfl,trivial⟩ (PV.done h (qap h (qjn (⟨[],[],[]⟩:qB) h qb8 qb8 qb8 (by rfl) (by rfl)) (qaj (qA (S:=fun _=>False) Z)) (by rfl)))
  refine qio (rA [] [0,4] h Z fun _ h=>M4 8191 [0,1,2,3,4,5,6,7,8,9,10,11,12] 1 1 1 0 (h.pick [0,4] Z) Z (M1 16383 [13] 0 (h.pick [0,4] Z) Z ?_));obtain⟨_,hy3,F,he2,_,_,_,_,hp2,hq2,rfl,hc5⟩:=(h.sl 3 Z).1.ix F;refine Ax 14 32767 hp2 hq2 ⟨he2.1,qC he2.2.1 (h.sl 3 Z).2⟩ (h.pick [0,4] Z) Z (Ao 15 65535 Z (qay qa 3 0 r3 h Z hy3 hp2 hq2 Z hc5 Z Z Z Z Z Z Z fun _ h=>Ag (h.pick [0,4] Z) ?_));obtain⟨y4,hy4,F,he3,_,_,_,_,hp3,hq3,hr9,hc6⟩:=(h.sl 2 Z).1.ix F;obtain rfl:=qD hr9;refine Ax 16 131071 hp3 hq3 ⟨he3.1,qC he3.2.1 (h.sl 2 Z).2⟩ (h.pick [0,4] Z) Z (Ao 17 262143 Z (qay qa 2 0 (⟨r4.Ai.Ar,r4.Ai.Ay⟩:qi) h Z hy4 hp3 hq3 (qP y4) hc6 Z Z Z (qP (⟨r4.Ai.Ar,r4.Ai.Ay⟩:qi)) Z Z Z fun _ h=>Ag (h.pick [0,4] Z) ?_));obtain⟨y5,hy5,F,he4,_,_,_,_,hp4,hq4,hr10,hc7⟩:=(h.sl 1 Z).1.ix F;obtain rfl:=qD hr10;refine Ax 18 524287 hp4 hq4 ⟨he4.1,qC he4.2.1 (h.sl 1 Z).2⟩ (h.pick [0,4] Z) Z (Ao 19 1048575 Z (qay qa 1 0 (⟨r4.Ba.Ar,r4.Ba.Ay⟩:qi) h Z hy5 hp4 hq4 (qP y5) hc7 Z Z Z (qP (⟨r4.Ba.Ar,r4.Ba.Ay⟩:qi)) Z Z Z fun _ h=>Ag (h.pick [0,4] Z) (Ad (X0 5 Z ?_))));replace h:=h.pick [1,2,3,4,5,6] Z;exact rK ⟨_,_,_,_,F,rfl,h⟩ Z
 refine qq Z ?_;obtain rfl:=qb F;replace F:=hK1;refine X1 3 3 h Z (zs 4 h Z fun _ h=>X0 2 Z ?_);obtain rfl:=qb F;exact qae qa (ρ:=(qB×Bool)) [GoT.v qB (qbd r1 p6 p7 p8 k4 k5 k6),GoT.v Bool [.bool true]] h ⟨⟨_,_,_,rfl,rfl,h.box 4 Z,rfl⟩,rfl,trivial⟩ (PV.done h (qap h (qjn (⟨x3,x2,x1⟩:qB) h (qaA 2 h Z) (qaA 1 h Z) (qaA 0 h Z) (by rfl) (by rfl)) (qaj (qA (S:=fun _=>False) Z)) (by rfl)))
end Go.Fw


namespace Go.Fw
open Go
set_option maxRecDepth 100000
theorem qsX {n m:Nat}{a b mode:Int}:qfn n a b mode=qcE m a b mode:=by
 unfold qfn qcE;cases quoS a b with
 | none=>rfl
 | some y1=>
  cases remS a b with
  | none=>rfl
  | some y2=>
   simp only[jd];generalize decide (y2<0)=p;generalize decide (y2 > 0)=q;generalize (mode==0)=m0;generalize (mode==1)=m1;cases p<;>cases q<;>cases m0<;>cases m1<;>rfl
theorem qxa {a b:Int}(hb:0<b):-(if a<0 then -a else a)≤a.tdiv b∧a.tdiv b≤(if a<0 then -a else a):=by
 by_cases h:a<0
 ·rw[if_pos h];have e:a.tdiv b=-((-a).tdiv b):=by rw[Int.neg_tdiv,Int.neg_neg]
  rw[e,jJ (show 0≤-a by omega)];have h1:=Int.ediv_nonneg (show 0≤-a by omega) (show 0≤b by omega);have h2:=Int.ediv_le_self (a:=-a) b (by omega);omega
 ·rw[if_neg h,jJ (by omega)];have h1:=Int.ediv_nonneg (show 0≤a by omega) (show 0≤b by omega);have h2:=Int.ediv_le_self (a:=a) b (by omega);omega
theorem qkR {n:Nat}{a b mode:Int}(hb:0<b)(h0:-9000000000000000000≤a)(h1:a≤9000000000000000000):qcE n a b mode=V (divI a b mode):=by
 have ht:=qxa (a:=a) hb;have hq:-9000000000000000000≤a.tdiv b∧a.tdiv b≤9000000000000000000:=by
  revert ht;split<;>intro ht<;>omega
 unfold qcE quoS remS divI;rw[if_neg (by omega),if_neg (by omega)];have hw:IntKind.i64.wrap (a.tdiv b)=a.tdiv b:=qI (by omega) (by omega);simp only[hw,jd];rw[wO (a.tdiv b-1),wO (a.tdiv b+1)];generalize decide (a.tmod b<0)=p;generalize decide (a.tmod b > 0)=q;generalize (mode==0)=m0;generalize (mode==1)=m1;cases p<;>cases q<;>cases m0<;>cases m1<;>rfl
theorem qsZ {a b mode M:Int}(hb:0<b)(h0:0≤a)(h:a≤b*M):0≤divI a b mode∧divI a b mode≤M:=by
 rw[qsS h0 hb];have e:=Int.emod_add_mul_ediv a b;have h1:=Int.emod_nonneg a (show b ≠ 0 by omega);have h2:=Int.ediv_nonneg h0 (show 0≤b by omega);have h3:a / b≤M:=Int.ediv_le_of_le_mul hb (by rw[Int.mul_comm];exact h);split
 ·rename_i hc
  refine⟨by omega,?_⟩;have:a / b<M:=by
   refine Int.lt_of_not_ge fun hg=>?_;have e2:a / b=M:=by omega
   rw[e2] at e;omega
  omega
 ·exact⟨h2,h3⟩
structure AxOk (ax:List Int):Prop where
 lo:1≤ax.length
 hi:ax.length≤4
 at_:∀ j,j<ax.length→0≤at0 ax j∧at0 ax j≤100000
 inc:∀ j i,i<j→j<ax.length→at0 ax i<at0 ax j
theorem qtx {ax:List Int}(h:axisB ax=true):AxOk ax:=by
 unfold axisB lenB incB at h;simp only[jf,decide_eq_true_eq] at h;obtain⟨⟨h1,h2⟩,h3,h4⟩:=h;rw[qhu (d:=0),qaF] at h3;rw[qaF] at h4;refine⟨h1,h2,fun j hj=>by have:=h3 j hj;rw[qbA] at this;exact this,fun j=>?_⟩
 induction j with
 | zero=>intro i hi _;omega
 | succ j ih=>
  intro i hi hj;have hs:=h4 (j+1) hj;unfold stepB at hs;simp only[Bool.or_eq_true,decide_eq_true_eq,Nat.add_sub_cancel] at hs;have hs':at0 ax j<at0 ax (j+1):=by
   rcases hs with hs|hs
   ·omega
   ·exact hs
  by_cases hij:i=j
  ·rw[hij];exact hs'
  ·have:=ih i (by omega) (by omega);omega
theorem least {P:Nat→Prop}:∀ m,P m→∃ p,p≤m∧P p∧∀ k,k<p→¬ P k:=by
 intro m
 induction m using Nat.strongRecOn with
 | ind m ih=>
  intro hm;by_cases h:∃ k,k<m∧P k
  ·obtain⟨k,hk,hp⟩:=h;obtain⟨p,h1,h2,h3⟩:=ih k hk hp;exact⟨p,by omega,h2,h3⟩
  ·exact⟨m,je _,hm,fun k hk hp=>h ⟨k,hk,hp⟩⟩
structure Wt (ax:List Int)(i:Nat)(a b:Int):Prop where
 il:i<ax.length
 a0:0<a
 a1:a≤100000
 b0:0≤b
 b1:b≤100000
 nx:0<b→i+1<ax.length
 one:b=0→a=1
def wtL (i:Nat)(a b:Int):List Tweight:=if b=0 then[⟨(i:Int),1⟩] else[⟨(i:Int),a⟩,⟨((i+1:Nat):Int),b⟩]
def clampV (ax:List Int)(x:Int):Int:=if at0 ax (ax.length-1)<(if at0 ax 0 > x then at0 ax 0 else x) then at0 ax (ax.length-1) else(if at0 ax 0 > x then at0 ax 0 else x)
theorem qyW {m:Nat}(h:m≤8):shrS .u64 (IntKind.wrap .u64 (W64 (m:Int))) 1=V ((m / 2:Nat):Int):=by
 rcases (by omega:m=0∨m=1∨m=2∨m=3∨m=4∨m=5∨m=6∨m=7∨m=8) with e|e|e|e|e|e|e|e|e<;>rw[e]<;>rfl
theorem qvB {ax:List Int}(h:AxOk ax){c:Int}{p:Nat}(hp:p<ax.length)(h1:c≤at0 ax p)(h2:∀ k,k<p→at0 ax k<c) :
  Ev (fun n=>qdh n ax c) ((p:Int),(at0 ax p==c)):=by
 have hhi:=h.hi;have main:∀ d i j,j-i≤d→i≤p→p≤j→j≤ax.length→Ev (fun n=>qaC ax c n (i:Int) (j:Int)) ((p:Int),(p:Int)):=by
  intro d
  induction d with
  | zero=>
   intro i j hd hi hj hl;refine Ev.succ ?_;simp only[qaC,ql (show j≤i by omega),cond_false];rw[show i=p by omega,show j=p by omega];exact .done
  | succ d ih=>
   intro i j hd hi hj hl;refine Ev.succ ?_;by_cases hij:i<j
   ·have hm:(i+j) / 2<ax.length:=by omega
    simp only[qaC,qj hij,cond_true,←Int.natCast_add,qyW (show i+j≤8 by omega),jd,qI (x:=(((i+j) / 2:Nat):Int)) (by omega) (by omega),qaz hm,qlf,qik,bne_self_eq_false,cond_false,qdM (show(i+j) / 2<9223372036854775807 by omega)];by_cases hc:at0 ax ((i+j) / 2)<c
    ·refine Ev.tt (by simpa using hc) (ih _ _ (by omega) ?_ hj hl);refine Nat.lt_of_not_le fun hg=>?_;by_cases he:p=(i+j) / 2
     ·rw[←he] at hc;omega
     ·have:=h.inc ((i+j) / 2) p (by omega) hm;omega
    ·refine Ev.ff (by simpa using hc) (ih _ _ (by omega) hi ?_ (by omega));refine Nat.le_of_not_lt fun hg=>hc (h2 _ hg)
   ·simp only[qaC,ql (show j≤i by omega),cond_false];rw[show i=p by omega,show j=p by omega];exact .done
 unfold qdh;refine Ev.bind (main ax.length 0 ax.length (by omega) (by omega) (by omega) (je _)) ?_;simp only[qj hp,cond_true,qaz hp,jd,qgu,bne_self_eq_false,cond_false];cases at0 ax p==c<;>exact .done
theorem qrf {ax:List Int}(h:AxOk ax)(x:Int):∃ i a b,Wt ax i a b∧Ev (fun n=>qfe n ax x) ((i:Int),a,b)∧Ev (fun n=>qhO n ax x) (wtL i a b,a+b):=by
 have hlo:=h.lo;have hhi:=h.hi;have hle:at0 ax 0≤at0 ax (ax.length-1):=by
  by_cases h1:ax.length-1=0
  ·rw[h1];exact jY _
  ·have:=h.inc (ax.length-1) 0 (by omega) (by omega);omega
 obtain⟨c,hc⟩:∃ c,c=clampV ax x:=⟨_,rfl⟩;have hcl:at0 ax 0≤c∧c≤at0 ax (ax.length-1):=by
  rw[hc];unfold clampV;split<;>split at *<;>omega
 obtain⟨p,hp1,hp2,hp3⟩:=least (P:=fun k=>c≤at0 ax k) (ax.length-1) hcl.2;have hp:p<ax.length:=by omega
 have hp4:∀ k,k<p→at0 ax k<c:=fun k hk=>by have:=hp3 k hk;omega
 have hs:=qvB h hp hp2 hp4;have hcv:(if at0 ax (ax.length-1)<(if at0 ax 0 > x then at0 ax 0 else x) then at0 ax (ax.length-1) else(if at0 ax 0 > x then at0 ax 0 else x))=c:=hc.symm;have hlast:W64 ((ax.length:Int)-1)=((ax.length-1:Nat):Int):=by rw[qfh (by omega)];omega
 have ib:=h.at_ p hp;have spec:∀ (R:Int×Int×Int),Ev (fun n=>qbG ax x (at0 ax 0) (at0 ax (ax.length-1)) n (p:Int)) (.ret R)→Ev (fun n=>qfe n ax x) R:=by
  intro R hR;have main:∀ d j,j=p+d→j<ax.length→Ev (fun n=>qbG ax x (at0 ax 0) (at0 ax (ax.length-1)) n (j:Int)) (.ret R):=by
   intro d
   induction d with
   | zero=>intro j hj _;rw[show j=p by omega];exact hR
   | succ d ih=>
    intro j hj hl;have hgt:=h.inc j p (by omega) hl;refine Ev.succ ?_;simp only[qbG,show decide ((j:Int) ≥ 0)=true from decide_eq_true (by omega),cond_true,qaz hl,jd,hcv];refine Ev.ff (beq_eq_false_iff_ne.2 (by omega)) (Ev.ff (decide_eq_false (by omega)) ?_);rw[show(j:Int)-1=((j-1:Nat):Int) by omega,qI (by omega) (by omega)];exact ih (j-1) (by omega) (by omega)
  unfold qfe;rw[show(0:Int)=((0:Nat):Int) from rfl,qaz (show 0<ax.length by omega),hlast,qaz (show ax.length-1<ax.length by omega)];simp only[jd];exact Ev.bind (main (ax.length-1-p) (ax.length-1) (by omega) (by omega)) .done
 by_cases he:at0 ax p=c
 ·refine⟨p,1,0,⟨hp,by omega,by omega,by omega,by omega,fun h=>absurd h (by omega),fun _=>rfl⟩,spec _ (Ev.succ ?_),?_⟩
  ·simp only[qbG,show decide ((p:Int) ≥ 0)=true from decide_eq_true (by omega),cond_true,qaz hp,jd,hcv];exact Ev.tt (beq_iff_eq.2 he.symm) .done
  ·unfold qhO;rw[show(0:Int)=((0:Nat):Int) from rfl,qaz (show 0<ax.length by omega),hlast,qaz (show ax.length-1<ax.length by omega)];simp only[jd,hcv];exact Ev.bind hs (Ev.tt (beq_iff_eq.2 he) (Ev.now Z))
 ·have hp0:0<p:=by
   refine Nat.pos_of_ne_zero fun e=>he ?_;rw[e] at hp2 ⊢;omega
  have hlt:=hp4 (p-1) (by omega);have ib2:=h.at_ (p-1) (by omega);have ew:((p:Int)-1)=((p-1:Nat):Int):=by omega
  refine⟨p-1,at0 ax p-c,c-at0 ax (p-1),⟨by omega,by omega,by omega,by omega,by omega,fun _=>by omega,fun h=>absurd h (by omega)⟩,spec _ (Ev.succ ?_),?_⟩
  ·simp only[qbG,show decide ((p:Int) ≥ 0)=true from decide_eq_true (by omega),cond_true,qaz hp,jd,hcv];refine Ev.ff (beq_eq_false_iff_ne.2 (by omega)) (Ev.ff (decide_eq_false (by omega)) ?_);rw[ew,qI (x:=((p-1:Nat):Int)) (by omega) (by omega)];refine Ev.succ ?_;simp only[qbG,show decide (((p-1:Nat):Int) ≥ 0)=true from decide_eq_true (by omega),cond_true,qaz (show p-1<ax.length by omega),jd,hcv];refine Ev.ff (beq_eq_false_iff_ne.2 (by omega)) (Ev.tt (decide_eq_true (by omega)) ?_);rw[qdM (show p-1<9223372036854775807 by omega),show p-1+1=p by omega,qaz hp];simp only[jd];rw[wO (at0 ax p-c),wO (c-at0 ax (p-1))];exact .done
  ·unfold qhO;rw[show(0:Int)=((0:Nat):Int) from rfl,qaz (show 0<ax.length by omega),hlast,qaz (show ax.length-1<ax.length by omega)];simp only[jd,hcv];refine Ev.bind hs (Ev.ff (beq_eq_false_iff_ne.2 he) ?_);rw[qaz hp,ew,qI (x:=((p-1:Nat):Int)) (by omega) (by omega),qaz (show p-1<ax.length by omega)];simp only[jd];rw[wO (at0 ax p-c),wO (c-at0 ax (p-1)),wO (at0 ax p-at0 ax (p-1))];refine Ev.now ?_;unfold wtL;rw[if_neg (by omega),show p-1+1=p by omega]
   congr 2
   omega
end Go.Fw


namespace Go.Fw
open Go
set_option maxRecDepth 100000
structure TbOk (t:qu):Prop where
 s:AxOk t.Bl
 l:AxOk t.Bd
 n:t.Az.length=t.Bl.length*t.Bd.length
 v:∀ k,-1000000≤at0 t.Az k∧at0 t.Az k≤1000000
theorem qvi {xs:List Int}{k:Nat}(h:¬ k<xs.length):at0 xs k=0:=by simp[at0,jC,List.getElem?_eq_none (show xs.length≤k by omega)]
theorem qv3 {t:qu}(h:tableB t=true):TbOk t:=by
 unfold tableB at h;simp only[jf,decide_eq_true_eq] at h;obtain⟨h1,h2,h3,h4⟩:=h;rw[qhu (d:=0),qaF] at h4;refine⟨qtx h1,qtx h2,h3,fun k=>?_⟩;by_cases hk:k<t.Az.length
 ·have:=h4 k hk;rw[qbA] at this;exact this
 ·rw[qvi hk];omega
def tv (t:qu)(i j:Nat):Int:=at0 t.Az (i*t.Bd.length+j)
theorem mulA {x y Y:Int}(h0:0≤x)(g0:-Y≤y)(g1:y≤Y):-(x*Y)≤x*y∧x*y≤x*Y:=by
 have h1:=Int.mul_le_mul_of_nonneg_left g1 h0;have h2:=Int.mul_le_mul_of_nonneg_left g0 h0;rw[Int.mul_neg] at h2;exact⟨h2,h1⟩
theorem mulT {w q v:Int}(w0:0≤w)(w1:w≤100000)(q0:0≤q)(q1:q≤100000)(v0:-1000000≤v)(v1:v≤1000000):(0≤w*q∧w*q≤10000000000)∧(-10000000000000000≤w*q*v∧w*q*v≤10000000000000000):=by
 have h1:=jU w0 q0;have h2:w*q≤100000*100000:=Jd w1 q1 q0 (by omega);have h3:=mulA (x:=w*q) (y:=v) (Y:=1000000) h1 (by omega) (by omega);refine⟨⟨h1,by omega⟩,?_,?_⟩<;>omega
theorem qy9 {t:qu}{i j:Nat}(h:TbOk t)(hi:i<t.Bl.length)(hj:j<t.Bd.length):i*t.Bd.length+j<t.Az.length∧t.Az.length≤16:=by
 have h1:=h.s.hi;have h2:=h.l.hi;have h3:(i+1)*t.Bd.length≤t.Bl.length*t.Bd.length:=js _ hi;have h4:t.Bl.length*t.Bd.length≤4*4:=Nat.mul_le_mul h1 h2;rw[h.n];rw[Nat.add_mul] at h3;omega
theorem sTerm {t:qu}(h:TbOk t){i j c k:Nat}{a1 b1 a2 b2 w q s:Int}(hc:c<2)(hk:k<2)(hw:w=if c=1 then b1 else a1)(hq:q=if k=0 then a2 else b2)
  (w0:0≤w) (w1:w≤100000) (q0:0≤q) (q1:q≤100000) (hi:0<w→i+c<t.Bl.length) (hj:0<q→j+k<t.Bd.length) (s0:-1000000000000000000≤s) (s1:s≤1000000000000000000) (n:Nat) :
  qcx t (i:Int) a1 b1 (j:Int) a2 b2 (c:Int) (n+1) s (k:Int)=qcx t (i:Int) a1 b1 (j:Int) a2 b2 (c:Int) n (s+w*q*tv t (i+c) (j+k)) ((k+1:Nat):Int):=by
 have hv:=h.v ((i+c)*t.Bd.length+(j+k));obtain⟨⟨m0,m1⟩,m2,m3⟩:=mulT w0 w1 q0 q1 hv.1 hv.2;have e5:(bif ((c:Int)==1) then V b1 else V a1)=V w:=by
  rw[hw];by_cases h1:c=1
  ·rw[if_pos h1,h1];rfl
  ·rw[if_neg h1,show((c:Int)==1)=false from beq_eq_false_iff_ne.2 (by omega)];rfl
 have e6:(bif ((k:Int)==0) then V (W64 (w*a2)) else V (W64 (w*b2)))=V (w*q):=by
  have hx:W64 (w*q)=w*q:=qI (by omega) (by omega);by_cases h1:k=0
  ·rw[if_pos h1] at hq;rw[h1,←hq,hx];rfl
  ·rw[if_neg h1] at hq;rw[show((k:Int)==0)=false from beq_eq_false_iff_ne.2 (by omega),←hq,hx];rfl
 rw[qcx];simp only[show decide ((k:Int)<2)=true from decide_eq_true (by omega),cond_true,e5,e6,jd,wS k];by_cases hp:w*q > 0
 ·have hwp:0<w:=by
   by_cases e:w=0
   ·rw[e,Int.zero_mul] at hp;omega
   ·omega
  have hqp:0<q:=by
   by_cases e:q=0
   ·rw[e,Int.mul_zero] at hp;omega
   ·omega
  obtain⟨x1,x2⟩:=qy9 h (hi hwp) (hj hqp);have hl:=h.l.hi;have hs:=h.s.hi;have hi':=hi hwp;have hm:((i+c:Nat):Int)*(t.Bd.length:Int)=(((i+c)*t.Bd.length:Nat):Int):=(Int.natCast_mul _ _).symm;have ei:W64 (W64 (W64 (W64 ((i:Int)+(c:Int))*(t.Bd.length:Int))+(j:Int))+(k:Int))=(((i+c)*t.Bd.length+(j+k):Nat):Int):=by
   rw[wO ((i:Int)+(c:Int)),←Int.natCast_add,hm,qI (x:=(((i+c)*t.Bd.length:Nat):Int)) (by omega) (by omega),←Int.natCast_add,qI (x:=(((i+c)*t.Bd.length+j:Nat):Int)) (by omega) (by omega),←Int.natCast_add,qI (by omega) (by omega),Nat.add_assoc]
  rw[show decide (w*q > 0)=true from decide_eq_true hp,ei,qaz x1];simp only[cond_true,jd];have e7:W64 (s+W64 (w*q*at0 t.Az ((i+c)*t.Bd.length+(j+k))))=s+w*q*tv t (i+c) (j+k):=by
   unfold tv;rw[qI (x:=w*q*at0 t.Az ((i+c)*t.Bd.length+(j+k))) (by omega) (by omega),qI (by omega) (by omega)]
  rw[e7]
 ·have h0:w*q=0:=by omega
  rw[show decide (w*q > 0)=false from decide_eq_false hp,h0,Int.zero_mul,Int.add_zero]
  rfl
def rowS (t:qu)(j:Nat)(a2 b2:Int)(i:Nat):Int:=a2*tv t i j+b2*tv t i (j+1)
theorem qmg {t:qu}(h:TbOk t){i j:Nat}:-1000000≤tv t i j∧tv t i j≤1000000:=h.v _
theorem qsA {t:qu}(h:TbOk t){i j:Nat}{a2 b2:Int}(a0:0≤a2)(b0:0≤b2):-((a2+b2)*1000000)≤rowS t j a2 b2 i∧rowS t j a2 b2 i≤(a2+b2)*1000000:=by
 have h1:=mulA (x:=a2) (y:=tv t i j) (Y:=1000000) a0 (qmg h).1 (qmg h).2;have h2:=mulA (x:=b2) (y:=tv t i (j+1)) (Y:=1000000) b0 (qmg h).1 (qmg h).2;unfold rowS;omega
theorem sRow {t:qu}(h:TbOk t){i j c:Nat}{a1 b1 a2 b2 w s:Int}(hc:c<2)(hw:w=if c=1 then b1 else a1)(w0:0≤w)(w1:w≤100000)(hi:0<w→i+c<t.Bl.length)(hW:Wt t.Bd j a2 b2)
  (s0:-100000000000000000≤s) (s1:s≤100000000000000000):Ev (fun n=>qcx t (i:Int) a1 b1 (j:Int) a2 b2 (c:Int) n s 0) (s+w*rowS t j a2 b2 (i+c),2):=by
 have ha:=hW.a0;have hb:=hW.b0;have t1:=(mulT w0 w1 (show 0≤a2 by omega) hW.a1 (qmg h (i:=i+c) (j:=j)).1 (qmg h).2).2;refine Ev.step (fun n=>sTerm h hc (k:=0) (w:=w) (q:=a2) (by omega) hw Z w0 w1 (by omega) hW.a1 hi (fun _=>hW.il) (by omega) (by omega) n) ?_;refine Ev.step (fun n=>sTerm h hc (k:=1) (w:=w) (q:=b2) (by omega) hw Z w0 w1 hb hW.b1 hi hW.nx (by show _≤s+w*a2*tv t (i+c) (j+0);rw[Nat.add_zero];omega) (by show s+w*a2*tv t (i+c) (j+0)≤_;rw[Nat.add_zero];omega) n) ?_;refine Ev.succ ?_;simp only[qcx,show decide (((1+1:Nat):Int)<2)=false from rfl,cond_false];refine Ev.now ?_;unfold rowS;rw[Int.mul_add,←Ja,←Ja,Int.add_assoc,Nat.add_zero]
 rfl
theorem iTerm {t:qu}(h:TbOk t){r5:List Tweight}{i j k:Nat}{w q s:Int}(hk:k<r5.length)(hr:r5.length≤2)(hx:idx r5 (k:Int)=V ⟨(j:Int),q⟩)(w0:0≤w)(w1:w≤100000)(q0:0≤q)(q1:q≤100000)
  (hi:i<t.Bl.length) (hj:j<t.Bd.length) (s0:-1000000000000000000≤s) (s1:s≤1000000000000000000) (n:Nat) :
  qa9 t r5 ⟨(i:Int),w⟩ (n+1) s (k:Int)=qa9 t r5 ⟨(i:Int),w⟩ n (s+w*q*tv t i j) ((k+1:Nat):Int):=by
 have hv:=qmg h (i:=i) (j:=j);obtain⟨_,m2,m3⟩:=mulT w0 w1 q0 q1 hv.1 hv.2;have m4:=mulA (x:=w) (y:=tv t i j) (Y:=1000000) w0 hv.1 hv.2;obtain⟨x1,x2⟩:=qy9 h hi hj;have hl:=h.l.hi;have hs:=h.s.hi;have hm:(i:Int)*(t.Bd.length:Int)=((i*t.Bd.length:Nat):Int):=(Int.natCast_mul _ _).symm;rw[qa9];simp only[qj hk,cond_true,hx,jd,wS k,hm];rw[qI (x:=((i*t.Bd.length:Nat):Int)) (by omega) (by omega),←Int.natCast_add,qI (x:=((i*t.Bd.length+j:Nat):Int)) (by omega) (by omega),qaz x1];simp only[jd];have e7:W64 (s+W64 (W64 (at0 t.Az (i*t.Bd.length+j)*w)*q))=s+w*q*tv t i j:=by
  have e8:at0 t.Az (i*t.Bd.length+j)*w=w*tv t i j:=Int.mul_comm _ _;have e9:w*tv t i j*q=w*q*tv t i j:=by rw[Ja,Int.mul_comm (tv t i j) q,←Ja]
  rw[e8,wO (w*tv t i j),e9,wO (w*q*tv t i j),qI (by omega) (by omega)]
 rw[e7]
theorem iRow {t:qu}(h:TbOk t){i j:Nat}{a2 b2 w s:Int}(w0:0≤w)(w1:w≤100000)(hi:i<t.Bl.length)(hW:Wt t.Bd j a2 b2)
  (s0:-100000000000000000≤s) (s1:s≤100000000000000000):Ev (fun n=>qa9 t (wtL j a2 b2) ⟨(i:Int),w⟩ n s 0) (s+w*rowS t j a2 b2 i,((wtL j a2 b2).length:Int)):=by
 have ha:=hW.a0;have hb:=hW.b0;have t1:=(mulT w0 w1 (show 0≤a2 by omega) hW.a1 (qmg h (i:=i) (j:=j)).1 (qmg h).2).2;by_cases h0:b2=0
 ·have h1:=hW.one h0;subst h0 h1;have hl:wtL j 1 0=[⟨(j:Int),1⟩]:=if_pos Z;rw[hl];refine Ev.step (fun n=>iTerm h (k:=0) (q:=1) (by simp) (by simp) Z w0 w1 (by omega) (by omega) hi hW.il (by omega) (by omega) n) (Ev.succ ?_);simp only[qa9];refine Ev.ff Z (Ev.now ?_);unfold rowS;rw[Int.mul_one,Int.one_mul,Int.zero_mul,Int.add_zero]
  rfl
 ·have hl:wtL j a2 b2=[⟨(j:Int),a2⟩,⟨((j+1:Nat):Int),b2⟩]:=if_neg h0;rw[hl];refine Ev.step (fun n=>iTerm h (k:=0) (q:=a2) (by simp) (by simp) Z w0 w1 (by omega) hW.a1 hi hW.il (by omega) (by omega) n) ?_;refine Ev.step (fun n=>iTerm h (k:=1) (j:=j+1) (q:=b2) (by simp) (by simp) Z w0 w1 hb hW.b1 hi (hW.nx (by omega)) (by omega) (by omega) n) (Ev.succ ?_);simp only[qa9];refine Ev.ff Z (Ev.now ?_);unfold rowS;rw[Int.mul_add,←Ja,←Ja,Int.add_assoc]
  rfl
def sumS (t:qu)(i j:Nat)(a1 b1 a2 b2:Int):Int:=a1*rowS t j a2 b2 i+b1*rowS t j a2 b2 (i+1)
theorem rowT {t:qu}(h:TbOk t){i j:Nat}{w a2 b2:Int}(w0:0≤w)(w1:w≤100000)(hW:Wt t.Bd j a2 b2):-20000000000000000≤w*rowS t j a2 b2 i∧w*rowS t j a2 b2 i≤20000000000000000:=by
 have ha:=hW.a0;have hb:=hW.b0;have ha1:=hW.a1;have hb1:=hW.b1;have h1:=qsA h (i:=i) (j:=j) (a2:=a2) (b2:=b2) (by omega) hb;have h2:=mulA (x:=w) (y:=rowS t j a2 b2 i) (Y:=200000000000) w0 (by omega) (by omega);omega
theorem qyd {t:qu}(h:TbOk t)(sl ld:Int):∃ S D:Int,0<D∧S≤D*1000000∧-(D*1000000)≤S∧-9000000000000000000≤S∧S≤9000000000000000000∧((∀ k,0≤at0 t.Az k)→0≤S) ∧
  ∀ mode,Ev (fun n=>qhI n t sl ld mode) (divI S D mode)∧Ev (fun n=>qdX n t sl ld mode) (divI S D mode):=by
 obtain⟨i,a1,b1,W1,p1,q1⟩:=qrf h.s sl;obtain⟨j,a2,b2,W2,p2,q2⟩:=qrf h.l ld;have ha1:=W1.a0;have hb1:=W1.b0;have ha2:=W2.a0;have hb2:=W2.b0;have ua1:=W1.a1;have ub1:=W1.b1;have ua2:=W2.a1;have ub2:=W2.b1;have r1:=rowT h (i:=i) (w:=a1) (by omega) ua1 W2;have r2:=rowT h (i:=i+1) (w:=b1) hb1 ub1 W2;have x1:=qsA h (i:=i) (j:=j) (a2:=a2) (b2:=b2) (by omega) hb2;have x2:=qsA h (i:=i+1) (j:=j) (a2:=a2) (b2:=b2) (by omega) hb2;have y1:=mulA (x:=a1) (y:=rowS t j a2 b2 i) (Y:=(a2+b2)*1000000) (by omega) x1.1 x1.2;have y2:=mulA (x:=b1) (y:=rowS t j a2 b2 (i+1)) (Y:=(a2+b2)*1000000) hb1 x2.1 x2.2;have eD:a1*((a2+b2)*1000000)+b1*((a2+b2)*1000000)=(a1+b1)*(a2+b2)*1000000:=by rw[←Int.add_mul,Ja]
 have D0:0<(a1+b1)*(a2+b2):=Int.mul_pos (by omega) (by omega);have D1:(a1+b1)*(a2+b2)≤200000*200000:=Jd (by omega) (by omega) (by omega) (by omega);refine⟨sumS t i j a1 b1 a2 b2,(a1+b1)*(a2+b2),D0,by unfold sumS;omega,by unfold sumS;omega,by unfold sumS;omega,by unfold sumS;omega,fun hv=>?_,fun mode=>⟨?_,?_⟩⟩
 ·have hr:∀ i,0≤rowS t j a2 b2 i:=fun i=>Int.add_nonneg (jU (by omega) (hv _)) (jU hb2 (hv _));exact Int.add_nonneg (jU (by omega) (hr _)) (jU hb1 (hr _))
 ·have hL:Ev (fun n=>qdZ t (i:Int) a1 b1 (j:Int) a2 b2 n 0 0) (sumS t i j a1 b1 a2 b2,2):=by
   refine Ev.succ ?_;simp only[qdZ];refine Ev.tt Z (Ev.bind (sRow h (c:=0) (w:=a1) (by omega) Z (by omega) ua1 (fun _=>W1.il) W2 (by omega) (by omega)) ?_);refine Ev.succ ?_;simp only[qdZ];refine Ev.tt Z (Ev.bind (sRow h (c:=1) (w:=b1) (by omega) Z hb1 ub1 W1.nx W2 (by rw[Nat.add_zero];omega) (by rw[Nat.add_zero];omega)) ?_);refine Ev.succ ?_;simp only[qdZ];refine Ev.ff Z (Ev.now ?_);unfold sumS;rw[Int.zero_add,Nat.add_zero]
   rfl
  unfold qhI;refine Ev.bind p1 (Ev.bind p2 (Ev.bind hL ?_));show Ev (fun n=>(qcE n (sumS t i j a1 b1 a2 b2) (W64 (W64 (a1+b1)*W64 (a2+b2))) mode).bind fun r9=>V r9) _;rw[wO (a1+b1),wO (a2+b2),wO ((a1+b1)*(a2+b2))];exact Ev.bind ⟨0,fun n _=>qkR D0 (by unfold sumS;omega) (by unfold sumS;omega)⟩ .done
 ·have hL:Ev (fun n=>qa7 t (wtL i a1 b1) (wtL j a2 b2) n 0 0) (sumS t i j a1 b1 a2 b2,((wtL i a1 b1).length:Int)):=by
   by_cases h0:b1=0
   ·have h1:=W1.one h0;subst h0 h1;have hl:wtL i 1 0=[⟨(i:Int),1⟩]:=if_pos Z;rw[hl];refine Ev.succ ?_;simp only[qa7];refine Ev.tt Z (Ev.bind (Ev.now Z) (Ev.bind (iRow h (i:=i) (w:=1) (by omega) (by omega) W1.il W2 (by omega) (by omega)) (Ev.succ ?_)));simp only[qa7];refine Ev.ff Z (Ev.now ?_);unfold sumS;rw[Int.zero_add,Int.zero_mul,Int.add_zero]
    rfl
   ·have hl:wtL i a1 b1=[⟨(i:Int),a1⟩,⟨((i+1:Nat):Int),b1⟩]:=if_neg h0;rw[hl];refine Ev.succ ?_;simp only[qa7];refine Ev.tt Z (Ev.bind (Ev.now Z) (Ev.bind (iRow h (i:=i) (w:=a1) (by omega) ua1 W1.il W2 (by omega) (by omega)) (Ev.succ ?_)));simp only[qa7];refine Ev.tt Z (Ev.bind (Ev.now Z) (Ev.bind (iRow h (i:=i+1) (w:=b1) hb1 ub1 (W1.nx (by omega)) W2 (by omega) (by omega)) (Ev.succ ?_)));simp only[qa7];refine Ev.ff Z (Ev.now ?_);unfold sumS;rw[Int.zero_add]
    rfl
  unfold qdX;refine Ev.bind q1 (Ev.bind q2 (Ev.bind hL ?_));show Ev (fun n=>(qfn n (sumS t i j a1 b1 a2 b2) (W64 ((a1+b1)*(a2+b2))) mode).bind fun r9=>V r9) _;rw[wO ((a1+b1)*(a2+b2))];exact Ev.bind ⟨0,fun n _=>(qsX (m:=0)).trans (qkR D0 (by unfold sumS;omega) (by unfold sumS;omega))⟩ .done
end Go.Fw


namespace Go.Fw
open Go
set_option maxRecDepth 100000
theorem qvC {b:qd}(h:blockB b=true){j:Nat}(hj:j<(places b.Aa).length){n:Nat}:qlx n b.Ap b.Aa (toSp (gt (places b.Aa) j))=V (capJ b j):=by
 have hd:=qar h;unfold capJ pinCap;rcases qlF hj with⟨i,k,hi,hk,_,e⟩|⟨i,hi,_,e⟩
 ·rw[e];obtain⟨⟨c0,c1⟩,hn,_⟩:=qgW hd hi;unfold place1 cellAt toSp;simp only[qlx,show decide ((i:Int)<0)=false by simp,cond_false,qz hi,jd,qd4 c0 c1,jq,qz (show k<(gt b.Ap.Am (gt b.Aa.Ab i).Bp.toNat).As.length by omega)]
 ·rw[e];rfl
theorem qpO {b:qd}(h:blockB b=true){i:Nat}(hi:i<b.Ac.length):Ev (fun n=>qia n b (i:Int)) (loadsL b i):=by
 have hw:=qbE h hi;have hs:=qU (qar h);have hlo:=hw.lo;have hhi:=hw.hi;have hcap:=hw.cap;have hsm:=qhB h (i:=i);have e1:Ev (fun n=>qdx b (gt b.Ac i) ((places b.Aa).map toSp) (skL b i) n (gt b.Ac i).Br 0) (ldA b (gt b.Ac i) (skL b i) (skL b i).length,((skL b i).length:Int)):=by
  refine loopF (Lf:=qdx b (gt b.Ac i) ((places b.Aa).map toSp) (skL b i)) (S:=ldA b (gt b.Ac i) (skL b i)) (len:=(skL b i).length) (fun n=>?_) (fun j hj X hX=>?_)
  ·simp only[qdx,ql (je _),cond_false]
  ·obtain⟨y,hy,ey,_⟩:=qpt hj;have hjs:j<(gt b.Ac i).Bi.length:=by rw[hw.snk];exact hj
   have hsn:=hw.sin j hjs;have hln:=qoY (b:=b) (w:=gt b.Ac i) (sk:=skL b i) (j:=j);have hp:idx ((places b.Aa).map toSp) (y:Int)=V (toSp (gt (places b.Aa) y)):=by
    refine qas ?_;rw[Jc,ji hy,qdW hy];rfl
   have hc:=fun n=>qvC h hy (n:=n);simp only[qdx,qj hj,cond_true,qaz hj,ey,jd,qaz hjs,qd4 hsn.1 (show at0 (gt b.Ac i).Bi j<((ldA b (gt b.Ac i) (skL b i) j).length:Int) by omega),hp,hc,wS j];have:ldA b (gt b.Ac i) (skL b i) (j+1)=setS (ldA b (gt b.Ac i) (skL b i) j) (at0 (gt b.Ac i).Bi j) (W64 (gt (ldA b (gt b.Ac i) (skL b i) j) (at0 (gt b.Ac i).Bi j).toNat+capJ b y)):=by
    show addSink _ _ _ _ _=_;unfold addSink;rw[ey,jq]
   rw[this] at hX;exact hX
 have e2:∀ j t,t.length=(gt b.Ac i).Aj.length→j<(gt b.Ac i).Aj.length→Ev (fun n=>qdo (gt b.Ac i) n t (j:Int)) (ldB (gt b.Ac i) j t,0):=by
  intro j
  induction j with
  | zero=>
   intro t _ _;refine Ev.succ ?_;show Ev (fun n=>qdo (gt b.Ac i) (n+1) t 0) _;unfold qdo;exact Ev.ff Z .done
  | succ j ih=>
   intro t ht hj;have hp:=hw.par (j+1) (by omega) hj;refine Ev.succ ?_;simp only[qdo,show decide (((j+1:Nat):Int) > 0)=true from decide_eq_true (by omega),cond_true,qaz hj,jd,qd4 hp.1 (show at0 (gt b.Ac i).Aj (j+1)<(t.length:Int) by omega),qz (show j+1<t.length by omega),show((j+1:Nat):Int)-1=(j:Int) by omega,qI (show -9223372036854775808≤(j:Int) by omega) (by omega)];exact ih _ (by rw[qfs];exact ht) (by omega)
 unfold qia qmh;rw[qz hi];simp only[jd,qb0 (show([]:List Int).length+(gt b.Ac i).Br.length≤2147483648 by simp;omega),List.nil_append];refine Ev.bind (qgt hs) (Ev.bind (qm8 hs) (Ev.bind e1 ?_));rw[qfh (show(gt b.Ac i).Br.length≤9223372036854775807 by omega),show((gt b.Ac i).Br.length:Int)-1=(((gt b.Ac i).Aj.length-1:Nat):Int) by omega];exact Ev.bind (e2 _ _ (by rw[qoY];exact hcap) (by omega)) .done
theorem qoJ {b:qd}(h:blockB b=true){i:Nat}(hi:i<b.Ac.length):Ev (fun n=>qhe n b (i:Int)) (delaysL b i):=by
 have hw:=qbE h hi;have hlo:=hw.lo;have hhi:=hw.hi;have hres:=hw.res;have l1:=qml h hi;have main:∀ d k,k+1+d=(gt b.Ac i).Aj.length→Ev (fun n=>qdS (gt b.Ac i) (loadsL b i) n (dlL (gt b.Ac i) (loadsL b i) k) ((k+1:Nat):Int)) (delaysL b i,((loadsL b i).length:Int)):=by
  intro d
  induction d with
  | zero=>
   intro k hk;refine Ev.succ ?_;simp only[qdS,ql (show(loadsL b i).length≤k+1 by omega),cond_false];refine Ev.now ?_;rw[l1,←hk];unfold delaysL;rw[←hk]
   rfl
  | succ d ih=>
   intro k hk;have hp:=hw.par (k+1) (by omega) (by omega);have hlen:=qox (w:=gt b.Ac i) (ld:=loadsL b i) (k:=k);refine Ev.succ ?_;simp only[qdS,qj (show k+1<(loadsL b i).length by omega),cond_true,qaz (show k+1<(gt b.Ac i).Aj.length by omega),jd,qd4 hp.1 (show at0 (gt b.Ac i).Aj (k+1)<((dlL (gt b.Ac i) (loadsL b i) k).length:Int) by omega),
    qaz (show k+1<(gt b.Ac i).Bv.length by omega),qz (show k+1<(loadsL b i).length by omega),qdM (show k+1<9223372036854775807 by omega)]
   rw[qb0 (by rw[hlen,jt];omega)];exact ih (k+1) (by omega)
 unfold qhe;rw[qz hi];simp only[jd];refine Ev.bind (qpO h hi) ?_;exact Ev.bind (main ((gt b.Ac i).Aj.length-1) 0 (by omega)) .done
theorem qpB {b:qd}(h:blockB b=true){i:Nat}(hi:i<b.Ac.length){mode:Int}:Ev (fun n=>qgr n b (i:Int) mode) ((exactL b i).map fun x=>divI x 1000 mode):=by
 have hw:=qbE h hi;have hsl:(gt b.Ac i).Bi.length≤78:=by rw[hw.snk];exact qhB h
 have hdl:=qnl h hi;have e3:Ev (fun n=>qbV b (i:Int) mode (delaysL b i) n ([]:List Int) 0) ((exactL b i).map (fun x=>divI x 1000 mode),((gt b.Ac i).Bi.length:Int)):=by
  refine loopF (Lf:=qbV b (i:Int) mode (delaysL b i)) (S:=fun j=>(((gt b.Ac i).Bi.take j).map fun s=>gt (delaysL b i) s.toNat).map fun x=>divI x 1000 mode) (len:=(gt b.Ac i).Bi.length) (fun n=>?_) (fun j hj X hX=>?_)
  ·simp only[qbV,qz hi,jd,ql (je _),cond_false,jH];rfl
  ·have hsn:=hw.sin j hj;have hrg:=qqS h hi hj;have eg:gt (exactL b i) j=gt (delaysL b i) (at0 (gt b.Ac i).Bi j).toNat:=by
    unfold exactL;rw[qdW (by rw[ju];exact hj),List.getElem_map,qna hj]
   rw[eg] at hrg;have hdv:=fun n=>qkR (n:=n) (a:=gt (delaysL b i) (at0 (gt b.Ac i).Bi j).toNat) (b:=1000) (mode:=mode) (by omega) (by omega) (by omega);simp only[qbV,qz hi,jd,qj hj,cond_true,qaz hj,qd4 hsn.1 (show at0 (gt b.Ac i).Bi j<((delaysL b i).length:Int) by omega),hdv,wS j];rw[qb0 (by rw[ju,ju,Jf,jt];omega)];have:(((gt b.Ac i).Bi.take j).map (fun s=>gt (delaysL b i) s.toNat)).map (fun x=>divI x 1000 mode)++[divI (gt (delaysL b i) (at0 (gt b.Ac i).Bi j).toNat) 1000 mode]=(((gt b.Ac i).Bi.take (j+1)).map fun s=>gt (delaysL b i) s.toNat).map fun x=>divI x 1000 mode:=by
    rw[jy hj,jF,jF,qna hj];rfl
   rw[this];exact hX
 unfold qgr;exact Ev.bind (qoJ h hi) (Ev.bind e3 .done)
end Go.Fw


namespace Go.Fw
open Go
set_option maxRecDepth 100000
instance:Inhabited qw:=⟨⟨0,⟨0,0⟩,⟨0,0⟩⟩⟩
instance:Inhabited qi:=⟨⟨0,0⟩⟩
def cornerB (c:qy):Bool:=(inI c.Be 100 5000&&(inI c.Bh 100 5000&&(inI c.Bf 100 5000&&inI c.Bj 100 5000)))&&(nameB c.Au&&(decide (c.Be≤c.Bh)&&decide (c.Bf≤c.Bj)))
theorem qsV {c:qy}(h:okS c.Au):Ev (fun n=>qh5 n c) (cornerB c):=by
 have hL:Ev (fun n=>qci c n 0) (bif inI c.Be 100 5000&&(inI c.Bh 100 5000&&(inI c.Bf 100 5000&&inI c.Bj 100 5000)) then .nxt 4 else .ret false):=by
  refine Ev.succ ?_;simp only[qci,qdk,show idx ([c.Be,c.Bh,c.Bf,c.Bj]:List Int) 0=V c.Be from rfl,jd];refine Ev.tt Z ?_;cases inI c.Be 100 5000
  ·exact .done
  refine Ev.ff Z (Ev.succ ?_);simp only[qci,qdk,show W64 (0+1)=1 from rfl,show idx ([c.Be,c.Bh,c.Bf,c.Bj]:List Int) 1=V c.Bh from rfl,jd];refine Ev.tt Z ?_;cases inI c.Bh 100 5000
  ·exact .done
  refine Ev.ff Z (Ev.succ ?_);simp only[qci,qdk,show W64 (1+1)=2 from rfl,show idx ([c.Be,c.Bh,c.Bf,c.Bj]:List Int) 2=V c.Bf from rfl,jd];refine Ev.tt Z ?_;cases inI c.Bf 100 5000
  ·exact .done
  refine Ev.ff Z (Ev.succ ?_);simp only[qci,qdk,show W64 (2+1)=3 from rfl,show idx ([c.Be,c.Bh,c.Bf,c.Bj]:List Int) 3=V c.Bj from rfl,jd];refine Ev.tt Z ?_;cases inI c.Bj 100 5000
  ·exact .done
  refine Ev.ff Z (Ev.succ ?_);simp only[qci];exact Ev.ff Z .done
 unfold qh5 cornerB;refine Ev.bind hL ?_;cases inI c.Be 100 5000&&(inI c.Bh 100 5000&&(inI c.Bf 100 5000&&inI c.Bj 100 5000))
 ·exact .done
 ·refine Ev.bind (qmt h) ?_;cases nameB c.Au
  ·exact .done
  ·cases decide (c.Be≤c.Bh)<;>exact .done
theorem qru {n:Nat}{a b:Int}:qgI n a b=V (decide (a ≥ 100)&&(decide (a≤b)&&decide (b≤5000))):=by
 unfold qgI;cases decide (a ≥ 100)
 ·rfl
 ·cases decide (a≤b)<;>rfl
theorem qtL {c:qy}(h:okS c.Au):Ev (fun n=>qh0 n c) (cornerB c):=by
 have e:cornerB c=(nameB c.Au&&((decide (c.Be ≥ 100)&&(decide (c.Be≤c.Bh)&&decide (c.Bh≤5000)))&&(decide (c.Bf ≥ 100)&&(decide (c.Bf≤c.Bj)&&decide (c.Bj≤5000))))):=by
  unfold cornerB;rw[jj];simp only[jf,qbA,decide_eq_true_eq];constructor
  ·rintro⟨⟨h1,h2,h3,h4⟩,h5,h6,h7⟩;refine⟨h5,⟨?_,?_,?_⟩,?_,?_,?_⟩<;>omega
  ·rintro⟨h5,⟨h1,h2,h3⟩,h4,h6,h7⟩;refine⟨⟨⟨?_,?_⟩,⟨?_,?_⟩,⟨?_,?_⟩,?_,?_⟩,h5,?_,?_⟩<;>omega
 rw[e];unfold qh0;simp only[qpw h,qru,jd];cases nameB c.Au
 ·exact .done
 ·cases decide (c.Be ≥ 100)&&(decide (c.Be≤c.Bh)&&decide (c.Bh≤5000))<;>exact .done
def spanB (s:qi):Bool:=inI s.Ar (-1000000000) 1000000000&&(inI s.Ay (-1000000000) 1000000000&&decide (s.Ar≤s.Ay))
def slewB (s:qi):Bool:=decide (s.Ar ≥ 0)&&(decide (s.Ar≤s.Ay)&&decide (s.Ay≤1000000))
theorem quB {n:Nat}{s:qi}:qlC n s=V (spanB s):=by
 unfold qlC spanB;simp only[qdk,jd];cases inI s.Ar (-1000000000) 1000000000
 ·rfl
 ·cases inI s.Ay (-1000000000) 1000000000<;>rfl
theorem qvz {n:Nat}{s:qi}:qlu n s=V (spanB s):=by
 unfold qlu qll spanB;simp only[qey,jd];cases inI s.Ar (-1000000000) 1000000000
 ·rfl
 ·cases inI s.Ay (-1000000000) 1000000000<;>rfl
end Go.Fw


namespace Go.Fw
open Go Go.Proofs Go.Proofs.Tryz
open Go.RowKit (Below)
set_option maxRecDepth 100000
set_option maxHeartbeats 1600000
variable {n:Nat}{w:World}{cs1 cs2 cs3 cs4 cs5 cs6 cs7 cs8 cs9:List Value}
def qhi (t:qB)(nodes:(List Int)):Nat→Bool→Int→Int→Int→Int→Int→Int→Option (Bool×Int×Int×Int×Int×Int×Int)
 | 0,_,_,_,_,_,_,_=>U
 | n+1,b1,i1,i2,i3,i4,i5,i6=>
  bif decide (i6<(nodes.length:Int)) then
   (idx nodes i6).bind fun y1=>
   (idx t.Bb y1).bind fun y2=>
   bif y2 then
    (idx t.Ai y1).bind fun y3=>
    (qdt n (⟨i1,(⟨i2,i3⟩:qi),(⟨i4,i5⟩:qi)⟩:qw) b1 y3 (⟨0,0⟩:qi)).bind fun o=>match o with
     | (x1,x2)=>
      qhi t nodes n x2 x1.Bt x1.Ai.Ar x1.Ai.Ay x1.Ba.Ar x1.Ba.Ay (W64 (i6+1))
   else
    qhi t nodes n b1 i1 i2 i3 i4 i5 (W64 (i6+1))
  else
   V (b1,i1,i2,i3,i4,i5,i6)
def qlq (n:Nat)(t:qB)(nodes:(List Int)):Option (qi×Bool):=
 (qhi t nodes n false 0 0 0 0 0 0).bind fun o=>match o with
 | (b1,_,i2,i3,_,_,_)=>
  V ((⟨i2,i3⟩:qi),b1)
theorem qq0 {t:qB}{nodes:(List Int)}(ha1:Ro w t cs1)(ha2:Ro w nodes cs2){r:(qi×Bool)}(F:qlq n t nodes=V r):RetV prog 189 [GoT.v qB cs1,GoT.v (List Int) cs2] w r:=by
 obtain⟨p1,k1,p2,k2,p3,k3,rfl,s1,s2,_⟩:=qfi ha1;obtain⟨p4,k4,rfl,s4⟩:=ha2;refine zV 32 func189 Z fun h=>zSR (qx h Z Z fun _ bb1 h=>qp qa h Z Z Z fun _ bb2 h=>X0 4 Z (qp qa h Z Z Z fun _ bb3 h=>zNSR (qp qa h Z Z Z fun _ bb4 h=>zs 0 h Z fun _ h=>X0 8 Z ?_)));obtain⟨o1,F,hK1⟩:=qc F;refine qn (rL (fun m e w'=>∃(b1:Bool) (i1:Int) (i2:Int) (i3:Int) (i4:Int) (i5:Int) (i6:Int),qhi t nodes m b1 i1 i2 i3 i4 i5 i6=V o1∧e=[(2,.pointer (V ⟨bb1,0,U⟩)),(4,.pointer (V ⟨bb2,0,U⟩)),(6,.pointer (V ⟨bb3,0,U⟩)),(7,.pointer (V ⟨bb4,0,U⟩)),(10,.slice p4 nodes.length k4),(11,.int .i64 (nodes.length:Int)),(12,.int .i64 i6)]∧SH w w' [Ch.box bb4 [.bool b1] 4,Ch.box bb3 [.int .i64 i1,.int .i64 i2,.int .i64 i3,.int .i64 i4,.int .i64 i5] 140,Ch.box bb2 [.int .i64 0,.int .i64 0] 138,Ch.box bb1 (qbd t p1 p2 p3 k1 k2 k3) 57]) n ⟨_,_,_,_,_,_,_,F,rfl,h⟩ Z ?_);rintro m1 _ _ ⟨b1,i1,i2,i3,i4,i5,i6,F,rfl,h⟩;rcases m1 with _|m1
 ·cases F
 refine X0 5 Z (qh Z F ?_ ?_)<;>intro F
 ·refine zKSBSR ?_;obtain⟨_,_,F,he1,_,_,_,_,hp1,hq1,rfl,hc2⟩:=s4.ix F;refine zxe hp1 hq1 he1 Z (zc 0 (hc2.below h.below) Z (X1 7 3 h Z ?_));obtain⟨_,_,F,he2,_,_,_,_,hp2,hq2,rfl,hc3⟩:=s1.ix F;refine zxe hp2 hq2 he2 Z (zc 0 (hc3.below h.below) Z (qcP (qh Z F ?_ ?_)))<;>intro F
  ·refine X1 4 3 h Z ?_;obtain⟨_,_,F,he3,_,_,_,_,hp3,hq3,hr3,hc5⟩:=s2.ix F;obtain rfl:=qD hr3;refine zxe hp3 hq3 he3 Z (zc 0 (hc5.below h.below) Z (r_v (qJ qa [] [] Z Z Z Z Z Z Z Z) Z ?_));obtain⟨o2,hr4,F⟩:=qc F;obtain⟨x1,x2⟩:=o2;refine qsC (cB 222 Z) (qhA h hr4) Z Z Z Z fun _ h=>?_;replace h:SH _ _ [Ch.box bb4 [.bool x2] 4,Ch.box bb3 (qgf x1) 140,Ch.box bb2 [.int .i64 0,.int .i64 0] 138,Ch.box bb1 (qbd t p1 p2 p3 k1 k2 k3) 57]:=h;exact X0 6 Z (rK ⟨_,_,_,_,_,_,_,F,rfl,h⟩ Z)
  exact X0 6 Z (rK ⟨_,_,_,_,_,_,_,F,rfl,h⟩ Z)
 refine qq Z ?_;obtain rfl:=qb F;replace F:=hK1;refine qcQ (rA [] [0,1] h Z fun _ h=>M2 7 [0,1,2] 1 0 (h.pick [0,1] Z) Z (Ao 3 15 Z (zs 2 h Z fun _ h=>G0 31 [4] (h.pick [0,1] Z) Z (Ad ?_))));obtain rfl:=qb F;exact qae qa (ρ:=(qi×Bool)) [GoT.v qi [.int .i64 i2,.int .i64 i3],GoT.v Bool [.bool b1]] h ⟨⟨_,_,_,rfl,rfl,h.box 2 Z,rfl⟩,rfl,trivial⟩ (PV.done h (qap h (qA (S:=fun _=>False) (qP (⟨i2,i3⟩:qi))) (qaj (qA (S:=fun _=>False) Z)) (by rfl)))
def qeV (list:(List Int))(x:Int):Nat→Int→Option (Flow Bool Int)
 | 0,_=>U
 | n+1,i1=>
  bif decide (i1<(list.length:Int)) then
   (idx list i1).bind fun y1=>
   bif (y1==x) then V (.ret true) else
   qeV list x n (W64 (i1+1))
  else
   V (.nxt i1)
def qlm (n:Nat)(list:(List Int))(x:Int):Option Bool:=
 (qeV list x n 0).bind fun o=>match o with
 | .ret r=>V r
 | .nxt _=>
  V false
theorem qq7 {list:(List Int)}{x:Int}(ha1:Ro w list cs1){r:Bool}(F:qlm n list x=V r):RetV prog 154 [GoT.v (List Int) cs1,.int .i64 x] w r:=by
 obtain⟨p1,k1,rfl,s1⟩:=ha1;refine zV 18 func154 Z fun h=>X0 9 Z ?_;obtain⟨o1,F,hK1⟩:=qc F;refine qn (rL (fun m e w'=>∃(i1:Int),qeV list x m i1=V o1∧e=[(0,.slice p1 list.length k1),(1,.int .i64 x),(5,.int .i64 i1)]∧SH w w' []) n ⟨_,F,rfl,h⟩ Z ?_);rintro m1 _ _ ⟨i1,F,rfl,h⟩;rcases m1 with _|m1
 ·cases F
 refine X0 8 Z (qh Z F ?_ ?_)<;>intro F
 ·refine X0 7 Z ?_;obtain⟨_,_,F,he1,_,_,_,_,hp1,hq1,rfl,hc2⟩:=s1.ix F;refine zxe hp1 hq1 he1 Z (zc 0 (hc2.below h.below) Z (X0 3 Z (qh Z F ?_ ?_)))<;>intro F
  ·refine X0 4 Z ?_;obtain rfl:=qb F;replace F:=hK1;exact rb h F Z
  exact X0 7 Z (rK ⟨_,F,rfl,h⟩ Z)
 refine qq Z ?_;obtain rfl:=qb F;replace F:=hK1;exact X0 4 Z (rb h F Z)
def qdY (links:(List qt))(broken:(List Int)):Nat→(List Bool)→Int→Option ((List Bool)×Int)
 | 0,_,_=>U
 | n+1,x1,i1=>
  bif decide (i1<(links.length:Int)) then
   (qlm n broken i1).bind fun r1=>
   (appS x1 ([(!r1)]:List Bool)).bind fun x2=>
   qdY links broken n x2 (W64 (i1+1))
  else
   V (x1,i1)
def qkp (n:Nat)(links:(List qt))(broken:(List Int)):Option (List Bool):=
 (qdY links broken n ([]:List Bool) 0).bind fun o=>match o with
 | (x1,_)=>
  V x1
theorem qqk {links:(List qt)}{broken:(List Int)}(ha1:Ro w links cs1)(ha2:Ro w broken cs2){r:(List Bool)}(F:qkp n links broken=V r):RetV prog 150 [GoT.v (List qt) cs1,GoT.v (List Int) cs2] w r:=by
 obtain⟨p1,k1,rfl,_⟩:=ha1;obtain⟨p2,k2,rfl,s2⟩:=ha2;refine zV 22 func150 Z fun h=>X0 6 Z (qK qa [] _ ([]:List Bool) h Z Z Z Z Z Z Z Z Z trivial Z fun _ _ _ h=>X0 7 Z ?_);obtain⟨o1,F,hK1⟩:=qc F;refine qn (rL (fun m e w'=>∃(S2:Nat→Prop) (p4:Option Addr) (ln1:Nat) (k3:Nat) (x1:(List Bool)) (i1:Int),qdY links broken m x1 i1=V o1∧e=[(0,.slice p1 links.length k1),(1,.slice p2 broken.length k2),(5,.slice p4 ln1 k3),(6,.int .i64 i1)]∧SH w w' [Ch.own S2 (x1:List Bool) [.slice p4 ln1 k3]]) n ⟨_,_,_,_,_,_,F,rfl,h⟩ Z ?_);rintro m1 _ _ ⟨S2,p4,ln1,k3,x1,i1,F,rfl,h⟩;obtain rfl:=(h.sl 0 Z).2;rcases m1 with _|m1
 ·cases F
 refine X0 8 Z (qh Z F ?_ ?_)<;>intro F
 ·refine X0 7 Z (zcB h F (qq7 ⟨_,_,rfl,(h.oldS s2)⟩) Z fun r1 _ h F=>zp1 Z (qK qa [.tmp 18] _ ([(!r1)]:List Bool) h Z Z Z Z Z Z Z Z Z ⟨rfl,trivial⟩ Z fun _ _ _ h=>?_));obtain⟨_,hx1,F⟩:=qc F;obtain⟨g1,hx1⟩:=qan hx1;refine qbW qa 1 h Z (h.sl 0 Z).1 (h.sl 0 Z).2 Z Z Z Z Z Z Z Z Z g1 hx1 Z fun _ _ _ _ h=>X0 8 Z ?_;replace h:=h.pick [1] Z;exact rK ⟨_,_,_,_,_,_,F,rfl,h⟩ Z
 refine qq Z ?_;obtain rfl:=qb F;replace F:=hK1;refine X0 5 Z ?_;obtain rfl:=qb F;exact rO 0 h Z ⟨rfl,trivial⟩
end Go.Fw


namespace Go.Fw
open Go
set_option maxRecDepth 100000
theorem qte {b:qd}{k:Int}(h:blockB b=true){j:Nat}(hj:j<(places b.Aa).length)(hk:(gt (places b.Aa) j).net=k)(hdr:(gt (places b.Aa) j).drives=true):Ev (fun n=>qiX n b.Aa k) (j:Int):=by
 have hd:=qar h;have hs:=qU hd;have hl:=qbc hs;have e:ixL (fun q:Tl05Place=>(q.net==k)&&q.drives) ((places b.Aa).map toSp)=(j:Int):=by
  refine qxB (by simpa using hj) ?_ (fun i hi hq=>?_)
  ·rw[qpj hj];show(((gt (places b.Aa) j).net==k)&&(gt (places b.Aa) j).drives)=true;rw[hk,hdr];simp
  ·have hi':i<(places b.Aa).length:=by simpa using hi
   rw[qpj hi'] at hq;have hq':(((gt (places b.Aa) i).net==k)&&(gt (places b.Aa) i).drives)=true:=hq;simp only[jf,beq_iff_eq] at hq';exact qui hd hi' hj (by rw[hq'.1,hk]) hq'.2 hdr
 unfold qiX;refine Ev.bind (qgt hs) ?_;rw[←e];exact qfS (fin:=(((places b.Aa).map toSp).length:Int)) (Lf:=qcO k ((places b.Aa).map toSp)) (xs:=(places b.Aa).map toSp) (pf:=fun _ (q:Tl05Place)=>V ((q.net==k)&&q.drives)) (fun _ _=>.done)
  (fun n=>by simp only[qcO,ql (je _),cond_false])
  (fun n j x hx=>by
   have hj:=(List.getElem?_eq_some_iff.1 hx).1;have hj':j<(places b.Aa).length:=by simpa using hj
   simp only[qcO,qj hj,cond_true,qas hx,jd,wS j];cases (x.net==k)<;>cases x.drives<;>rfl)
  (fun n=>by congr 1;funext o;cases o<;>rfl)
theorem qmx {b:qd}{i k:Nat}(h:blockB b=true)(hi:i<b.Aa.Ab.length)(hk:k<(gt b.Aa.Ab i).Ah.length):Ev (fun n=>qgn n b.Aa (i:Int) (k:Int)) ((off b.Aa i+k:Nat):Int):=by
 have hd:=qar h;have hs:=qU hd;have hl:=qbc hs;obtain⟨hj,ej⟩:=qiH hi hk;have e:ixL (fun q:Tl05Place=>(q.instance_==(i:Int))&&(q.pin==(k:Int))) ((places b.Aa).map toSp)=((off b.Aa i+k:Nat):Int):=by
  refine qxB (by simpa using hj) ?_ (fun m hm hq=>?_)
  ·rw[qpj hj,ej];unfold place1 toSp;simp
  ·have hm':m<(places b.Aa).length:=by simpa using hm
   rw[qpj hm'] at hq;rcases qlF hm' with⟨i',k',hi',hk',em,e'⟩|⟨i',hi',em,e'⟩
   ·rw[e'] at hq;unfold place1 toSp at hq;simp only[jf,beq_iff_eq] at hq;obtain rfl:i'=i:=by omega
    obtain rfl:k'=k:=by omega
    exact em
   ·rw[e'] at hq;unfold place2 toSp at hq;simp only[jf,beq_iff_eq] at hq;omega
 unfold qgn;refine Ev.bind (qgt hs) ?_;rw[←e];exact qfS (fin:=(((places b.Aa).map toSp).length:Int)) (Lf:=qd8 (i:Int) (k:Int) ((places b.Aa).map toSp)) (xs:=(places b.Aa).map toSp) (pf:=fun _ (q:Tl05Place)=>V ((q.instance_==(i:Int))&&(q.pin==(k:Int)))) (fun _ _=>.done)
  (fun n=>by simp only[qd8,ql (je _),cond_false])
  (fun n j x hx=>by
   have hj:=(List.getElem?_eq_some_iff.1 hx).1;have hj':j<(places b.Aa).length:=by simpa using hj
   simp only[qd8,qj hj,cond_true,qas hx,jd,wS j];cases (x.instance_==(i:Int))<;>cases (x.pin==(k:Int))<;>rfl)
  (fun n=>by congr 1;funext o;cases o<;>rfl)
theorem qsx {n:Nat}{xs:List qt}{f t a c k i:Int}(hx:xs.length≤1000000)(f0:0≤f)(f1:f≤1000000)(t0:0≤t)(t1:t≤1000000)(ha:b01 a)(hc:b01 c):qfp n xs f t a c k i=V (xs++[⟨2*f+a,2*t+c,k,i⟩]):=by
 have ha':0≤a∧a≤1:=by rcases ha with e|e<;>omega
 have hc':0≤c∧c≤1:=by rcases hc with e|e<;>omega
 unfold qfp;rw[wO (2*f),wO (2*t),wO (2*f+a),wO (2*t+c),qb0 (by rw[jt];omega)]
 rfl
def fitB (a:qH)(i j:Int):Bool:=bif a.Aq==1 then(bif a.Bn==3 then true else(a.Bn==1)==(i==j)) else bif a.Aq==2 then i==0 else bif a.Aq==3 then i==1 else false
def pcL (a:qH)(f t k i j:Int):List qt:=bif fitB a i j then[⟨2*f+i,2*t+j,1,k⟩] else[]
theorem arcStep {arc:qH}{xs:List qt}{f t k i j:Int}{X:List qt×Int}(hx:xs.length≤1000000)(f0:0≤f)(f1:f≤1000000)(t0:0≤t)(t1:t≤1000000)(hi:b01 i)(hj:b01 j)
  (h:Ev (fun n=>qa8 arc f t k i n (xs++pcL arc f t k i j) (j+1)) X):Ev (fun n=>qa8 arc f t k i n xs j) X:=by
 have hj':0≤j∧j≤1:=by rcases hj with e|e<;>omega
 have hp:=fun n=>qsx (n:=n) (k:=1) (i:=k) hx f0 f1 t0 t1 hi hj;refine Ev.succ ?_;simp only[qa8,hp,jd,wO (j+1)];refine Ev.tt (decide_eq_true hj'.2) ?_;unfold pcL fitB at h;cases h1:arc.Aq==1
 ·cases h2:arc.Aq==2
  ·cases h3:arc.Aq==3
   ·rw[h1,h2,h3] at h;simpa using h
   ·rw[h1,h2,h3] at h;cases h4:i==1
    ·rw[h4] at h;simpa using h
    ·rw[h4] at h;simpa using h
  ·rw[h1,h2] at h;cases h4:i==0
   ·rw[h4] at h;simpa using h
   ·rw[h4] at h;simpa using h
 ·rw[h1] at h;cases h2:arc.Bn==3
  ·rw[h2] at h;cases h4:(arc.Bn==1)==(i==j)
   ·rw[h4] at h;simpa [h4] using h
   ·rw[h4] at h;simpa [h4] using h
  ·rw[h2] at h;simpa using h
theorem qzm {arc:qH}{xs:List qt}{f t k:Int}(hx:xs.length≤900000)(f0:0≤f)(f1:f≤1000000)(t0:0≤t)(t1:t≤1000000) :
  Ev (fun n=>qlv n xs arc f t k) (xs++pcL arc f t k 0 0++pcL arc f t k 0 1++pcL arc f t k 1 0++pcL arc f t k 1 1):=by
 have hl:∀ i j,(pcL arc f t k i j).length≤1:=fun i j=>by unfold pcL;cases fitB arc i j<;>simp
 have h00:=hl 0 0;have h01:=hl 0 1;have h10:=hl 1 0;have h11:=hl 1 1;have row:∀ (i:Int) (ys:List qt),b01 i→ys.length≤900010→Ev (fun n=>qa8 arc f t k i n ys 0) (ys++pcL arc f t k i 0++pcL arc f t k i 1,2):=by
  intro i ys hi hy;have hli:=hl i 0;refine arcStep (by omega) f0 f1 t0 t1 hi (.inl Z) (arcStep (j:=0+1) (by rw[jh];omega) f0 f1 t0 t1 hi (.inr Z) (Ev.succ ?_));simp only[qa8];exact Ev.ff Z .done
 have hL:Ev (fun n=>qeP arc f t k n xs 0) (xs++pcL arc f t k 0 0++pcL arc f t k 0 1++pcL arc f t k 1 0++pcL arc f t k 1 1,2):=by
  refine Ev.succ ?_;simp only[qeP];refine Ev.tt Z (Ev.bind (row 0 xs (.inl Z) (by omega)) ?_);refine Ev.succ ?_;simp only[qeP];refine Ev.tt Z (Ev.bind (row 1 _ (.inr Z) (by simp only[jh];omega)) ?_);refine Ev.succ ?_;simp only[qeP];exact Ev.ff Z .done
 unfold qlv;exact Ev.bind hL .done
theorem qvy {ps:List qam}{a:qH}(h:arcS ps a=true)(h3:a.Aq≤3)(h1:1≤a.Aq):(a.Aq=1∧(a.Bn=1∨a.Bn=2∨a.Bn=3))∨a.Aq=2∨a.Aq=3:=by
 rcases (by omega:a.Aq=1∨a.Aq=2∨a.Aq=3) with e|e|e
 ·refine .inl ⟨e,?_⟩;unfold arcS at h;rw[e] at h;simp only[beq_self_eq_true,cond_true,jf,qbA] at h;have:=h.2.2.2.1;omega
 ·exact .inr (.inl e)
 ·exact .inr (.inr e)
theorem qwu {ps:List qam}{a:qH}{first:Int}{k:Nat}(h:arcS ps a=true)(h3:a.Aq≤3)(h1:1≤a.Aq) :
  pcL a (first+a.Bc) (first+a.To) (k:Int) 0 0++pcL a (first+a.Bc) (first+a.To) (k:Int) 0 1++pcL a (first+a.Bc) (first+a.To) (k:Int) 1 0++pcL a (first+a.Bc) (first+a.To) (k:Int) 1 1=arcLs first k a:=by
 unfold arcLs transL pcL fitB;rcases qvy h h3 h1 with⟨e,e2|e2|e2⟩|e|e
 ·rw[e,e2];rfl
 ·rw[e,e2];rfl
 ·rw[e,e2];rfl
 ·rw[e];rfl
 ·rw[e];rfl
theorem qpU {a:qH}{first:Int}{k:Nat}(h:3<a.Aq):arcLs first k a=[]:=by
 unfold arcLs transL;rw[show(a.Aq==2)=false from beq_eq_false_iff_ne.2 (by omega),show(a.Aq==3)=false from beq_eq_false_iff_ne.2 (by omega),show(a.Aq != 1)=true from bne_iff_ne.2 (by omega)]
 rfl
theorem qpS {b:qd}(h:blockB b=true):Ev (fun n=>qhZ n b) (linksL b):=by
 have hd:=qar h;have hs:=qU hd;have hl:=qbc hs;have hni:=hs.ni;have hnn:=hs.nn;have hwl:=qmk h;have hd0:(⟨b.Aa.Ab,b.Aa.Ah,b.Aa.Af⟩:qe)=b.Aa:=rfl;have e1:Ev (fun n=>qdr b n ([]:List qt) 0) (instLs b b.Aa.Ab.length,(b.Aa.Ab.length:Int)):=by
  refine loopF (Lf:=qdr b) (S:=instLs b) (len:=b.Aa.Ab.length) (fun n=>?_) (fun j hj X hX=>?_)
  ·simp only[qdr,ql (je _),cond_false]
  ·obtain⟨⟨c0,c1⟩,hnl,hcb⟩:=qgW hd hj;have ha:=qjm hcb;have hpb:=(qfD (qhr hcb)).1;have hil:=qjs h (show j≤b.Aa.Ab.length by omega);have hoff:=qjW (d:=b.Aa) (i:=j);have hof:off b.Aa (j+1)≤78:=by
    rw[qgh] at hl;have:=qs7 (d:=b.Aa) (show j+1≤b.Aa.Ab.length by omega);omega
   have hcA:cellAt b (j:Int)=gt b.Ap.Am (gt b.Aa.Ab j).Bp.toNat:=rfl;simp only[qdr,qj hj,cond_true,qz hj,qd4 c0 c1,jd,wS j];have hL2:Ev (fun n=>qcH b (j:Int) (cellAt b (j:Int)) n (instLs b j) 0) (instLs b (j+1),((cellAt b (j:Int)).Ak.length:Int)):=by
    rw[show instLs b (j+1)=instLs b j++cellLs (cellAt b (j:Int)) (off b.Aa j:Int) (cellAt b (j:Int)).Ak.length from qko];rw[←hcA] at hcb hnl ha hpb;generalize cellAt b (j:Int)=c at hcb hnl ha hpb ⊢;have:=loopF (Lf:=qcH b (j:Int) c) (S:=fun k=>instLs b j++cellLs c (off b.Aa j:Int) k) (len:=c.Ak.length) (fin:=(instLs b j++cellLs c (off b.Aa j:Int) c.Ak.length,(c.Ak.length:Int))) (fun n=>by simp only[qcH,ql (je _),cond_false])
     (fun k hk X hX=>by
      obtain⟨⟨k1,k5⟩,hf,ht,hA⟩:=qiI hcb hk;have hcl:(cellLs c (off b.Aa j:Int) k).length≤4*k:=qpr fun _ _=>qpc;have es:cellLs c (off b.Aa j:Int) (k+1)=cellLs c (off b.Aa j:Int) k++arcLs (off b.Aa j:Int) k (gt c.Ak k):=qko;rw[es] at hX;simp only[qcH,qj hk,cond_true,qz hk,jd,wS k,hd0];by_cases h3:(gt c.Ak k).Aq≤3
      ·refine Ev.tt (decide_eq_true h3) ?_;have f1:=qmx h hj (k:=(gt c.Ak k).Bc.toNat) (by omega);have f2:=qmx h hj (k:=(gt c.Ak k).To.toNat) (by omega);rw[←qhh hf.1] at f1;rw[←qhh ht.1] at f2;refine Ev.bind f1 (Ev.bind f2 (Ev.bind (qzm (by rw[jh];omega) (by omega) (by omega) (by omega) (by omega)) ?_));have e3:∀ x:Int,0≤x→((off b.Aa j+x.toNat:Nat):Int)=(off b.Aa j:Int)+x:=fun x hx=>by omega
       rw[e3 _ hf.1,e3 _ ht.1,jp,jp,jp,←jp (pcL _ _ _ _ _ _),←jp (pcL _ _ _ _ _ _++_),qwu hA h3 k1,jp];exact hX
      ·refine Ev.ff (decide_eq_false h3) ?_;rw[qpU (by omega),jX] at hX;exact hX)
    simpa [cellLs,fm] using this
   exact Ev.bind hL2 hX
 have hL4:∀ (i:Nat) (t:List qt),i<b.Ac.length→t.length≤900000→Ev (fun n=>qdq (dvN b.Aa i:Int) (skL b i) n t 0) (t++wlN b i (skL b i).length,((skL b i).length:Int)):=by
  intro i t hi ht;have hsm:=qhB h (i:=i);have hdv:=(qj4 hd (k:=i) (by omega)).1;have:=loopF (Lf:=qdq (dvN b.Aa i:Int) (skL b i)) (S:=fun k=>t++wlN b i k) (len:=(skL b i).length) (fin:=(t++wlN b i (skL b i).length,((skL b i).length:Int))) (fun n=>by simp only[qdq,ql (je _),cond_false])
   (fun k hk X hX=>by
    obtain⟨y,hy,ey,_⟩:=qpt hk;have hwn:=qsW (b:=b) (i:=i) (j:=k);have p1:=fun n=>qsx (n:=n) (xs:=t++wlN b i k) (f:=(dvN b.Aa i:Int)) (t:=at0 (skL b i) k) (a:=0) (c:=0) (k:=2) (i:=(k:Int)) (by rw[jh];omega) (by omega) (by omega) (by omega) (by omega) (.inl Z) (.inl Z);have p2:=fun n=>qsx (n:=n) (xs:=t++wlN b i k++[⟨2*(dvN b.Aa i:Int)+0,2*at0 (skL b i) k+0,2,(k:Int)⟩]) (f:=(dvN b.Aa i:Int)) (t:=at0 (skL b i) k) (a:=1) (c:=1) (k:=2) (i:=(k:Int)) (by rw[jh,jh,jt];omega) (by omega) (by omega) (by omega) (by omega) (.inr Z) (.inr Z);simp only[qdq,qj hk,cond_true,qaz hk,jd,p1,p2,wS k];have es:wlN b i (k+1)=wlN b i k++wl1 (dvN b.Aa i) (at0 (skL b i) k) k:=qko;rw[es] at hX;rw[Int.add_zero,Int.add_zero,jp,jp];exact hX)
  simpa [wlN,fm] using this
 have e3:Ev (fun n=>qdB b n (instLs b b.Aa.Ab.length) 0) (linksL b,(b.Aa.Ah.length:Int)):=by
  have hil:=qjs h (je _);have:=loopF (Lf:=qdB b) (S:=fun j=>instLs b b.Aa.Ab.length++wireLs b j) (len:=b.Aa.Ah.length) (fin:=(linksL b,(b.Aa.Ah.length:Int))) (fun n=>by
    simp only[qdB,ql (je _),cond_false];rw[←hwl];rfl)
   (fun j hj X hX=>by
    have hwl2:=qol h (j:=j);obtain⟨d1,d2⟩:=qj4 hd hj;obtain⟨d3,d4⟩:=qoE.1 d2;simp only[qdB,qj hj,cond_true,wS j,hd0];refine Ev.bind (qte h d1 d3 d4) (Ev.bind (qm8 hs) (Ev.bind (hL4 j _ (by omega) (by rw[jh];omega)) ?_));rw[jp,show wireLs b j++wlN b j (skL b j).length=wireLs b (j+1) from qko.symm];exact hX)
  simpa [wireLs,fm] using this
 unfold qhZ;exact Ev.bind e1 (Ev.bind e3 .done)
def lvB (br:List Int)(m:Nat):List Bool:=pre (fun k=>!br.any fun y=>y==(k:Int)) m
theorem qvf {br:List Int}{m:Nat}:(lvB br m).length=m:=qjE
theorem qvH {br:List Int}{x:Int}(hl:br.length≤1048576):Ev (fun n=>qlm n br x) (br.any fun y=>y==x):=by
 have hL:Ev (fun n=>qeV br x n 0) (bif br.any (fun y=>y==x) then .ret true else .nxt (br.length:Int)):=by
  have:=qfG (Lf:=qeV br x) (len:=br.length) (f:=fun j=>!(gt br j==x)) (bad:=true) (fin:=.nxt (br.length:Int)) (Ev.succ (by simp only[qeV,ql (je _),cond_false];exact .done))
   (fun j hj X hX=>Ev.succ (by
    simp only[qeV,qj hj,cond_true,qz hj,jd,wS j];cases gt br j==x
    ·exact hX
    ·exact .done))
  rw[quH];refine this.cast ?_;cases allN (fun j=>!(gt br j==x)) br.length<;>rfl
 unfold qlm;refine Ev.bind hL ?_;cases br.any (fun y=>y==x)<;>exact .done
theorem qus {ls:List qt}{br:List Int}(h1:ls.length≤10000)(h2:br.length≤1048576):Ev (fun n=>qkp n ls br) (lvB br ls.length):=by
 have hL:Ev (fun n=>qdY ls br n ([]:List Bool) 0) (lvB br ls.length,(ls.length:Int)):=by
  refine loopF (Lf:=qdY ls br) (S:=fun j=>lvB br j) (len:=ls.length) (fun n=>?_) (fun j hj X hX=>?_)
  ·simp only[qdY,ql (je _),cond_false]
  ·simp only[qdY,qj hj,cond_true,wS j];refine Ev.bind (qvH h2) ?_;have e:appS (lvB br j) [!br.any fun y=>y==(j:Int)]=V (lvB br (j+1)):=qoT (f:=fun k:Nat=>!br.any fun y=>y==(k:Int)) (by omega);rw[e];exact hX
 unfold qkp;exact Ev.bind hL .done
def brB (br:List Int)(m:Nat):Bool:=(br.all fun x=>inI x 0 ((m:Int)-1))&&incB br
theorem qu3 {v:Tview}{br:List Int}(h1:v.links.length≤10000)(hb:brB br v.links.length=true):Ev (fun n=>qg4 n (V v) br) (V ⟨V v,lvB br v.links.length⟩):=by
 unfold brB at hb;rw[jf,qiZ,qaF] at hb;have hm:mkS (v.links.length:Int) false=V (pre (fun _=>false) v.links.length):=qpy (by omega);generalize hM:v.links.length=M at h1 hb hm ⊢;have hinc:∀ j i,i<j→j<br.length→gt br i<gt br j:=by
  intro j
  induction j with
  | zero=>intro i hi _;omega
  | succ j ih=>
   intro i hi hj;have hs:=hb.2;unfold incB at hs;rw[qaF] at hs;have hs:=hs (j+1) hj;unfold stepB at hs;simp only[Bool.or_eq_true,decide_eq_true_eq,Nat.add_sub_cancel] at hs;have hs':gt br j<gt br (j+1):=by
    rcases hs with hs|hs
    ·omega
    ·exact hs
   by_cases hij:i=j
   ·rw[hij];exact hs'
   ·have:=ih i (by omega) (by omega);omega
 have hlen:∀ j,j<br.length→(j:Int)≤gt br j:=by
  intro j
  induction j with
  | zero=>
   intro hj;have:=hb.1 0 hj;rw[qbA] at this;omega
  | succ j ih=>
   intro hj;have:=ih (by omega);have:=hinc (j+1) j (by omega) hj;omega
 have hbl:br.length≤M:=by
  by_cases h0:br.length=0
  ·omega
  ·have h2:=hlen (br.length-1) (by omega);have h3:=hb.1 (br.length-1) (by omega);rw[qbA] at h3;omega
 have e1:Ev (fun n=>qb7 (pre (fun _=>false) M) n (pre (fun _=>false) M) 0) (pre (fun _=>true) M,(M:Int)):=by
  have:=loopF (Lf:=qb7 (pre (fun _=>false) M)) (S:=fun j=>pre (fun k=>decide (k<j)) M) (len:=M) (fin:=(pre (fun _=>true) M,(M:Int))) (fun n=>by
    simp only[qb7,qjE,ql (je _),cond_false];rw[qe6 (g:=fun _=>true) fun k hk=>decide_eq_true hk])
   (fun j hj X hX=>by
    simp only[qb7,qjE,qj hj,cond_true,qiO (f:=fun k=>decide (k<j)) hj,jd,qnz,wS j];have:pre (fun k=>decide (k<j+1)) M=pre (fun k=>if k=j then true else decide (k<j)) M:=qe6 fun k _=>by
     by_cases hk:k=j
     ·rw[if_pos hk,hk];simp
     ·rw[if_neg hk,decide_eq_decide];omega
    rw[this] at hX;exact hX)
  simpa using this
 have e2:Ev (fun n=>qb6 br n (pre (fun _=>true) M) 0) (lvB br M,(br.length:Int)):=by
  have:=loopF (Lf:=qb6 br) (S:=fun j=>pre (fun k=>!(br.take j).any fun y=>y==(k:Int)) M) (len:=br.length) (fin:=(lvB br M,(br.length:Int))) (fun n=>by
    simp only[qb6,ql (je _),cond_false,jH];rfl)
   (fun j hj X hX=>by
    have hr:=hb.1 j hj;rw[qbA] at hr;obtain⟨a,ha⟩:∃ a:Nat,gt br j=(a:Int):=⟨_,qhh hr.1⟩;have haM:a<M:=by omega
    simp only[qb6,qj hj,cond_true,qz hj,ha,qiO (f:=fun k=>!(br.take j).any fun y=>y==(k:Int)) haM,jd,qnz,wS j];have:pre (fun k=>!(br.take (j+1)).any fun y=>y==(k:Int)) M=pre (fun k=>if k=a then false else !(br.take j).any fun y=>y==(k:Int)) M:=qe6 fun k _=>by
     rw[jy hj,List.any_append,←qdW hj,ha];by_cases hk:k=a
     ·rw[if_pos hk,hk];simp
     ·rw[if_neg hk];have:((a:Int)==(k:Int))=false:=by simp;omega
      simp[this]
    rw[this] at hX;exact hX)
  simpa using this
 unfold qg4;simp only[jd,hM,hm];exact Ev.bind e1 (Ev.bind e2 .done)
theorem qwj {br:List Int}{m:Nat}(hl:br.length≤1048576)(hm:m≤10000):Ev (fun n=>qi1 n br (m:Int)) (brB br m):=by
 have hL:Ev (fun n=>qcn br (m:Int) n 0) (bif allN (fun j=>inI (gt br j) 0 ((m:Int)-1)&&stepB br j) br.length then .nxt (br.length:Int) else .ret false):=by
  refine qfG (Lf:=qcn br (m:Int)) (len:=br.length) (Ev.succ (by simp only[qcn,ql (je _),cond_false];exact .done)) (fun j hj X hX=>Ev.succ ?_);simp only[qcn,qj hj,cond_true,qz hj,jd,qdk,wS j,wO ((m:Int)-1)];cases h1:inI (gt br j) 0 ((m:Int)-1)
  ·exact .done
  ·refine Ev.ff Z ?_;by_cases h0:j=0
   ·subst h0;exact Ev.ff Z hX
   ·refine Ev.tt (decide_eq_true (by omega)) ?_;rw[show(j:Int)-1=((j-1:Nat):Int) by omega,qI (by omega) (by omega),qz (show j-1<br.length by omega)];simp only[jd];have es:stepB br j=decide (gt br (j-1)<gt br j):=by
     unfold stepB;rw[decide_eq_false h0,Bool.false_or]
     rfl
    rw[es];by_cases hlt:gt br (j-1)<gt br j
    ·rw[decide_eq_true hlt];exact Ev.ff (decide_eq_false (by omega)) hX
    ·rw[decide_eq_false hlt];exact Ev.tt (decide_eq_true (by omega)) .done
 unfold qi1;refine Ev.bind hL ?_;unfold brB incB;rw[qiZ,←qmc];cases allN (fun j=>inI (gt br j) 0 ((m:Int)-1)&&stepB br j) br.length<;>exact .done
theorem qt0 {v:Tview}{br:List Int}(hl:br.length≤1048576)(hm:v.links.length≤10000):Ev (fun n=>qeR n (V v) br) (brB br v.links.length):=by
 unfold qeR qgX brB;simp only[jd,wO ((v.links.length:Int)-1)];exact Ev.and (qgv hl) fun _=>Ev.last (qmM hl)
theorem quG {b:qd}{br:List Int}(hok:qla b)(h:blockB b=true)(hl:br.length≤1048576):Ev (fun n=>qiR n b br) (bif brB br (linksL b).length then 0 else 2):=by
 unfold qiR;refine Ev.bind (qpQ hok) (Ev.ff (by rw[h];rfl) (Ev.bind (qpS h) (Ev.bind (qwj hl (qoa h)) ?_)));cases brB br (linksL b).length<;>exact .done
end Go.Fw


namespace Go.Fw
open Go
set_option maxRecDepth 100000
theorem qsy {α:Type}{f:Nat→List α}{n:Nat}{x:α}(h:x ∈ fm f n):∃ j,j<n∧x ∈ f j:=by
 unfold fm at h;obtain⟨j,h1,h2⟩:=List.mem_flatMap.1 h;exact⟨j,List.mem_range.1 h1,h2⟩
theorem qvm {x:Int}{j:Nat}{t:Int}(ht:b01 t)(hj:j≤100000)(e:x=2*(j:Int)+t):W64 (x.tdiv 2)=(j:Int)∧x.tmod 2=t:=by
 have ht':0≤t∧t≤1:=by rcases ht with e|e<;>omega
 have hx:0≤x:=by omega
 rw[jJ hx,Int.tmod_eq_emod_of_nonneg hx,qI (by omega) (by omega)];omega
structure CLk (b:qd)(x:qt)(i j m net a:Nat):Prop where
 kind:x.Aq=1
 il:i<b.Aa.Ab.length
 jl:j<(places b.Aa).length
 inst:(gt (places b.Aa) j).instance_=(i:Int)
 net_:(gt (places b.Aa) j).net=(net:Int)
 nl:net<b.Ac.length
 half:W64 (x.To.tdiv 2)=(j:Int)
 mod:x.To.tmod 2=(m:Int)
 ml:m<2
 ix:x.Bw=(a:Int)
 al:a<(cellAt b (i:Int)).Ak.length
 d2:(gt (cellAt b (i:Int)).Ak a).Bk.length=2
 s2:(gt (cellAt b (i:Int)).Ak a).Ba.length=2
 dt:∀ t,t ∈ (gt (cellAt b (i:Int)).Ak a).Bk→TbOk t∧∀ k,0≤at0 t.Az k
 st:∀ t,t ∈ (gt (cellAt b (i:Int)).Ak a).Ba→TbOk t∧∀ k,0≤at0 t.Az k
structure WLk (b:qd)(x:qt)(j net k:Nat):Prop where
 kind:x.Aq=2
 jl:j<(places b.Aa).length
 net_:(gt (places b.Aa) j).net=(net:Int)
 nl:net<b.Ac.length
 half:W64 (x.To.tdiv 2)=(j:Int)
 ix:x.Bw=(k:Int)
 kl:k<(gt b.Ac net).Bi.length
theorem qzJ {xs:List Int}(h:0≤mnL xs)(k:Nat):0≤at0 xs k:=by
 have fold:∀ (ys:List Int) (a:Int),(ys.foldl (fun(m y:Int)=>if y<m then y else m) a≤a)∧∀ y,y ∈ ys→ys.foldl (fun(m y:Int)=>if y<m then y else m) a≤y:=by
  intro ys
  induction ys with
  | nil=>intro a;exact⟨jY _,fun y hy=>by cases hy⟩
  | cons z ys ih=>
   intro a;rw[List.foldl_cons];obtain⟨h1,h2⟩:=ih (if z<a then z else a);refine⟨?_,fun y hy=>?_⟩
   ·split at h1<;>split<;>omega
   ·rcases List.mem_cons.1 hy with e|e
    ·subst e;split at h1<;>split<;>omega
    ·exact h2 y e
 by_cases hk:k<xs.length
 ·have hm:xs[k] ∈ xs.drop 1∨k=0:=by
   by_cases h0:k=0
   ·exact .inr h0
   ·refine .inl ?_;have:xs[k]=(xs.drop 1)[k-1]'(by rw[List.length_drop];omega):=by
     rw[List.getElem_drop]
     congr 1;omega
    rw[this];exact jo _
  rw[qna hk];unfold mnL at h;rcases hm with hm|h0
  ·exact Int.le_trans h ((fold _ _).2 _ hm)
  ·subst h0;have:=(fold (xs.drop 1) (at0 xs 0)).1;rw[←qna hk];exact Int.le_trans h this
 ·rw[qvi hk];exact jY _
theorem qq8 {ts:List qu}(h:tablesB ts true=true):ts.length=2∧∀ t,t ∈ ts→TbOk t∧∀ k,0≤at0 t.Az k:=by
 unfold tablesB at h;rw[jf,decide_eq_true_eq,jN] at h;refine⟨h.1,fun t ht=>?_⟩;have:=h.2 t ht;unfold tabB at this;simp only[jW,Bool.false_or,jf,decide_eq_true_eq] at this;exact⟨qv3 this.1,qzJ this.2⟩
theorem quy {ps:List qam}{a:qH}(h:arcS ps a=true)(h3:a.Aq≤3)(h1:1≤a.Aq):a.To=(ps.length:Int)-1∧tablesB a.Bk true=true∧tablesB a.Ba true=true:=by
 unfold arcS at h;rcases (by omega:a.Aq=1∨a.Aq=2∨a.Aq=3) with e|e|e
 ·rw[e] at h;simp only[beq_self_eq_true,cond_true,jf,beq_iff_eq] at h;exact⟨h.2.2.1,h.2.2.2.2⟩
 ·rw[e] at h;simp only[show((2:Int)==1)=false from rfl,cond_false,beq_self_eq_true,Bool.true_or,cond_true,jf,beq_iff_eq] at h;exact⟨h.2.2.1,h.2.2.2.2⟩
 ·rw[e] at h;simp only[show((3:Int)==1)=false from rfl,cond_false,beq_self_eq_true,Bool.or_true,cond_true,jf,beq_iff_eq] at h;exact⟨h.2.2.1,h.2.2.2.2⟩
theorem qt6 {a:qH}{t:qV}(h:t ∈ transL a):1≤a.Aq∧a.Aq≤3:=by
 refine⟨?_,?_⟩<;>refine Int.le_of_not_gt fun hg=>?_
 ·have:arcLs 0 0 a=[]:=by
   unfold arcLs transL;rw[show(a.Aq==2)=false from beq_eq_false_iff_ne.2 (by omega),show(a.Aq==3)=false from beq_eq_false_iff_ne.2 (by omega),show(a.Aq != 1)=true from bne_iff_ne.2 (by omega)]
   rfl
  unfold arcLs at this;rw[List.map_eq_nil_iff] at this;rw[this] at h;cases h
 ·have:arcLs 0 0 a=[]:=qpU hg;unfold arcLs at this;rw[List.map_eq_nil_iff] at this;rw[this] at h;cases h
theorem qhm {b:qd}(h:blockB b=true){x:qt}(hx:x ∈ linksL b):((∃ i j m net a,CLk b x i j m net a)∨∃ j net k,WLk b x j net k)∧(0≤x.Bc∧x.Bc<2*((places b.Aa).length:Int))∧(0≤x.To∧x.To<2*((places b.Aa).length:Int)):=by
 have hd:=qar h;have hs:=qU hd;have hl:=qbc hs;have hwl:=qmk h;unfold linksL at hx;rcases List.mem_append.1 hx with hx|hx
 ·obtain⟨i,hi,hx⟩:=qsy hx;obtain⟨a,ha,hx⟩:=qsy hx;unfold arcLs at hx;obtain⟨t,ht,rfl⟩:=List.mem_map.1 hx;obtain⟨⟨c0,c1⟩,hnl,hcb⟩:=qgW hd hi;have hcA:cellAt b (i:Int)=gt b.Ap.Am (gt b.Aa.Ab i).Bp.toNat:=rfl;rw[←hcA] at hnl hcb;obtain⟨⟨k1,k5⟩,hf,hto,hA⟩:=qiI hcb ha;obtain⟨g1,g3⟩:=qt6 ht;obtain⟨t0,t1⟩:=qsc ht;obtain⟨eT,tD,tS⟩:=quy hA g3 g1;obtain⟨d2,dt⟩:=qq8 tD;obtain⟨s2,st⟩:=qq8 tS;have hpb:=(qfD (qhr hcb)).1;have hk:(cellAt b (i:Int)).As.length-1<(gt b.Aa.Ab i).Ah.length:=by omega
  obtain⟨hj,ej⟩:=qiH hi hk;obtain⟨n0,n1⟩:=qmr hd hj;have e1:(al1 (off b.Aa i:Int) a (gt (cellAt b (i:Int)).Ak a) t).To=2*((off b.Aa i+((cellAt b (i:Int)).As.length-1):Nat):Int)+t.e1:=by
   show 2*((off b.Aa i:Int)+(gt (cellAt b (i:Int)).Ak a).To)+t.e1=_;rw[eT];omega
  obtain⟨hh,hm⟩:=qvm t1 (by omega) e1;obtain⟨m,em⟩:∃ m:Nat,t.e1=(m:Int):=⟨t.e1.toNat,by rcases t1 with e|e<;>omega⟩;have hfr:off b.Aa i+(gt (cellAt b (i:Int)).Ak a).Bc.toNat<(places b.Aa).length:=(qiH hi (k:=(gt (cellAt b (i:Int)).Ak a).Bc.toNat) (by omega)).1;have e2:(al1 (off b.Aa i:Int) a (gt (cellAt b (i:Int)).Ak a) t).Bc=2*((off b.Aa i:Int)+(gt (cellAt b (i:Int)).Ak a).Bc)+t.e0:=rfl;refine⟨.inl ⟨i,_,m,(gt (places b.Aa) (off b.Aa i+((cellAt b (i:Int)).As.length-1))).net.toNat,a,⟨rfl,hi,hj,by rw[ej];rfl,qhh n0,by omega,hh,by rw[hm,em],by rcases t1 with e|e<;>omega,rfl,ha,d2,s2,dt,st⟩⟩,?_,?_⟩
  ·rw[e2];rcases t0 with e|e<;>rw[e]<;>omega
  ·rw[e1];rcases t1 with e|e<;>rw[e]<;>omega
 ·obtain⟨i,hi,hx⟩:=qsy hx;obtain⟨k,hk,hx⟩:=qsy hx;obtain⟨y,hy,ey,hq⟩:=qpt hk;have hdv:=(qj4 hd (k:=i) (by omega)).1;have hw:=qbE h hi;have hq':(gt (places b.Aa) y).net=(i:Int):=by
   unfold snkQ at hq;simp only[jf,beq_iff_eq] at hq;exact hq.1
  have main:∀ t:Int,b01 t→x=⟨2*(dvN b.Aa i:Int)+t,2*at0 (skL b i) k+t,2,(k:Int)⟩→((∃ i j m net a,CLk b x i j m net a)∨∃ j net k,WLk b x j net k)∧(0≤x.Bc∧x.Bc<2*((places b.Aa).length:Int))∧(0≤x.To∧x.To<2*((places b.Aa).length:Int)):=by
   intro t ht e;have e1:x.To=2*(y:Int)+t:=by rw[e,ey]
   have e2:x.Bc=2*(dvN b.Aa i:Int)+t:=by rw[e]
   obtain⟨hh,hm⟩:=qvm ht (by omega) e1;refine⟨.inr ⟨y,i,k,⟨by rw[e],hy,hq',hi,hh,by rw[e],by rw[hw.snk];exact hk⟩⟩,?_,?_⟩
   ·rw[e2];rcases ht with e|e<;>rw[e]<;>omega
   ·rw[e1];rcases ht with e|e<;>rw[e]<;>omega
  unfold wl1 at hx;simp only[Jb,jO,or_false] at hx;rcases hx with hx|hx
  ·exact main 0 (.inl Z) (by rw[hx,Int.add_zero,Int.add_zero])
  ·exact main 1 (.inr Z) hx
theorem qlM {α:Type}[Inhabited α]{xs:List α}{k:Nat}(h:k<xs.length):gt xs k ∈ xs:=by rw[qdW h];exact jo h
theorem qnD {b:qd}(h:blockB b=true):LkOk (linksL b) (2*(places b.Aa).length) where
 len:=qoa h
 nodes:=by have:=qbc (qU (qar h));omega
 fr0:=fun x hx=>(qhm h (qlM hx)).2.1.1
 fr1:=fun x hx=>by have:=(qhm h (qlM hx)).2.1.2;omega
 to0:=fun x hx=>(qhm h (qlM hx)).2.2.1
 to1:=fun x hx=>by have:=(qhm h (qlM hx)).2.2.2;omega
theorem qr7 {c:qy}(h:cornerB c=true){kind mode:Int}:∃ f:Int,100≤f∧f≤5000∧(∀ n,qhj n c kind mode=V f)∧∀ n,qeT n c kind mode=V f:=by
 unfold cornerB at h;simp only[jf,qbA,decide_eq_true_eq] at h;obtain⟨⟨h1,h2,h3,h4⟩,_⟩:=h;unfold qhj qeT;cases kind==1
 ·cases mode==0
  ·exact⟨_,h4.1,h4.2,fun _=>rfl,fun _=>rfl⟩
  ·exact⟨_,h3.1,h3.2,fun _=>rfl,fun _=>rfl⟩
 ·cases mode==0
  ·exact⟨_,h2.1,h2.2,fun _=>rfl,fun _=>rfl⟩
  ·exact⟨_,h1.1,h1.2,fun _=>rfl,fun _=>rfl⟩
theorem qt7 {p f mode:Int}(p0:0≤p)(p1:p≤400000000000)(f0:0≤f)(f1:f≤5000):(∀ n,qcE n (W64 (p*f)) 1000 mode=V (divI (p*f) 1000 mode))∧∀ n,qk6 n p f mode=V (divI (p*f) 1000 mode):=by
 have h0:=jU p0 f0;have h1:p*f≤400000000000*5000:=Jd p1 f1 f0 (by omega);have e:W64 (p*f)=p*f:=qI (by omega) (by omega);have hd:=fun n=>qkR (n:=n) (a:=p*f) (b:=1000) (mode:=mode) (by omega) (by omega) (by omega);refine⟨fun n=>by rw[e];exact hd n,fun n=>?_⟩;unfold qk6;rw[e,qsX (m:=0),hd 0]
 rfl
theorem qw5 {l h H:Int}(h0:0≤l)(h1:l<h)(h2:h≤H)(hH:H≤3000000000):W64 (W64 (W64 (l+h)+1) |>.tdiv 2)=(l+h+1) / 2∧W64 ((l+h+1) / 2*((l+h+1) / 2))=(l+h+1) / 2*((l+h+1) / 2)∧W64 ((l+h+1) / 2-1)=(l+h+1) / 2-1:=by
 have hm:0≤(l+h+1) / 2∧(l+h+1) / 2≤3000000000:=by omega
 have hq:(l+h+1) / 2*((l+h+1) / 2)≤3000000000*3000000000:=Jd hm.2 hm.2 hm.1 (by omega);have hq0:=jU hm.1 hm.1;rw[wO (l+h),wO (l+h+1),jJ (by omega),wO ((l+h+1) / 2),wO ((l+h+1) / 2-1)];exact⟨rfl,qI (by omega) (by omega),rfl⟩
theorem qwY {y mode:Int}(h0:0≤y)(h1:y≤4000000000000000000):∃ v,IsRoot y v∧v≤2000000000∧Ev (fun n=>qi8 n y mode) (if mode=1∧v*v<y then v+1 else v):=by
 obtain⟨v,r1,r2,r3⟩:=qsl (Lf:=fun n l h=>qd9 y n l h) (fin:=fun l=>(l,l)) (x:=y) (H:=2000000000) h0 (by omega) (by omega)
  (fun n l _ _=>by simp only[qd9,show decide (l<l)=false from decide_eq_false (Int.lt_irrefl l),cond_false])
  (fun n l h hl hlt hh=>by
   obtain⟨e1,e2,e3⟩:=qw5 hl hlt hh (by omega);simp only[qd9,decide_eq_true hlt,cond_true,e1,e2,e3])
 refine⟨v,r1,r2,?_⟩;unfold qi8;refine Ev.bind r3 ?_;have hv:=r1.pos;have hq:v*v≤2000000000*2000000000:=Jd r2 r2 hv (by omega);have hq0:=jU hv hv;simp only[wO (v*v),wO (v+1)];by_cases hm:mode=1
 ·refine Ev.tt (by simpa using hm) ?_;by_cases hl:v*v<y
  ·rw[if_pos ⟨hm,hl⟩];exact Ev.tt (decide_eq_true hl) .done
  ·rw[if_neg fun h=>hl h.2];exact Ev.ff (decide_eq_false hl) .done
 ·rw[if_neg fun h=>hm h.1];exact Ev.ff (by simpa using hm) .done
theorem qwL {y:Int}(h0:0≤y)(h1:y≤4000000000000000000):∃ v,IsRoot y v∧v≤3000000000∧Ev (fun n=>qnL n y) v:=by
 obtain⟨v,r1,r2,r3⟩:=qsl (Lf:=fun n l h=>qgo y n l h) (fin:=fun l=>(l,l)) (x:=y) (H:=3000000000) h0 (by omega) (by omega)
  (fun n l _ _=>by simp only[qgo,show decide (l<l)=false from decide_eq_false (Int.lt_irrefl l),cond_false])
  (fun n l h hl hlt hh=>by
   obtain⟨e1,e2,e3⟩:=qw5 hl hlt hh (by omega);simp only[qgo,decide_eq_true hlt,cond_true,e1,e2,e3])
 refine⟨v,r1,r2,?_⟩;unfold qnL;exact Ev.bind r3 .done
theorem qwd {sl d mode:Int}(s0:0≤sl)(s1:sl≤1000000)(d0:0≤d)(d1:d≤344000000)(hm:mode=0∨mode=1):∃ r:Int,0≤r ∧
  Ev (fun n=>(qi8 n (W64 (W64 (W64 (1000000*sl)*sl)+W64 (W64 (4*d)*d))) mode).bind fun r2=>(qcE n r2 1000 mode).bind fun r3=>V r3) r∧Ev (fun n=>qjJ n sl d mode) r:=by
 have q1:=jU s0 s0;have q2:sl*sl≤1000000*1000000:=Jd s1 s1 s0 (by omega);have q3:=jU d0 d0;have q4:d*d≤344000000*344000000:=Jd d1 d1 d0 (by omega);have e1:W64 (W64 (W64 (1000000*sl)*sl)+W64 (W64 (4*d)*d))=4*(250000*(sl*sl)+d*d):=by
  rw[wO (1000000*sl),wO (4*d),Ja 1000000,Ja 4,wO (1000000*(sl*sl)),wO (4*(d*d)),qI (by omega) (by omega)];omega
 have e2:W64 (W64 (W64 (W64 (500*sl)*500)*sl)+W64 (d*d))=250000*(sl*sl)+d*d:=by
  rw[wO (500*sl),wO (500*sl*500),show 500*sl*500*sl=250000*(sl*sl) by rw[←Ja];congr 1;omega,wO (250000*(sl*sl)),wO (d*d),qI (by omega) (by omega)]
 obtain⟨v,v1,v2,v3⟩:=qwY (mode:=mode) (y:=4*(250000*(sl*sl)+d*d)) (by omega) (by omega);obtain⟨w,w1,w2,w3⟩:=qwL (y:=250000*(sl*sl)+d*d) (by omega) (by omega);have hr:=qu8 w1 v1 hm;have hv:=v1.pos;have hw:=w1.pos;have hv1:0≤(if mode=1∧v*v<4*(250000*(sl*sl)+d*d) then v+1 else v)∧(if mode=1∧v*v<4*(250000*(sl*sl)+d*d) then v+1 else v)≤1000*3000000:=by split<;>omega
 refine⟨_,(qsZ (b:=1000) (mode:=mode) (M:=3000000) (by omega) hv1.1 hv1.2).1,?_,?_⟩
 ·rw[e1];exact Ev.bind v3 (Ev.bind ⟨0,fun n _=>qkR (by omega) (by omega) (by omega)⟩ .done)
 ·rw[hr];unfold qjJ;rw[e2];refine Ev.bind w3 ?_;have hq:w*w≤3000000000*3000000000:=Jd w2 w2 hw (by omega);have hq0:=jU hw hw;have ed:(fun n=>qfn n w 500 mode)=fun _=>V (divI w 500 mode):=by
   funext n
   rw[qsX (m:=0),qkR (by omega) (by omega) (by omega)]
  have hdv:=congrFun ed;simp only[wO (w*w),jJ hw,wO (w / 500),wO (w / 500+1),hdv,jd];rcases hm with rfl|rfl
  ·rw[if_neg (by omega)];exact .done
  ·by_cases hl:w*w<250000*(sl*sl)+d*d
   ·rw[if_pos ⟨rfl,hl⟩,decide_eq_true hl];exact .done
   ·rw[if_neg fun h=>hl h.2,decide_eq_false hl];exact .done
theorem qtU {t:qu}(h:TbOk t∧∀ k,0≤at0 t.Az k)(sl ld mode:Int):∃ r:Int,0≤r∧r≤1000000∧Ev (fun n=>qhI n t sl ld mode) r∧Ev (fun n=>qdX n t sl ld mode) r:=by
 obtain⟨S,D,D0,S1,_,_,_,S0,hev⟩:=qyd h.1 sl ld;obtain⟨r0,r1⟩:=qsZ (mode:=mode) D0 (S0 h.2) S1;exact⟨_,r0,r1,hev mode⟩
theorem qu7 {b:qd}{ex:List Int}{x:qt}{j net:Nat}(jl:j<(places b.Aa).length)(hn:(gt (places b.Aa) j).net=(net:Int))(hh:W64 (x.To.tdiv 2)=(j:Int))(n:Nat):qfa n (V (viewE b ex)) x=V (net:Int):=by
 unfold qfa;show(idx (places b.Aa) (W64 (x.To.tdiv 2))).bind _=_;rw[hh,qz jl];exact congrArg V hn
theorem qw1 {b:qd}{ex:List Int}(h:blockB b=true){x:qt}{i j m net a:Nat}(hx:CLk b x i j m net a)(n:Nat):qgO n (V (viewE b ex)) x=V (gt (cellAt b (i:Int)).Ak a):=by
 obtain⟨⟨c0,c1⟩,_,_⟩:=qgW (qar h) hx.il;unfold qgO;show(idx (places b.Aa) (W64 (x.To.tdiv 2))).bind (fun y2=>(idx b.Aa.Ab y2.instance_).bind fun y3=>(idx b.Ap.Am y3.Bp).bind fun y4=>(idx y4.Ak x.Bw).bind fun y5=>V y5)=_;rw[hx.half,qz hx.jl,jd,hx.inst,qz hx.il,jd,qd4 c0 c1,jd,hx.ix];show(idx (cellAt b (i:Int)).Ak (a:Int)).bind _=_;rw[qz hx.al];rfl
theorem qrU {b:qd}(h:blockB b=true){x:qt}{i j m net a:Nat}(hx:CLk b x i j m net a):Ev (fun n=>qjV n b x) (gt (cellAt b (i:Int)).Ak a,load0 b net):=by
 have hd:=qar h;have hs:=qU hd;obtain⟨⟨c0,c1⟩,_,_⟩:=qgW hd hx.il;have hp:idx ((places b.Aa).map toSp) (j:Int)=V (toSp (gt (places b.Aa) j)):=by
  refine qas ?_;rw[Jc,ji hx.jl,qdW hx.jl];rfl
 have hll:=qml h hx.nl;have hlo:=(qbE h hx.nl).lo;have h1:(toSp (gt (places b.Aa) j)).instance_=(i:Int):=hx.inst;have h2:(toSp (gt (places b.Aa) j)).net=(net:Int):=hx.net_;have h3:idx (gt b.Ap.Am (gt b.Aa.Ab i).Bp.toNat).Ak (a:Int)=V (gt (cellAt b (i:Int)).Ak a):=qz hx.al;unfold qjV;refine Ev.bind (qgt hs) ?_;simp only[hx.half,hp,jd,h1,h2,qz hx.il,qd4 c0 c1,hx.ix,h3];refine Ev.bind (qpO h hx.nl) ?_;rw[show idx (loadsL b net) (0:Int)=V (load0 b net) from qz (j:=0) (by omega)];exact .done
theorem qsh {b:qd}(h:blockB b=true){x:qt}{j net k:Nat}(hx:WLk b x j net k):Ev (fun n=>qj6 n b x) (net:Int):=by
 have hs:=qU (qar h);have hp:idx ((places b.Aa).map toSp) (j:Int)=V (toSp (gt (places b.Aa) j)):=by
  refine qas ?_;rw[Jc,ji hx.jl,qdW hx.jl];rfl
 have h2:(toSp (gt (places b.Aa) j)).net=(net:Int):=hx.net_;unfold qj6;refine Ev.bind (qgt hs) ?_;simp only[hx.half,hp,jd,h2];exact .done
theorem qsB {b:qd}{c:qy}(ex:List Int)(h:blockB b=true)(hc:cornerB c=true){k:Nat}(hk:k<(linksL b).length){sl mode:Int}(s0:0≤sl)(s1:sl≤1000000)(hm:mode=0∨mode=1) :
  (∃ D:Int,Ev (fun n=>qca n b c (gt (linksL b) k) sl mode) D∧Ev (fun n=>qbo n (V (viewE b ex)) c (k:Int) sl mode) D) ∧
  ∃ S:Int,0≤S∧S≤1000000∧Ev (fun n=>qeg n b (gt (linksL b) k) sl mode) S∧Ev (fun n=>qbq n (V (viewE b ex)) (k:Int) sl mode) S:=by
 have hv:idx (viewE b ex).links (k:Int)=V (gt (linksL b) k):=qz hk;obtain⟨hx,_⟩:=qhm h (qlM hk);generalize gt (linksL b) k=x at hx hv;rcases hx with⟨i,j,m,net,a,hx⟩|⟨j,net,q,hx⟩
 ·have hnet:=qu7 (ex:=ex) hx.jl hx.net_ hx.half;have harc:=qw1 (ex:=ex) h hx;have hld:idx (viewE b ex).loads (net:Int)=V (load0 b net):=qiO (f:=load0 b) hx.nl;obtain⟨f,f0,f1,sF,iF⟩:=qr7 hc (kind:=x.Aq) (mode:=mode);have dl:m<(gt (cellAt b (i:Int)).Ak a).Bk.length:=by rw[hx.d2];exact hx.ml
  have sL:m<(gt (cellAt b (i:Int)).Ak a).Ba.length:=by rw[hx.s2];exact hx.ml
  obtain⟨r,r0,r1,rs,ri⟩:=qtU (hx.dt _ (qlM dl)) sl (load0 b net) mode;obtain⟨u,u0,u1,us,ui⟩:=qtU (hx.st _ (qlM sL)) sl (load0 b net) mode;obtain⟨c1,c2⟩:=qt7 (mode:=mode) r0 (by omega) (show 0≤f by omega) f1;have hk1:(x.Aq==1)=true:=by rw[hx.kind];rfl
  refine⟨⟨divI (r*f) 1000 mode,?_,?_⟩,⟨u,u0,u1,?_,?_⟩⟩
  ·unfold qca;refine Ev.tt hk1 (Ev.bind (qrU h hx) ?_);simp only[hx.mod,qz dl,jd,sF];exact Ev.bind rs (Ev.bind ⟨0,fun n _=>c1 n⟩ .done)
  ·unfold qbo;simp only[jd,hv,hnet,hld,harc,hx.mod,qz dl,iF];exact Ev.tt hk1 (Ev.bind ri (Ev.bind ⟨0,fun n _=>c2 n⟩ .done))
  ·unfold qeg;refine Ev.tt hk1 (Ev.bind (qrU h hx) ?_);simp only[hx.mod,qz sL,jd];exact Ev.bind us .done
  ·unfold qbq;simp only[jd,hv,hnet,hld,harc,hx.mod,qz sL];refine Ev.tt hk1 (Ev.bind ui (Ev.now ?_));rw[if_neg (by omega)]
 ·have hnet:=qu7 (ex:=ex) hx.jl hx.net_ hx.half;have hde:idx (viewE b ex).delays (net:Int)=V (exactL b net):=qiO (f:=exactL b) hx.nl;have hel:(exactL b net).length=(gt b.Ac net).Bi.length:=by unfold exactL;rw[ju]
  have hq:q<(exactL b net).length:=by rw[hel];exact hx.kl
  obtain⟨x0,x1⟩:=qqS h hx.nl hx.kl;obtain⟨f,f0,f1,sF,iF⟩:=qr7 hc (kind:=x.Aq) (mode:=mode);have dd:=fun n=>qkR (n:=n) (a:=gt (exactL b net) q) (b:=1000) (mode:=mode) (by omega) (by omega) (by omega);obtain⟨p0,p1⟩:=qsZ (a:=gt (exactL b net) q) (b:=1000) (mode:=mode) (M:=344000) (by omega) x0 (by omega);obtain⟨c1,c2⟩:=qt7 (mode:=mode) p0 (by omega) (show 0≤f by omega) f1;have hk1:(x.Aq==1)=false:=by rw[hx.kind];rfl
  have hi:idx ((exactL b net).map fun x=>divI x 1000 mode) (q:Int)=V (divI (gt (exactL b net) q) 1000 mode):=by
   rw[qz (by rw[ju];exact hq),qpj hq]
  obtain⟨u,u0,us,ui⟩:=qwd s0 s1 x0 x1 hm;refine⟨⟨divI (divI (gt (exactL b net) q) 1000 mode*f) 1000 mode,?_,?_⟩,⟨if u<1000000 then u else 1000000,by split<;>omega,by split<;>omega,?_,?_⟩⟩
  ·unfold qca;refine Ev.ff hk1 (Ev.bind (qsh h hx) (Ev.bind (qpB h hx.nl) ?_));simp only[hx.ix,hi,jd,sF];exact Ev.bind ⟨0,fun n _=>c1 n⟩ .done
  ·unfold qbo;simp only[jd,hv,hnet,hde,hx.ix,qz hq,iF];refine Ev.ff hk1 (Ev.bind (b:=divI (gt (exactL b net) q) 1000 mode) ⟨0,fun n _=>(qsX (m:=0)).trans (dd 0)⟩ (Ev.bind ⟨0,fun n _=>c2 n⟩ .done))
  ·have hw:=qbE h hx.nl;have hsn:=hw.sin q hx.kl;have hdl:=qnl h hx.nl;have eg:gt (exactL b net) q=gt (delaysL b net) (at0 (gt b.Ac net).Bi q).toNat:=by
    unfold exactL;rw[qdW (by rw[ju];exact hx.kl),List.getElem_map,qna hx.kl]
   unfold qeg qmG;refine Ev.ff hk1 (Ev.bind (qsh h hx) ?_);simp only[hx.ix,qz hx.nl,jd,qaz hx.kl];refine Ev.bind (b:=u) (Ev.bind (qoJ h hx.nl) ?_) .done;rw[qd4 hsn.1 (show at0 (gt b.Ac net).Bi q<((delaysL b net).length:Int) by omega)];simp only[jd];rw[←eg];exact us
  ·unfold qbq;simp only[jd,hv,hnet,hde,hx.ix,qz hq];refine Ev.ff hk1 (Ev.bind ui (Ev.now ?_))
   congr 1
   split<;>split<;>omega
theorem qoS {b:qd}{c:qy}(h:blockB b=true)(hc:cornerB c=true){k:Nat}(hk:k<(linksL b).length){sl mode:Int}(s0:0≤sl)(s1:sl≤1000000)(hm:mode=0∨mode=1) :
  (∃ D:Int,Ev (fun n=>qca n b c (gt (linksL b) k) sl mode) D∧∀ ex,Ev (fun n=>qbo n (V (viewE b ex)) c (k:Int) sl mode) D) ∧
  ∃ S:Int,0≤S∧S≤1000000∧Ev (fun n=>qeg n b (gt (linksL b) k) sl mode) S∧∀ ex,Ev (fun n=>qbq n (V (viewE b ex)) (k:Int) sl mode) S:=by
 obtain⟨⟨D,d1,_⟩,⟨S,a,c',s1',_⟩⟩:=qsB [] h hc hk s0 s1 hm;refine⟨⟨D,d1,fun ex=>?_⟩,⟨S,a,c',s1',fun ex=>?_⟩⟩
 ·obtain⟨⟨D',e1,e2⟩,_⟩:=qsB ex h hc hk s0 s1 hm;rw[d1.uniq e1];exact e2
 ·obtain⟨_,⟨S',_,_,e1,e2⟩⟩:=qsB ex h hc hk s0 s1 hm;rw[s1'.uniq e1];exact e2
end Go.Fw


namespace Go.Fw
open Go
set_option maxRecDepth 100000
def slR (s:qi):Prop:=(0≤s.Ar∧s.Ar≤1000000)∧(0≤s.Ay∧s.Ay≤1000000)
def SpansS (b:qd)(c:qy)(f:Nat→qi→qi×qi):Prop:=∀ k s,k<(linksL b).length→slR s→slR (f k s).2∧Ev (fun n=>qh1 n b c (gt (linksL b) k) s) (f k s)
def SpansI (b:qd)(c:qy)(ex:List Int)(f:Nat→qi→qi×qi):Prop:=∀ k s,k<(linksL b).length→slR s→slR (f k s).2∧Ev (fun n=>qgE n (V (viewE b ex)) c (k:Int) s) (f k s)
def exK (b:qd)(ex:List Int)(k:Nat):Int:=bif (gt (linksL b) k).Aq==2 then gt ex (gt (places b.Aa) ((gt (linksL b) k).To / 2).toNat).net.toNat else 0
def wideS (e:Int)(s:qi):qi:=⟨W64 (s.Ar-e),W64 (s.Ay+e)⟩
def wideF (b:qd)(ex:List Int)(f:Nat→qi→qi×qi)(k:Nat)(s:qi):qi×qi:=bif decide (0<ex.length)&&((gt (linksL b) k).Aq==2) then(wideS (exK b ex k) (f k s).1,(f k s).2) else f k s
theorem qwS {b:qd}{c:qy}(h:blockB b=true)(hc:cornerB c=true):∃ f,SpansS b c f∧∀ ex:List Int,ex.length=0∨ex.length=b.Ac.length→SpansI b c ex (wideF b ex f):=by
 have main:∀ x:Nat×qi,∃ r:qi×qi,x.1<(linksL b).length→slR x.2→slR r.2∧Ev (fun n=>qh1 n b c (gt (linksL b) x.1) x.2) r∧∀ ex:List Int,ex.length=0∨ex.length=b.Ac.length→Ev (fun n=>qgE n (V (viewE b ex)) c (x.1:Int) x.2) (wideF b ex (fun _ _=>r) x.1 x.2):=by
  rintro⟨k,s⟩;by_cases hk:k<(linksL b).length∧slR s
  ·obtain⟨hk,⟨e0,e1⟩,⟨l0,l1⟩⟩:=hk;obtain⟨⟨d1,p1,q1⟩,⟨u1,a1,b1,v1,w1⟩⟩:=qoS h hc hk e0 e1 (mode:=0) (.inl Z);obtain⟨⟨d2,p2,q2⟩,⟨u2,a2,b2,v2,w2⟩⟩:=qoS h hc hk e0 e1 (mode:=1) (.inr Z);obtain⟨⟨d3,p3,q3⟩,⟨u3,a3,b3,v3,w3⟩⟩:=qoS h hc hk l0 l1 (mode:=0) (.inl Z);obtain⟨⟨d4,p4,q4⟩,⟨u4,a4,b4,v4,w4⟩⟩:=qoS h hc hk l0 l1 (mode:=1) (.inr Z);refine⟨(⟨if d3<d1 then d3 else d1,if d4 > d2 then d4 else d2⟩,⟨if u3<u1 then u3 else u1,if u4 > u2 then u4 else u2⟩),fun _ _=>⟨⟨?_,?_⟩,?_,fun ex hex=>?_⟩⟩
   ·show 0≤(if u3<u1 then u3 else u1)∧(if u3<u1 then u3 else u1)≤1000000;split<;>omega
   ·show 0≤(if u4 > u2 then u4 else u2)∧(if u4 > u2 then u4 else u2)≤1000000;split<;>omega
   ·unfold qh1;exact Ev.bind p1 (Ev.bind p2 (Ev.bind v1 (Ev.bind v2 (Ev.bind p3 (Ev.bind p4 (Ev.bind v3 (Ev.bind v4 .done)))))))
   ·unfold qgE;refine Ev.bind (q1 ex) (Ev.bind (q3 ex) (Ev.bind (q2 ex) (Ev.bind (q4 ex) ?_)));have hv:idx (viewE b ex).links (k:Int)=V (gt (linksL b) k):=qz hk;have hx:(viewE b ex).extras=ex:=rfl;simp only[jd,hv,hx];unfold wideF;have fin:∀ r:Int×Int,Ev (fun n=>(qbq n (V (viewE b ex)) (k:Int) s.Ar 0).bind fun r5=>(qbq n (V (viewE b ex)) (k:Int) s.Ay 0).bind fun r6=>(qbq n (V (viewE b ex)) (k:Int) s.Ar 1).bind fun r7=>(qbq n (V (viewE b ex)) (k:Int) s.Ay 1).bind fun r8=>
      V ((⟨r.1,r.2⟩:qi),(⟨if r6<r5 then r6 else r5,if r8 > r7 then r8 else r7⟩:qi))) ((⟨r.1,r.2⟩:qi),(⟨if u3<u1 then u3 else u1,if u4 > u2 then u4 else u2⟩:qi)):=fun r=>Ev.bind (w1 ex) (Ev.bind (w3 ex) (Ev.bind (w2 ex) (Ev.bind (w4 ex) .done)))
    rw[show decide ((ex.length:Int) > 0)=decide (0<ex.length) by rw[decide_eq_decide];omega];cases hl:decide (0<ex.length)
    ·exact Ev.bind (b:=false) (Ev.now Z) (Ev.bind (b:=(if d3<d1 then d3 else d1,if d4 > d2 then d4 else d2)) (Ev.now Z) (fin _))
    ·cases hkd:(gt (linksL b) k).Aq==2
     ·exact Ev.bind (b:=false) (Ev.now Z) (Ev.bind (b:=(if d3<d1 then d3 else d1,if d4 > d2 then d4 else d2)) (Ev.now Z) (fin _))
     ·obtain⟨hcs,_⟩:=qhm h (qlM hk);rcases hcs with⟨i,j,m,net,a,hx⟩|⟨j,net,q,hx⟩
      ·rw[hx.kind] at hkd;cases hkd
      ·have hn:=qu7 (ex:=ex) hx.jl hx.net_ hx.half;have hlt:net<ex.length:=by
        have:=of_decide_eq_true hl;have:=hx.nl;omega
       have hT:=(qhm h (qlM hk)).2.2;have hpl:=qbc (qU (qar h));have ej:((gt (linksL b) k).To / 2).toNat=j:=by
        have:=hx.half;rw[jJ hT.1,qI (by omega) (by omega)] at this;omega
       have eK:exK b ex k=gt ex net:=by
        unfold exK;rw[hkd,ej,hx.net_,jq]
        rfl
       refine Ev.bind (b:=true) (Ev.now Z) (Ev.bind (b:=(W64 ((if d3<d1 then d3 else d1)-gt ex net),W64 ((if d4 > d2 then d4 else d2)+gt ex net))) ?_ ?_)
       ·simp only[hn,jd,qz hlt];exact .done
       ·rw[eK];exact fin _
  ·exact⟨(s,s),fun h1 h2=>absurd ⟨h1,h2⟩ hk⟩
 obtain⟨f,hf⟩:=Classical.axiomOfChoice main;exact⟨fun k s=>f (k,s),fun k s h1 h2=>⟨(hf (k,s) h1 h2).1,(hf (k,s) h1 h2).2.1⟩,fun ex hex k s h1 h2=>⟨by
  have:=(hf (k,s) h1 h2).1;unfold wideF;cases decide (0<ex.length)&&((gt (linksL b) k).Aq==2)<;>exact this,(hf (k,s) h1 h2).2.2 ex hex⟩⟩
def zSp:qi:=⟨0,0⟩
def zSrc:qw:=⟨0,zSp,zSp⟩
def hullS (s t:qi):qi:=⟨if t.Ar<s.Ar then t.Ar else s.Ar,if t.Ay > s.Ay then t.Ay else s.Ay⟩
theorem qsd {s t:qi}:(⟨if s.Ar<t.Ar then s.Ar else t.Ar,if s.Ay > t.Ay then s.Ay else t.Ay⟩:qi)=hullS s t:=by
 unfold hullS
 congr 1
 ·split<;>split<;>omega
 ·split<;>split<;>omega
def plusS (s t:qi):qi:=⟨W64 (s.Ar+t.Ar),W64 (s.Ay+t.Ay)⟩
def joinS (node:Int)(s:Bool×qw)(ar sl:qi):Bool×qw:=bif s.1 then(true,⟨node,hullS s.2.Ai ar,hullS s.2.Ba sl⟩) else(true,⟨node,ar,sl⟩)
def frN (ls:List qt)(k:Nat):Nat:=(gt ls k).Bc.toNat
def stepS (f:Nat→qi→qi×qi)(ls:List qt)(t:qB)(node:Int)(s:Bool×qw)(k:Nat):Bool×qw:=
 bif gt t.Bb (frN ls k) then joinS node s (plusS (gt t.Ai (frN ls k)) (f k (gt t.Ba (frN ls k))).1) (f k (gt t.Ba (frN ls k))).2 else s
def toQ (ls:List qt)(lv:List Bool)(node:Int)(k:Nat):Bool:=lvL lv k&&(toL ls k==node)
def srcO (xs:List qw)(node:Int):Option qw:=xs.find? fun s=>s.Bt==node
def srcV (o:Option qw):Bool×qw:=match o with|some y=>(true,y)|none=>(false,zSrc)
def ndS (f:Nat→qi→qi×qi)(ls:List qt)(lv:List Bool)(t:qB)(node:Int)(s0:Bool×qw):Nat→Bool×qw
 | 0=>s0
 | k+1=>bif toQ ls lv node k then stepS f ls t node (ndS f ls lv t node s0 k) k else ndS f ls lv t node s0 k
theorem qxK {f:Nat→qi→qi×qi}{ls:List qt}{lv:List Bool}{t:qB}{node:Int}{s0:Bool×qw}{j:Nat}:(selN (toQ ls lv node) j).foldl (stepS f ls t node) s0=ndS f ls lv t node s0 j:=by
 induction j with
 | zero=>rfl
 | succ j ih=>
  rw[qiF,List.foldl_append,ih];show _=bif toQ ls lv node j then stepS f ls t node (ndS f ls lv t node s0 j) j else ndS f ls lv t node s0 j;cases toQ ls lv node j<;>rfl
structure TmOk (t:qB)(M:Nat):Prop where
 r:t.Bb.length=M
 a:t.Ai.length=M
 s:t.Ba.length=M
 sl:∀ k,k<M→slR (gt t.Ba k)
structure SrcOk (xs:List qw):Prop where
 len:xs.length≤1048576
 inc:∀ j i,i<j→j<xs.length→(gt xs i).Bt<(gt xs j).Bt
 sl:∀ x,x ∈ xs→slR x.Ba
theorem qxo {xs:List qw}{node:Int}(hl:xs.length≤1048576):Ev (fun n=>qjx n xs node) ((srcV (srcO xs node)).2,(srcV (srcO xs node)).1):=by
 have h1:Ev (fun n=>qaK n xs node) (ixL (fun s=>s.Bt==node) xs):=
  qfS (fin:=(xs.length:Int)) (Lf:=qZ xs node) (xs:=xs) (pf:=fun n x=>qkf n x node) (fun _ _=>.done)
   (fun n=>by simp only[qZ,ql (je _),cond_false])
   (fun n j x hx=>by
    have hj:=(List.getElem?_eq_some_iff.1 hx).1;simp only[qZ,qj hj,cond_true,qas hx,jd,wS j])
   (fun n=>by unfold qaK;congr 1;funext o;cases o<;>rfl)
 unfold qjx;refine Ev.bind h1 ?_;unfold ixL srcO;cases hf:xs.findIdx? (fun s=>s.Bt==node) with
 | none=>
  have:xs.find? (fun s=>s.Bt==node)=U:=by
   rw[List.find?_eq_none];intro x hx;have:=List.findIdx?_eq_none_iff.1 hf x hx;simpa using this
  rw[this];exact Ev.ff Z .done
 | some j=>
  obtain⟨hj,hp,hn⟩:=List.findIdx?_eq_some_iff_getElem.1 hf;have:xs.find? (fun s=>s.Bt==node)=V xs[j]:=by
   rw[List.find?_eq_some_iff_getElem];exact⟨hp,j,hj,rfl,fun i hi=>by have:=hn i hi;simpa using this⟩
  rw[this];refine Ev.tt (show decide ((j:Int) ≥ 0)=true from decide_eq_true (by omega)) ?_;show Ev (fun n=>(idx xs (j:Int)).bind _) _;rw[qgq hj];exact .done
theorem qnN {xs:List qw}{node:Int}{y:qw}(h:srcO xs node=V y):y.Bt=node∧y ∈ xs:=by
 have h1:=List.find?_some h;exact⟨by simpa using h1,List.mem_of_find?_eq_some h⟩
theorem qx1 {xs:List qw}{node:Int}(h:SrcOk xs) :
  Ev (fun n=>qdf xs node n 0 0 0 0 0 false 0) ((srcV (srcO xs node)).2.Bt,(srcV (srcO xs node)).2.Ai.Ar,(srcV (srcO xs node)).2.Ai.Ay,(srcV (srcO xs node)).2.Ba.Ar,(srcV (srcO xs node)).2.Ba.Ay,(srcV (srcO xs node)).1,(xs.length:Int)):=by
 have hl:=h.len;have:=loopF (τ:=Bool×qw) (Lf:=fun n s j=>qdf xs node n s.2.Bt s.2.Ai.Ar s.2.Ai.Ay s.2.Ba.Ar s.2.Ba.Ay s.1 j) (S:=fun j=>srcV (srcO (xs.take j) node)) (len:=xs.length)
  (fin:=((srcV (srcO xs node)).2.Bt,(srcV (srcO xs node)).2.Ai.Ar,(srcV (srcO xs node)).2.Ai.Ay,(srcV (srcO xs node)).2.Ba.Ar,(srcV (srcO xs node)).2.Ba.Ay,(srcV (srcO xs node)).1,(xs.length:Int)))
  (fun n=>by simp only[qdf,ql (je _),cond_false,jH])
  (fun j hj X hX=>by
   simp only[qdf,qj hj,cond_true,qz hj,jd,wS j];have e:srcO (xs.take (j+1)) node=(srcO (xs.take j) node).or (bif (gt xs j).Bt==node then V (gt xs j) else U):=by
    unfold srcO;rw[jy hj,List.find?_append,←qdW hj]
    congr 1
   cases hq:(gt xs j).Bt==node
   ·rw[hq] at e;have e:srcO (xs.take (j+1)) node=srcO (xs.take j) node:=by rw[e];cases srcO (xs.take j) node<;>rfl
    rw[e] at hX;exact hX
   ·rw[hq] at e;have hn:srcO (xs.take j) node=U:=by
     unfold srcO;rw[List.find?_eq_none];intro x hx hxn;obtain⟨i,hi,rfl⟩:=List.mem_iff_getElem.1 hx;rw[Jf] at hi;rw[List.getElem_take,←qdW (by omega)] at hxn;have:=h.inc j i (by omega) hj;simp only[beq_iff_eq] at hq hxn;omega
    have e:srcO (xs.take (j+1)) node=V (gt xs j):=by rw[e,hn];rfl
    rw[e] at hX;exact hX)
 exact this
theorem quC {ls:List qt}{M:Nat}(h:LkOk ls M){k:Nat}(hk:k<ls.length):(gt ls k).Bc=(frN ls k:Int)∧frN ls k<M:=by
 have h0:=h.fr0 k hk;have h1:=h.fr1 k hk;unfold frN;omega
section
variable {b:qd}{c:qy}{ex:List Int}{f:Nat→qi→qi×qi}{lv:List Bool}{t:qB}{xs:List qw}{node:Int}
theorem qwA (h:blockB b=true)(hf:SpansS b c f)(hl:lv.length=(linksL b).length)(ht:TmOk t (2*(places b.Aa).length))(hx:SrcOk xs) :
  Ev (fun n=>qiQ n b c (linksL b) lv xs t node) (ndS f (linksL b) lv t node (srcV (srcO xs node)) (linksL b).length):=by
 have hk:=qnD h;have hkl:=hk.len;have hL:=loopF (τ:=Bool×qw) (Lf:=fun n s j=>qdd b c (linksL b) lv t node n s.2.Bt s.2.Ai.Ar s.2.Ai.Ay s.2.Ba.Ar s.2.Ba.Ay s.1 j) (S:=fun j=>ndS f (linksL b) lv t node (srcV (srcO xs node)) j) (len:=(linksL b).length)
  (fin:=(fun s:Bool×qw=>(s.2.Bt,s.2.Ai.Ar,s.2.Ai.Ay,s.2.Ba.Ar,s.2.Ba.Ay,s.1,((linksL b).length:Int))) (ndS f (linksL b) lv t node (srcV (srcO xs node)) (linksL b).length))
  (fun n=>by simp only[qdd,ql (je _),cond_false])
  (fun j hj X hX=>by
   obtain⟨e1,e2⟩:=quC hk hj;have eN:ndS f (linksL b) lv t node (srcV (srcO xs node)) (j+1)=bif toQ (linksL b) lv node j then stepS f (linksL b) t node (ndS f (linksL b) lv t node (srcV (srcO xs node)) j) j else ndS f (linksL b) lv t node (srcV (srcO xs node)) j:=rfl;rw[eN] at hX;generalize ndS f (linksL b) lv t node (srcV (srcO xs node)) j=s at hX ⊢;simp only[qdd,qj hj,cond_true,qz hj,qz (show j<lv.length by omega),jd,e1,qz (show frN (linksL b) j<t.Bb.length by rw[ht.r];exact e2),qz (show frN (linksL b) j<t.Ai.length by rw[ht.a];exact e2),qz (show frN (linksL b) j<t.Ba.length by rw[ht.s];exact e2),wS j];unfold toQ lvL toL at hX;cases h1:gt lv j
   ·rw[h1] at hX;exact hX
   rw[h1,jG] at hX;cases h2:(gt (linksL b) j).To==node
   ·rw[h2] at hX;simp only[bne,h2];exact hX
   rw[h2] at hX;simp only[bne,h2];unfold stepS at hX;cases h3:gt t.Bb (frN (linksL b) j)
   ·rw[h3] at hX;exact hX
   rw[h3] at hX;simp only[cond_true] at hX;obtain⟨_,s1⟩:=hf j _ hj (ht.sl _ e2);refine Ev.bind (b:=false) (Ev.now Z) (Ev.ff Z (Ev.bind s1 ?_));generalize f j (gt t.Ba (frN (linksL b) j))=q at hX ⊢;unfold joinS at hX;cases h4:s.1
   ·rw[h4] at hX;exact hX
   ·rw[h4] at hX;simp only[qkD,jd,cond_true];have a1:=qsd (s:=s.2.Ai) (t:=plusS (gt t.Ai (frN (linksL b) j)) q.1);have a2:=qsd (s:=s.2.Ba) (t:=q.2);simp only[cond_true] at hX;rw[←a1,←a2] at hX;exact hX)
 unfold qiQ;exact Ev.bind (qx1 hx) (Ev.bind hL .done)
theorem qzT {ls:List qt}{M:Nat}{ps:List Tplace}{lo:List Int}{de:List (List Int)}{ex:List Int}(h:LkOk ls M)(hl:lv.length=ls.length):Ev (fun n=>qjA n (grV ls lv ps b lo de ex) node) (ints (selN (toQ ls lv node) ls.length)):=by
 have hll:=h.len;have hL:Ev (fun n=>qR node ⟨V ⟨b,ps,ls,lo,de,ex⟩,lv⟩ ⟨b,ps,ls,lo,de,ex⟩ n ([]:List Int) 0) (ints (selN (toQ ls lv node) ls.length),(ls.length:Int)):=by
  refine qo6 (q:=toQ ls lv node) (Lf:=qR node ⟨V ⟨b,ps,ls,lo,de,ex⟩,lv⟩ ⟨b,ps,ls,lo,de,ex⟩) (len:=ls.length) (by omega) (Ev.succ ?_) (fun j hj t ht X h1 h2=>?_)
  ·simp only[qR,ql (je _),cond_false];exact .done
  ·simp only[qR,qj hj,cond_true,qz hj,qz (show j<lv.length by omega),jd,qka,ht,wS j];unfold toQ lvL toL at h1 h2;cases hq:gt lv j
   ·simp only[cond_false];exact h2 (by rw[hq];rfl)
   ·simp only[cond_true];cases hw:(gt ls j).To==node
    ·simp only[cond_false];exact h2 (by rw[hq,hw];rfl)
    ·simp only[cond_true];exact h1 (by rw[hq,hw];rfl)
 unfold qjA qcN grV;simp only[jd];exact Ev.bind (Ev.bind hL .done) .done
def fixS (node:Int)(s:Bool×qw):Bool×qw:=bif s.1 then s else(false,⟨node,zSp,zSp⟩)
theorem qwx (h:blockB b=true)(hf:SpansI b c ex f)(hl:lv.length=(linksL b).length)(ht:TmOk t (2*(places b.Aa).length))(hx:xs.length≤1048576) :
  Ev (fun n=>qdL n (V ⟨V (viewE b ex),lv⟩) c xs t node) (ndS f (linksL b) lv t node (srcV (srcO xs node)) (linksL b).length):=by
 have hk:=qnD h;have hkl:=hk.len;have hsel:=qk4 (q:=toQ (linksL b) lv node) (j:=(linksL b).length);have hnd:∀ j,(ndS f (linksL b) lv t node (srcV (srcO xs node)) j).1=true→(ndS f (linksL b) lv t node (srcV (srcO xs node)) j).2.Bt=node:=by
  intro j
  induction j with
  | zero=>
   show(srcV (srcO xs node)).1=true→(srcV (srcO xs node)).2.Bt=node;cases hs:srcO xs node with
   | none=>intro e;cases e
   | some y=>exact fun _=>(qnN hs).1
  | succ j ih=>
   unfold ndS;cases toQ (linksL b) lv node j
   ·exact ih
   ·simp only[cond_true];unfold stepS;cases gt t.Bb (frN (linksL b) j)
    ·exact ih
    ·simp only[cond_true];unfold joinS;cases (ndS f (linksL b) lv t node (srcV (srcO xs node)) j).1<;>exact fun _=>rfl
 have hz:∀ j,(ndS f (linksL b) lv t node (srcV (srcO xs node)) j).1=false→(ndS f (linksL b) lv t node (srcV (srcO xs node)) j).2=zSrc:=by
  intro j
  induction j with
  | zero=>
   show(srcV (srcO xs node)).1=false→(srcV (srcO xs node)).2=zSrc;cases srcO xs node with
   | none=>exact fun _=>rfl
   | some y=>intro e;cases e
  | succ j ih=>
   unfold ndS;cases toQ (linksL b) lv node j
   ·exact ih
   ·simp only[cond_true];unfold stepS;cases gt t.Bb (frN (linksL b) j)
    ·exact ih
    ·simp only[cond_true];unfold joinS;cases (ndS f (linksL b) lv t node (srcV (srcO xs node)) j).1<;>(intro e;cases e)
 have fl:∀ (l:List Nat) (s:Bool×qw),(∀ k,k ∈ l→toQ (linksL b) lv node k=true)→l.foldl (fun s k=>fixS node (stepS f (linksL b) t node s k)) (fixS node s)=fixS node (l.foldl (stepS f (linksL b) t node) s):=by
  intro l
  induction l with
  | nil=>intro s _;rfl
  | cons k l ih=>
   intro s hq;have e:fixS node (stepS f (linksL b) t node (fixS node s) k)=fixS node (stepS f (linksL b) t node s k):=by
    unfold stepS;obtain⟨s1,s2⟩:=s;cases gt t.Bb (frN (linksL b) k)<;>cases s1<;>rfl
   rw[List.foldl_cons,List.foldl_cons,e];exact ih _ fun k' hk'=>hq k' (jn _ hk')
 have hL:=(qv5 (τ:=Bool×qw) (xs:=selN (toQ (linksL b) lv node) (linksL b).length) (Lf:=fun n s j=>qbw (V ⟨V (viewE b ex),lv⟩) c t (ints (selN (toQ (linksL b) lv node) (linksL b).length)) n s.1 s.2.Bt s.2.Ai.Ar s.2.Ai.Ay s.2.Ba.Ar s.2.Ba.Ay j)
  (step:=fun s k=>fixS node (stepS f (linksL b) t node s k)) (fin:=fun s=>(s.1,s.2.Bt,s.2.Ai.Ar,s.2.Ai.Ay,s.2.Ba.Ar,s.2.Ba.Ay,((ints (selN (toQ (linksL b) lv node) (linksL b).length)).length:Int))) (fixS node (srcV (srcO xs node))) (fun _ s=>s=fixS node s∧s.2.Bt=node) (by
   constructor
   ·unfold fixS;cases hs:(srcV (srcO xs node)).1
    ·rfl
    ·simp only[hs,cond_true]
   ·unfold fixS;cases hs:srcO xs node with
    | none=>rfl
    | some y=>exact(qnN hs).1)
  (fun j s hj hs=>by
   obtain⟨h1,h2⟩:=hs;have key:(stepS f (linksL b) t node s (selN (toQ (linksL b) lv node) (linksL b).length)[j]).2.Bt=node:=by
    unfold stepS;cases gt t.Bb (frN (linksL b) (selN (toQ (linksL b) lv node) (linksL b).length)[j])
    ·exact h2
    ·unfold joinS;cases s.1<;>rfl
   constructor
   ·unfold fixS;cases hs:(stepS f (linksL b) t node s (selN (toQ (linksL b) lv node) (linksL b).length)[j]).1
    ·rfl
    ·simp only[hs,cond_true]
   ·unfold fixS;cases hs:(stepS f (linksL b) t node s (selN (toQ (linksL b) lv node) (linksL b).length)[j]).1
    ·rfl
    ·exact key)
  (fun n s=>by simp only[qbw,qcG,ql (je _),cond_false])
  (fun j s hj hs X hX=>by
   obtain⟨hfx,hsn⟩:=hs;have hi:=qnI hj;have hm:(selN (toQ (linksL b) lv node) (linksL b).length)[j]<(linksL b).length:=(qnj.1 (jo hj)).1;generalize (selN (toQ (linksL b) lv node) (linksL b).length)[j]=k at hi hm hX;obtain⟨e1,e2⟩:=quC hk hm;have hv:idx (viewE b ex).links (k:Int)=V (gt (linksL b) k):=qz hm;simp only[qbw,qcG,qj hj,cond_true,hi,hv,jd,e1,qz (show frN (linksL b) k<t.Bb.length by rw[ht.r];exact e2),qz (show frN (linksL b) k<t.Ai.length by rw[ht.a];exact e2),qz (show frN (linksL b) k<t.Ba.length by rw[ht.s];exact e2),wS j];unfold stepS at hX;cases h3:gt t.Bb (frN (linksL b) k)
   ·rw[h3] at hX;simp only[cond_false] at hX;rw[←hfx] at hX;exact hX
   rw[h3] at hX;simp only[cond_true] at hX ⊢;obtain⟨_,s1⟩:=hf k _ hm (ht.sl _ e2);refine Ev.bind s1 ?_;generalize f k (gt t.Ba (frN (linksL b) k))=q at hX ⊢;simp only[qkT,jd];unfold joinS at hX;unfold qdt;cases h4:s.1
   ·rw[h4] at hX;simp only[Bool.not_false,cond_true,jd];unfold fixS at hX;simp only[cond_false,cond_true] at hX;rw[hsn];exact hX
   ·rw[h4] at hX;simp only[jW,cond_false,qhz,jd];unfold fixS at hX;simp only[cond_true] at hX;rw[hsn];exact hX)).1
 rw[fl _ _ (fun k hk'=>(qnj.1 hk').2),qxK] at hL;unfold qdL;refine Ev.bind (qxo hx) ?_;have e0:(bif (srcV (srcO xs node)).1 then(qdt 0 ⟨node,⟨0,0⟩,⟨0,0⟩⟩ false ⟨(srcV (srcO xs node)).2.Ai.Ar,(srcV (srcO xs node)).2.Ai.Ay⟩ ⟨(srcV (srcO xs node)).2.Ba.Ar,(srcV (srcO xs node)).2.Ba.Ay⟩).bind (fun o=>match o with|(x9,x10)=>V (x10,x9.Bt,x9.Ai.Ar,x9.Ai.Ay,x9.Ba.Ar,x9.Ba.Ay)) else V (false,node,(0:Int),(0:Int),(0:Int),(0:Int))) =
   V ((fixS node (srcV (srcO xs node))).1,(fixS node (srcV (srcO xs node))).2.Bt,(fixS node (srcV (srcO xs node))).2.Ai.Ar,(fixS node (srcV (srcO xs node))).2.Ai.Ay,(fixS node (srcV (srcO xs node))).2.Ba.Ar,(fixS node (srcV (srcO xs node))).2.Ba.Ay):=by
  cases hs:srcO xs node with
  | none=>rfl
  | some y=>
   have:=(qnN hs).1;unfold fixS srcV;simp only[cond_true,this]
   rfl
 refine Ev.bindN e0 (Ev.bind (qzT (ps:=places b.Aa) (lo:=pre (load0 b) b.Ac.length) (de:=pre (exactL b) b.Ac.length) (ex:=ex) hk hl) (Ev.bind hL ?_));have z:=hz (linksL b).length;generalize ndS f (linksL b) lv t node (srcV (srcO xs node)) (linksL b).length=s at z ⊢;unfold fixS;obtain⟨s1,s2⟩:=s;cases s1
 ·have:=z Z;simp only at this;subst this;exact .done
 ·exact .done
end
end Go.Fw


namespace Go.Fw
open Go
set_option maxRecDepth 100000
theorem qpY {b:qd}(h:blockB b=true):Ev (fun n=>qh2 n b) ((2*(places b.Aa).length:Nat):Int):=by
 have hs:=qU (qar h);have hl:=qbc hs;unfold qh2;refine Ev.bind (b:=(places b.Aa).map toSp) (qgt hs) (Ev.now ?_);rw[ju,qI (by omega) (by omega)]
 rfl
theorem qwR {v:Tview}(hl:v.places.length≤78)(n:Nat):qe9 n (V v)=V ((2*v.places.length:Nat):Int):=by
 unfold qe9 qem;simp only[jd];rw[qI (by omega) (by omega)]
 rfl
def stepN (xs:List qw)(j:Nat):Bool:=decide (j=0) || decide ((gt xs (j-1)).Bt<(gt xs j).Bt)
def srcB (xs:List qw)(M:Nat):Bool:=allN (fun j=>inI (gt xs j).Bt 0 ((M:Int)-1)&&(stepN xs j&&(spanB (gt xs j).Ai&&slewB (gt xs j).Ba))) xs.length
section
variable {L:Nat}{fr to:Nat→Int}{lv:Nat→Bool}{n:Nat}
def OrdOk (L:Nat)(fr to:Nat→Int)(lv:Nat→Bool)(n:Nat)(R:List Nat):Prop:=∀ l1 k l2,R=l1++k::l2→k<n∧k ∉ l1∧inN L fr to lv l1 k=0
theorem OrdOk.snoc {R:List Nat}{k:Nat}(h:OrdOk L fr to lv n R)(hk:nxtN L fr to lv n R=V k):OrdOk L fr to lv n (R++[k]):=by
 intro l1 k' l2 e;rcases List.eq_nil_or_concat l2 with rfl|⟨l2',z,rfl⟩
 ·obtain⟨rfl,e2⟩:=List.append_inj' e Z;obtain rfl:k=k':=by simpa using e2
  exact qpC hk
 ·have e':R++[k]=(l1++k'::l2')++[z]:=by rw[e];simp
  obtain⟨e1,_⟩:=List.append_inj' e' Z;exact h l1 k' l2' e1
theorem qy0:∀ m R R',OrdOk L fr to lv n R→ordN L fr to lv n m R=V R'→OrdOk L fr to lv n R':=by
 intro m
 induction m with
 | zero=>intro R R' h e;obtain rfl:=Option.some.inj e;exact h
 | succ m ih=>
  intro R R' h e;unfold ordN at e;cases hn:nxtN L fr to lv n R with
  | none=>rw[hn] at e;cases e
  | some k=>
   rw[hn] at e;exact ih _ _ (h.snoc hn) e
theorem OrdOk.at {R:List Nat}(h:OrdOk L fr to lv n R){j:Nat}(hj:j<R.length):R[j]<n∧R[j] ∉ R.take j∧inN L fr to lv (R.take j) R[j]=0:=by
 refine h (R.take j) R[j] (R.drop (j+1)) ?_;rw[←jL hj,List.take_append_drop]
end
theorem qph {α:Type}[Inhabited α]{xs:List α}{k:Nat}{v:α}(hk:k<xs.length)(h:gt xs k=v):setS xs (k:Int) v=xs:=by
 unfold setS;rw[jq,←h,qdW hk];exact List.set_getElem_self hk
theorem qqz {α:Type}[Inhabited α]{xs:List α}{a k:Nat}{y:α}(ha:a<xs.length):gt (setS xs (a:Int) y) k=if k=a then y else gt xs k:=by
 unfold setS;rw[jq];by_cases h:k=a
 ·subst h;rw[if_pos Z,qpP ha]
 ·rw[if_neg h,qr3 h]
def setT (t:qB)(k:Nat)(s:Bool×qw):qB:=⟨setS t.Bb (k:Int) s.1,setS t.Ai (k:Int) s.2.Ai,setS t.Ba (k:Int) s.2.Ba⟩
theorem qsH {t:qB}{M k:Nat}{s:Bool×qw}(h:TmOk t M)(hk:k<M)(hs:slR s.2.Ba):TmOk (setT t k s) M where
 r:=by show(setS _ _ _).length=_;rw[qfs];exact h.r
 a:=by show(setS _ _ _).length=_;rw[qfs];exact h.a
 s:=by show(setS _ _ _).length=_;rw[qfs];exact h.s
 sl:=fun j hj=>by
  show slR (gt (setS _ _ _) j);rw[qqz (by rw[h.s];exact hk)];split
  ·exact hs
  ·exact h.sl j hj
def Bare (t:qB)(M:Nat)(l:List Nat):Prop:=∀ k,k<M→k ∉ l→gt t.Bb k=false∧gt t.Ai k=zSp∧gt t.Ba k=zSp
def zT:qB:=⟨[],[],[]⟩
theorem qu6:slR zSp:=by unfold slR zSp;exact⟨⟨jY _,by show(0:Int)≤_;omega⟩,jY _,by show(0:Int)≤_;omega⟩
theorem qyc {s t:qi}(hs:slR s)(ht:slR t):slR (hullS s t):=by
 obtain⟨⟨a1,a2⟩,a3,a4⟩:=hs;obtain⟨⟨b1,b2⟩,b3,b4⟩:=ht;refine⟨⟨?_,?_⟩,?_,?_⟩
 ·show(0:Int)≤(if t.Ar<s.Ar then t.Ar else s.Ar);split<;>assumption
 ·show(if t.Ar<s.Ar then t.Ar else s.Ar)≤1000000;split<;>assumption
 ·show(0:Int)≤(if t.Ay > s.Ay then t.Ay else s.Ay);split<;>assumption
 ·show(if t.Ay > s.Ay then t.Ay else s.Ay)≤1000000;split<;>assumption
section
variable {b:qd}{c:qy}{ex:List Int}{f g:Nat→qi→qi×qi}{lv:List Bool}{t:qB}{xs:List qw}{node:Int}
theorem qss (h:blockB b=true)(hg:SpansS b c g)(hgf:∀ k s,(f k s).2=(g k s).2)(ht:TmOk t (2*(places b.Aa).length))(hx:SrcOk xs):∀ j,j≤(linksL b).length→slR (ndS f (linksL b) lv t node (srcV (srcO xs node)) j).2.Ba:=by
 intro j
 induction j with
 | zero=>
  intro _;show slR (srcV (srcO xs node)).2.Ba;cases hs:srcO xs node with
  | none=>exact qu6
  | some y=>exact hx.sl y (qnN hs).2
 | succ j ih=>
  intro hj;have ih:=ih (by omega);obtain⟨_,e2⟩:=quC (qnD h) (show j<(linksL b).length by omega);have h2:=(hg j _ (show j<(linksL b).length by omega) (ht.sl _ e2)).1;rw[←hgf] at h2;show slR (bif toQ (linksL b) lv node j then stepS f (linksL b) t node (ndS f (linksL b) lv t node (srcV (srcO xs node)) j) j else ndS f (linksL b) lv t node (srcV (srcO xs node)) j).2.Ba;cases toQ (linksL b) lv node j
  ·exact ih
  ·simp only[cond_true];unfold stepS;cases gt t.Bb (frN (linksL b) j)
   ·exact ih
   ·simp only[cond_true];unfold joinS;cases (ndS f (linksL b) lv t node (srcV (srcO xs node)) j).1
    ·exact h2
    ·exact qyc ih h2
theorem qtD (h:blockB b=true)(hf:SpansS b c f)(ht:TmOk t (2*(places b.Aa).length))(hx:SrcOk xs):∀ j,j≤(linksL b).length→slR (ndS f (linksL b) lv t node (srcV (srcO xs node)) j).2.Ba:=qss h hf (fun _ _=>rfl) ht hx
theorem qyr:∀ j,(ndS f (linksL b) lv t node (srcV (srcO xs node)) j).1=false→(ndS f (linksL b) lv t node (srcV (srcO xs node)) j).2=zSrc:=by
 intro j
 induction j with
 | zero=>
  show(srcV (srcO xs node)).1=false→(srcV (srcO xs node)).2=zSrc;cases srcO xs node with
  | none=>exact fun _=>rfl
  | some y=>intro e;cases e
 | succ j ih=>
  unfold ndS;cases toQ (linksL b) lv node j
  ·exact ih
  ·simp only[cond_true];unfold stepS;cases gt t.Bb (frN (linksL b) j)
   ·exact ih
   ·simp only[cond_true];unfold joinS;cases (ndS f (linksL b) lv t node (srcV (srcO xs node)) j).1<;>(intro e;cases e)
def runR (o:Option qB):qB×Bool:=match o with|some t=>(t,true)|none=>(zT,false)
def rnO (f:Nat→qi→qi×qi)(ls:List qt)(lv:List Bool)(xs:List qw):List Nat→qB→Option qB
 | [],t=>V t
 | k::R,t=>bif (ndS f ls lv t (k:Int) (srcV (srcO xs (k:Int))) ls.length).1 then bif spanB (ndS f ls lv t (k:Int) (srcV (srcO xs (k:Int))) ls.length).2.Ai then rnO f ls lv xs R (setT t k (ndS f ls lv t (k:Int) (srcV (srcO xs (k:Int))) ls.length)) else U else rnO f ls lv xs R t
def zTm (M:Nat):qB:=⟨List.replicate M false,List.replicate M zSp,List.replicate M zSp⟩
theorem qsK {α:Type}[Inhabited α]{v:α}{M k:Nat}(hk:k<M):gt (List.replicate M v) k=v:=by rw[qdW (by rw[jQ];exact hk)];simp
theorem quw {M:Nat}:TmOk (zTm M) M:=⟨jQ,jQ,jQ,fun k hk=>by
 show slR (gt (List.replicate M zSp) k);rw[qsK hk];exact qu6⟩
theorem qxu {M:Nat}{l:List Nat}:Bare (zTm M) M l:=fun k hk _=>⟨qsK hk,qsK hk,qsK hk⟩
theorem qzj (h:blockB b=true)(hf:SpansS b c f)(hx:SrcOk xs):∀ (R:List Nat) (t t':qB),(∀ k,k ∈ R→k<2*(places b.Aa).length)→TmOk t (2*(places b.Aa).length)→rnO f (linksL b) lv xs R t=V t'→TmOk t' (2*(places b.Aa).length):=by
 intro R
 induction R with
 | nil=>intro t t' _ ht e;obtain rfl:=Option.some.inj e;exact ht
 | cons k R ih=>
  intro t t' hR ht e;have hsl:=qtD (node:=(k:Int)) (lv:=lv) h hf ht hx (linksL b).length (je _);unfold rnO at e;cases h1:(ndS f (linksL b) lv t (k:Int) (srcV (srcO xs (k:Int))) (linksL b).length).1
  ·rw[h1] at e;exact ih _ _ (fun i hi=>hR i (jn _ hi)) ht e
  ·rw[h1] at e;cases h2:spanB (ndS f (linksL b) lv t (k:Int) (srcV (srcO xs (k:Int))) (linksL b).length).2.Ai
   ·rw[h2] at e;cases e
   ·rw[h2] at e;exact ih _ _ (fun i hi=>hR i (jn _ hi)) (qsH ht (hR k (jx ..)) hsl) e
def runL (o:Option qB)(m:Nat):Flow (qB×Bool) (List qi×List qi×List Bool×Int):=match o with|some t'=>.nxt (t'.Ba,t'.Ai,t'.Bb,(m:Int))|none=>.ret (zT,false)
theorem qyt (h:blockB b=true)(hf:SpansS b c f)(hl:lv.length=(linksL b).length)(hx:SrcOk xs){R:List Nat}(hR:∀ k,k ∈ R→k<2*(places b.Aa).length)(hRl:R.length≤1000) :
  Ev (fun n=>qjP n b c (linksL b) lv xs (ints R)) (runR (rnO f (linksL b) lv xs R (zTm (2*(places b.Aa).length)))):=by
 have hpl:=qbc (qU (qar h));have hcn:=qpY h;obtain⟨M,eM⟩:∃ M,M=2*(places b.Aa).length:=⟨_,rfl⟩;have hM:M≤156:=by omega
 have main:∀ d j t,j+d=R.length→TmOk t M→Ev (fun n=>qcs b c (linksL b) lv xs (ints R) n t.Ba t.Ai t.Bb (j:Int)) (runL (rnO f (linksL b) lv xs (R.drop j) t) R.length):=by
  intro d
  induction d with
  | zero=>
   intro j t hj ht;obtain rfl:j=R.length:=by omega
   rw[List.drop_length];refine Ev.succ ?_;simp only[qcs,qcG,ql (je _),cond_false];exact .done
  | succ d ih=>
   intro j t hj ht;have hjl:j<R.length:=by omega
   have k1:=hR _ (jo hjl);have hi:=qnI hjl;have hd:R.drop j=R[j]::R.drop (j+1):=jL hjl;generalize R[j]=k at k1 hi hd;rw[←eM] at k1;have hs:=qwA (node:=(k:Int)) h hf hl (by rw[←eM];exact ht) hx;have hsl:=qtD (node:=(k:Int)) (lv:=lv) h hf (by rw[←eM];exact ht) hx (linksL b).length (je _);have ir:idx t.Bb (k:Int)=V (gt t.Bb k):=qz (by rw[ht.r];exact k1);have ia:idx t.Ai (k:Int)=V (gt t.Ai k):=qz (by rw[ht.a];exact k1);have is:idx t.Ba (k:Int)=V (gt t.Ba k):=qz (by rw[ht.s];exact k1);have stp:∀ n,qcs b c (linksL b) lv xs (ints R) (n+1) t.Ba t.Ai t.Bb (j:Int)=(qiQ n b c (linksL b) lv xs t (k:Int)).bind fun o=>match o with
    | (r4,r5)=>bif (!r4) then qcs b c (linksL b) lv xs (ints R) n t.Ba t.Ai t.Bb ((j+1:Nat):Int) else bif (!spanB r5.Ai) then V (.ret (zT,false)) else
     qcs b c (linksL b) lv xs (ints R) n (setS t.Ba (k:Int) r5.Ba) (setS t.Ai (k:Int) r5.Ai) (setS t.Bb (k:Int) true) ((j+1:Nat):Int):=fun n=>by
    simp only[qcs,qcG,qj hjl,cond_true,hi,jd,quB,ir,ia,is,wS j]
    rfl
   rw[hd];unfold rnO;generalize ndS f (linksL b) lv t (k:Int) (srcV (srcO xs (k:Int))) (linksL b).length=s at hs hsl ⊢;obtain⟨s1,s2⟩:=s;cases s1
   ·exact Ev.step stp (Ev.bind hs (ih (j+1) t (by omega) ht))
   ·cases hsp:spanB s2.Ai
    ·refine Ev.step stp (Ev.bind hs ?_);simp only[hsp];exact .done
    ·refine Ev.step stp (Ev.bind hs ?_);simp only[hsp];exact ih (j+1) (setT t k (true,s2)) (by omega) (qsH ht k1 hsl)
 have hm1:mkS (M:Int) false=V (List.replicate M false):=qnJ (by omega);have hm2:mkS (M:Int) (⟨0,0⟩:qi)=V (List.replicate M zSp):=qnJ (by omega);have o2:=main R.length 0 (zTm M) (by omega) quw;rw[List.drop_zero] at o2;rw[←eM] at hcn ⊢;unfold qjP qlS;refine Ev.bind hcn ?_;simp only[hm1,hm2,jd];refine Ev.bind o2 ?_;cases rnO f (linksL b) lv xs R (zTm M)<;>exact .done
theorem qyj (h:blockB b=true)(hg:SpansS b c g)(hgf:∀ k s,(f k s).2=(g k s).2)(hf:SpansI b c ex f)(hl:lv.length=(linksL b).length)(hx:SrcOk xs){R:List Nat}(hR:∀ j,∀ hj:j<R.length,R[j]<2*(places b.Aa).length∧R[j] ∉ R.take j)(hRl:R.length≤1000) :
  Ev (fun n=>qdK n (V ⟨V (viewE b ex),lv⟩) c xs (ints R)) (runR (rnO f (linksL b) lv xs R (zTm (2*(places b.Aa).length)))):=by
 have hpl:=qbc (qU (qar h));have hnd:=qwR (v:=viewE b ex) hpl;have epl:(viewE b ex).places.length=(places b.Aa).length:=rfl;rw[epl] at hnd;obtain⟨M,eM⟩:∃ M,M=2*(places b.Aa).length:=⟨_,rfl⟩;have hM:M≤156:=by omega
 have main:∀ d j t,j+d=R.length→TmOk t M→Bare t M (R.take j)→Ev (fun n=>qaW (V ⟨V (viewE b ex),lv⟩) c xs (ints R) n t.Ba t.Ai t.Bb (j:Int)) (runL (rnO f (linksL b) lv xs (R.drop j) t) R.length):=by
  intro d
  induction d with
  | zero=>
   intro j t hj ht _;obtain rfl:j=R.length:=by omega
   rw[List.drop_length];refine Ev.succ ?_;simp only[qaW,qcG,ql (je _),cond_false];exact .done
  | succ d ih=>
   intro j t hj ht hb;have hjl:j<R.length:=by omega
   obtain⟨k1,k2⟩:=hR j hjl;have hi:=qnI hjl;have htk:R.take (j+1)=R.take j++[R[j]]:=jy hjl;have hd:R.drop j=R[j]::R.drop (j+1):=jL hjl;generalize R[j]=k at k1 k2 hi htk hd;rw[←eM] at k1;have hp:=qwx (node:=(k:Int)) h hf hl (by rw[←eM];exact ht) hx.len;have hsl:=qss (node:=(k:Int)) (lv:=lv) h hg hgf (by rw[←eM];exact ht) hx (linksL b).length (je _);have hz:=qyr (f:=f) (b:=b) (lv:=lv) (t:=t) (xs:=xs) (node:=(k:Int)) (linksL b).length;obtain⟨b1,b2,b3⟩:=hb k k1 k2;have ir:idx t.Bb (k:Int)=V (gt t.Bb k):=qz (by rw[ht.r];exact k1);have ia:idx t.Ai (k:Int)=V (gt t.Ai k):=qz (by rw[ht.a];exact k1);have is:idx t.Ba (k:Int)=V (gt t.Ba k):=qz (by rw[ht.s];exact k1);have ptp:∀ n,qaW (V ⟨V (viewE b ex),lv⟩) c xs (ints R) (n+1) t.Ba t.Ai t.Bb (j:Int)=(qdL n (V ⟨V (viewE b ex),lv⟩) c xs t (k:Int)).bind fun o=>match o with
    | (r3,r4)=>(bif r3 then V (!spanB r4.Ai) else V false).bind fun b3=>bif b3 then V (.ret (zT,false)) else
     qaW (V ⟨V (viewE b ex),lv⟩) c xs (ints R) n (setS t.Ba (k:Int) r4.Ba) (setS t.Ai (k:Int) r4.Ai) (setS t.Bb (k:Int) r3) ((j+1:Nat):Int):=fun n=>by
    simp only[qaW,qcG,qj hjl,cond_true,hi,jd,qvz,ir,ia,is,wS j]
    rfl
   rw[hd];unfold rnO;generalize ndS f (linksL b) lv t (k:Int) (srcV (srcO xs (k:Int))) (linksL b).length=s at hp hsl hz ⊢;obtain⟨s1,s2⟩:=s;cases s1
   ·have:=hz Z;simp only at this;subst this;have e1:setS t.Ba (k:Int) zSrc.Ba=t.Ba:=qph (by rw[ht.s];exact k1) b3;have e2:setS t.Ai (k:Int) zSrc.Ai=t.Ai:=qph (by rw[ht.a];exact k1) b2;have e3:setS t.Bb (k:Int) false=t.Bb:=qph (by rw[ht.r];exact k1) b1;refine Ev.step ptp (Ev.bind hp ?_);simp only[cond_false,jd,e1,e2,e3];exact ih (j+1) t (by omega) ht (fun i hi hni=>hb i hi (fun hm=>hni (by rw[htk];exact jT _ hm)))
   ·cases hsp:spanB s2.Ai
    ·refine Ev.step ptp (Ev.bind hp ?_);simp only[hsp];exact .done
    ·refine Ev.step ptp (Ev.bind hp ?_);simp only[hsp];refine ih (j+1) (setT t k (true,s2)) (by omega) (qsH ht k1 hsl) (fun i hi hni=>?_);rw[htk] at hni;have hne:i ≠ k:=fun e=>hni (List.mem_append_right _ (List.mem_singleton.2 e));have:=hb i hi (fun hm=>hni (jT _ hm));refine⟨?_,?_,?_⟩
     ·show gt (setS _ _ _) i=_;rw[qqz (by rw[ht.r];exact k1),if_neg hne];exact this.1
     ·show gt (setS _ _ _) i=_;rw[qqz (by rw[ht.a];exact k1),if_neg hne];exact this.2.1
     ·show gt (setS _ _ _) i=_;rw[qqz (by rw[ht.s];exact k1),if_neg hne];exact this.2.2
 have hm1:mkS (M:Int) false=V (List.replicate M false):=qnJ (by omega);have hm2:mkS (M:Int) (⟨0,0⟩:qi)=V (List.replicate M zSp):=qnJ (by omega);have o3:=main R.length 0 (zTm M) (by omega) quw qxu;rw[List.drop_zero] at o3;rw[←eM] at hnd ⊢;unfold qdK qhV;simp only[jd,hnd,hm1,hm2];refine Ev.bind o3 ?_;cases rnO f (linksL b) lv xs R (zTm M)<;>exact .done
end
end Go.Fw


namespace Go.Fw
open Go Go.Proofs Go.Proofs.Tryz
open Go.RowKit (Below)
set_option maxRecDepth 100000
set_option maxHeartbeats 1600000
variable {n:Nat}{w:World}{cs1 cs2 cs3 cs4 cs5 cs6 cs7 cs8 cs9:List Value}
def qb2 (y2:qv):Nat→Int→Int→Option (Int×Int)
 | 0,_,_=>U
 | n+1,i2,i3=>
  bif decide (i3<(y2.Ak.length:Int)) then
   (
    bif decide (i2<0) then
     (idx y2.Ak i3).bind fun y4=>
     V (y4.Aq==1)
    else
     V false).bind fun b3=>
   bif b3 then
    (idx y2.Ak i3).bind fun y3=>
    qb2 y2 n y3.Bc (W64 (i3+1))
   else
    qb2 y2 n i2 (W64 (i3+1))
  else
   V (i2,i3)
def qcB (a_0:qd):Nat→(List Int)→(List Int)→Int→Option ((List Int)×(List Int)×Int)
 | 0,_,_,_=>U
 | n+1,x1,x2,i1=>
  bif decide (i1<(a_0.Aa.Ab.length:Int)) then
   (idx a_0.Aa.Ab i1).bind fun y1=>
   (idx a_0.Ap.Am y1.Bp).bind fun y2=>
   bif (y2.Aq != 3) then qcB a_0 n x1 x2 (W64 (i1+1)) else
   (qb2 y2 n (-1) 0).bind fun o=>match o with
   | (i2,_)=>
    (appS x2 ([i1]:List Int)).bind fun x3=>
    (appS x1 ([i2]:List Int)).bind fun x4=>
    qcB a_0 n x4 x3 (W64 (i1+1))
  else
   V (x1,x2,i1)
def qic (n:Nat)(a_0:qd):Option ((List Int)×(List Int)):=
 (qcB a_0 n ([]:List Int) ([]:List Int) 0).bind fun o=>match o with
 | (x1,x2,_)=>
  V (x2,x1)
theorem qn9 {a_0:qd}(ha1:Ro w a_0 cs1){r:((List Int)×(List Int))}(F:qic n a_0=V r):RetV prog 92 [GoT.v qd cs1] w r:=by
 obtain⟨p1,k1,p2,k2,p3,k3,p4,k4,p5,k5,rfl,s1,s2,_,_,_⟩:=qM ha1;refine zV 69 func92 Z fun h=>zSR (qx h Z Z fun _ bb1 h=>X0 5 Z (qK qa [] _ ([]:List Int) h Z Z Z Z Z Z Z Z Z trivial Z fun _ _ _ h=>qK qa [] _ ([]:List Int) h Z Z Z Z Z Z Z Z Z trivial Z fun _ _ _ h=>X0 8 Z ?_));obtain⟨o1,F,hK1⟩:=qc F;refine qn (rL (fun m e w'=>∃(S3:Nat→Prop) (p8:Option Addr) (ln1:Nat) (k6:Nat) (x1:(List Int)) (S4:Nat→Prop) (p9:Option Addr) (ln2:Nat) (k7:Nat) (x2:(List Int)) (i1:Int),qcB a_0 m x1 x2 i1=V o1∧e=[(1,.pointer (V ⟨bb1,0,U⟩)),(4,.slice p9 ln2 k7),(5,.slice p8 ln1 k6),(6,.int .i64 i1)]∧SH w w' [Ch.own S3 (x1:List Int) [.slice p8 ln1 k6],Ch.own S4 (x2:List Int) [.slice p9 ln2 k7],Ch.box bb1 (qT a_0 p1 p2 p3 p4 p5 k1 k2 k3 k4 k5) 53]) n ⟨_,_,_,_,_,_,_,_,_,_,_,F,rfl,h⟩ Z ?_);rintro m1 _ _ ⟨S3,p8,ln1,k6,x1,S4,p9,ln2,k7,x2,i1,F,rfl,h⟩;obtain rfl:=(h.sl 0 Z).2;obtain rfl:=(h.sl 1 Z).2;rcases m1 with _|m1
 ·cases F
 refine X1 10 2 h Z (qh Z F ?_ ?_)<;>intro F
 ·refine X0 4 Z (rA [] [2] h Z fun _ h=>M2 127 [0,1,2,3,4,5,6] 0 0 (h.pick [2] Z) Z ?_);obtain⟨_,_,F,he1,_,_,_,_,hp1,hq1,hr1,hc2⟩:=s2.ix F;obtain⟨_,_,rfl,_⟩:=qF hr1;refine Ae 7 255 hp1 hq1 he1 (h.pick [2] Z) Z (M0 511 [8] (h.pick [2] Z) Z (Al 9 1023 1 hc2 (h.pick [2] Z) Z ?_));obtain⟨y2,_,F,he2,_,_,_,_,hp2,hq2,hr2,hc3⟩:=s1.ix F;obtain⟨p11,k9,p12,k10,p13,k11,rfl,_,s8,_⟩:=qO hr2;refine Ae 10 2047 hp2 hq2 he2 (h.pick [2] Z) Z (Al 11 4095 0 hc3 (h.pick [2] Z) Z (Ao 12 8191 Z (qp qa h Z Z Z fun _ bb2 h=>Ag (h.pick [3] Z) (Ao 13 16383 Z (zs 0 h Z fun _ h=>Ag (h.pick [3] Z) (Ad (X1 7 0 h Z (qh Z F ?_ ?_))))))))<;>intro F
  ·refine qq Z (X0 5 Z ?_);replace h:=h.pick [1,2,3] Z;exact rK ⟨_,_,_,_,_,_,_,_,_,_,_,F,rfl,h⟩ Z
  refine X0 10 Z ?_;obtain⟨o2,F,hK2⟩:=qc F;refine qn (rL (fun m e w'=>∃(i2:Int) (i3:Int),qb2 y2 m i2 i3=V o2∧e=[(1,.pointer (V ⟨bb1,0,U⟩)),(4,.slice p9 x2.length k7),(5,.slice p8 x1.length k6),(6,.int .i64 i1),(7,.pointer (V ⟨bb2,0,U⟩)),(8,.int .i64 i2),(9,.int .i64 i3)]∧SH w w' [Ch.box bb2 (qc2 y2 p11 p12 p13 k9 k10 k11) 251,Ch.own S3 (x1:List Int) [.slice p8 x1.length k6],Ch.own S4 (x2:List Int) [.slice p9 x2.length k7],Ch.box bb1 (qT a_0 p1 p2 p3 p4 p5 k1 k2 k3 k4 k5) 53]) m1 ⟨_,_,F,rfl,h⟩ Z ?_);rintro m2 _ _ ⟨i2,i3,F,rfl,h⟩;rcases m2 with _|m2
  ·cases F
  refine X1 9 0 h Z (qh Z F ?_ ?_)<;>intro F
  ·refine X0 4 Z ?_;obtain⟨KF1,hKF1,_,F,hK3⟩:=bindE F;refine qbe (fun e w'=>∃(b3:Bool),KF1 b3=V o2∧e=[(1,.pointer (V ⟨bb1,0,U⟩)),(4,.slice p9 x2.length k7),(5,.slice p8 x1.length k6),(6,.int .i64 i1),(7,.pointer (V ⟨bb2,0,U⟩)),(8,.int .i64 i2),(9,.int .i64 i3),(52,.bool b3)]∧SH w w' [Ch.box bb2 (qc2 y2 p11 p12 p13 k9 k10 k11) 251,Ch.own S3 (x1:List Int) [.slice p8 x1.length k6],Ch.own S4 (x2:List Int) [.slice p9 x2.length k7],Ch.box bb1 (qT a_0 p1 p2 p3 p4 p5 k1 k2 k3 k4 k5) 53]) ?_ ?_
   ·refine X0 4 Z (qm (t:=44) F Z ?_ ?_)<;>intro F
    ·refine X1 7 0 h Z ?_;obtain⟨_,_,F,he4,_,_,_,_,hp4,hq4,hr4,hc8⟩:=s8.ix F;obtain⟨_,_,_,_,rfl,_,_⟩:=qX hr4;refine zxe hp4 hq4 he4 Z (X0 3 Z (zc 0 (hc8.below h.below) Z (X0 4 Z ?_)));obtain rfl:=qb F;exact rG ⟨_,hK3,rfl,h⟩ Z
    refine X0 9 Z ?_;obtain rfl:=qb F;exact rG ⟨_,hK3,rfl,h⟩ Z
   rintro _ _ ⟨b3,F,rfl,h⟩;subst hKF1;refine qh Z F ?_ ?_<;>intro F
   ·refine X1 4 0 h Z ?_;obtain⟨_,_,F,he3,_,_,_,_,hp3,hq3,hr3,hc7⟩:=s8.ix F;obtain⟨_,_,_,_,rfl,_,_⟩:=qX hr3;exact zxe hp3 hq3 he3 Z (zp1 Z (zc 1 (hc7.below h.below) Z (X0 8 Z (rK ⟨_,_,F,rfl,h⟩ Z))))
   exact X0 7 Z (rK ⟨_,_,F,rfl,h⟩ Z)
  refine qq Z ?_;obtain rfl:=qb F;replace F:=hK2;refine X0 4 Z (qK qa [.tmp 60] _ ([i1]:List Int) h Z Z Z Z Z Z Z Z Z ⟨rfl,trivial⟩ Z fun _ _ _ h=>?_);obtain⟨_,hx1,F⟩:=qc F;obtain⟨g1,hx1⟩:=qan hx1;refine qbW qa 3 h Z (h.sl 0 Z).1 (h.sl 0 Z).2 Z Z Z Z Z Z Z Z Z g1 hx1 Z fun _ _ _ _ h=>X0 5 Z (qK qa [.tmp 64] _ ([i2]:List Int) h Z Z Z Z Z Z Z Z Z ⟨rfl,trivial⟩ Z fun _ _ _ h=>?_);obtain⟨_,hx2,F⟩:=qc F;obtain⟨g2,hx2⟩:=qan hx2;refine qbW qa 3 h Z (h.sl 0 Z).1 (h.sl 0 Z).2 Z Z Z Z Z Z Z Z Z g2 hx2 Z fun _ _ _ _ h=>X0 8 Z ?_;replace h:=h.pick [3,4,5] Z;exact rK ⟨_,_,_,_,_,_,_,_,_,_,_,F,rfl,h⟩ Z
 refine qq Z ?_;obtain rfl:=qb F;replace F:=hK1;refine X0 7 Z ?_;obtain rfl:=qb F;exact qae qa (ρ:=((List Int)×(List Int))) [GoT.v (List Int) [.slice p9 x2.length k7],GoT.v (List Int) [.slice p8 x1.length k6]] h ⟨rfl,rfl,trivial⟩ (PV.done h (qap h (qaA 1 h Z) (qaj (qaA 0 h Z)) (by rfl)))
def qda (b:qd)(links:(List qt))(r2:(List Tl05Place)):Nat→(List Bool)→Int→Option ((List Bool)×Int)
 | 0,_,_=>U
 | n+1,x1,i1=>
  bif decide (i1<(links.length:Int)) then
   (idx links i1).bind fun y1=>
   bif (y1.Aq != 1) then qda b links r2 n x1 (W64 (i1+1)) else
   (idx links i1).bind fun y2=>
   (idx r2 (W64 (y2.To.tdiv 2))).bind fun y3=>
   (idx b.Aa.Ab y3.instance_).bind fun y4=>
   (idx b.Ap.Am y4.Bp).bind fun y5=>
   (idx x1 i1).bind fun y6=>
   bif y6 then
    (idx x1 i1).bind fun _=>
    qda b links r2 n (setS x1 i1 (y5.Aq != 3)) (W64 (i1+1))
   else
    (idx x1 i1).bind fun _=>
    qda b links r2 n (setS x1 i1 false) (W64 (i1+1))
  else
   V (x1,i1)
def qkn (n:Nat)(b:qd)(links:(List qt))(broken:(List Int)):Option (List Bool):=
 (qkp n links broken).bind fun r1=>
 (qbH n (⟨b.Aa.Ab,b.Aa.Ah,b.Aa.Af⟩:qe)).bind fun r2=>
 (qda b links r2 n r1 0).bind fun o=>match o with
 | (x1,_)=>
  V x1
theorem qqe {b:qd}{links:(List qt)}{broken:(List Int)}(ha1:Ro w b cs1)(ha2:Ro w links cs2)(ha3:Ro w broken cs3){r:(List Bool)}(F:qkn n b links broken=V r):RetV prog 94 [GoT.v qd cs1,GoT.v (List qt) cs2,GoT.v (List Int) cs3] w r:=by
 obtain⟨p1,k1,p2,k2,p3,k3,p4,k4,p5,k5,rfl,s1,s2,s3,s4,_⟩:=qM ha1;obtain⟨p6,k6,rfl,s6⟩:=ha2;obtain⟨_,_,rfl,s7⟩:=ha3;refine zV 63 func94 Z fun h=>zSR (qx h Z Z fun _ bb1 h=>X0 6 Z (zcL h F (qqk ⟨_,_,rfl,(h.oldS s6)⟩ ⟨_,_,rfl,(h.oldS s7)⟩) Z fun r1 _ S1 p8 k8 h F=>X1 6 1 h Z (zcL h F (qbz (qao _ (h.oldS s2) (h.oldS s3) (h.oldS s4))) Z fun r2 _ S2 p9 k9 h F=>X0 7 Z ?_)));obtain⟨o1,F,hK1⟩:=qc F;refine qn (rL (fun m e w'=>∃(x1:(List Bool)) (i1:Int),qda b links r2 m x1 i1=V o1∧e=[(1,.slice p6 links.length k6),(3,.pointer (V ⟨bb1,0,U⟩)),(7,.slice p8 r1.length k8),(8,.slice p9 r2.length k9),(9,.int .i64 i1)]∧SH w w' [Ch.own S2 (r2:List Tl05Place) [.slice p9 r2.length k9],Ch.own S1 (x1:List Bool) [.slice p8 r1.length k8],Ch.box bb1 (qT b p1 p2 p3 p4 p5 k1 k2 k3 k4 k5) 53]) n ⟨_,_,F,rfl,h⟩ Z ?_);rintro m1 _ _ ⟨x1,i1,F,rfl,h⟩;rcases m1 with _|m1
 ·cases F
 refine X0 8 Z (qh Z F ?_ ?_)<;>intro F
 ·refine X0 8 Z ?_;obtain⟨_,_,F,he1,_,_,_,_,hp1,hq1,hr3,hc2⟩:=s6.ix F;obtain rfl:=qav hr3;refine zxe hp1 hq1 he1 Z (zp1 Z (zc 2 (hc2.below h.below) Z (X0 2 Z (qh Z F ?_ ?_))))<;>intro F
  ·exact qq Z (X0 5 Z (rK ⟨_,_,F,rfl,h⟩ Z))
  refine zKS (rA [] [0,2] h Z fun _ h=>M2 511 [0,1,2,3,4,5,6,7,8] 1 1 (h.pick [0,2] Z) Z ?_);obtain⟨_,_,F,he2,_,_,_,_,hp2,hq2,hr4,hc4⟩:=s6.ix F;obtain rfl:=qav hr4;refine Ae 9 1023 hp2 hq2 he2 (h.pick [0,2] Z) Z (M0 2047 [10] (h.pick [0,2] Z) Z (Al 11 4095 1 hc4 (h.pick [0,2] Z) Z (M0 8191 [12] (h.pick [0,2] Z) Z ?_)));obtain⟨y3,hy3,F,he3,_,_,_,_,hp3,hq3,hr5,_⟩:=(h.sl 0 Z).1.ix F;obtain rfl:=qbp hr5;refine Ax 13 16383 hp3 hq3 ⟨he3.1,qC he3.2.1 (h.sl 0 Z).2⟩ (h.pick [0,2] Z) Z (M0 32767 [14] (h.pick [0,2] Z) Z (Aw 15 65535 (fun w' hw=>qhX qa (qbY hw 0 Z hy3 hp3 hq3 (qet (w:=w) (S:=fun _=>False) y3)) (j:=0) Z Z Z) (h.pick [0,2] Z) Z ?_));obtain⟨_,_,F,he4,_,_,_,_,hp4,hq4,hr6,hc6⟩:=s2.ix F;obtain⟨_,_,rfl,_⟩:=qF hr6;refine Ae 16 131071 hp4 hq4 he4 (h.pick [0,2] Z) Z (M0 262143 [17] (h.pick [0,2] Z) Z (Al 18 524287 1 hc6 (h.pick [0,2] Z) Z ?_));obtain⟨y5,_,F,he5,_,_,_,_,hp5,hq5,hr7,hc7⟩:=s1.ix F;obtain⟨_,_,_,_,_,_,rfl,_,_,_⟩:=qO hr7;refine Ae 19 1048575 hp5 hq5 he5 (h.pick [0,2] Z) Z (Al 20 2097151 0 hc7 (h.pick [0,2] Z) Z (Ao 21 4194303 Z (qp qa h Z Z Z fun _ _ h=>Ag (h.pick [1,3] Z) (Ao 22 8388607 Z (zs 0 h Z fun _ h=>Ag (h.pick [1,3] Z) (Ad (X0 5 Z ?_)))))));obtain⟨_,_,F,he6,_,_,_,_,hp6,hq6,rfl,hc8⟩:=(h.sl 2 Z).1.ix F;refine zx hp6 hq6 ⟨he6.1,qC he6.2.1 (h.sl 2 Z).2⟩ Z (zc 0 hc8 Z (zp1 Z (qm (t:=56) F Z ?_ ?_)))<;>intro F
  ·refine X1 7 0 h Z ?_;obtain⟨_,hy7,F,he7,_,_,_,_,hp7,hq7,rfl,hc9⟩:=(h.sl 2 Z).1.ix F;refine zx hp7 hq7 ⟨he7.1,qC he7.2.1 (h.sl 2 Z).2⟩ Z (qay qa 2 0 (y5.Aq != 3) h Z hy7 hp7 hq7 Z hc9 Z Z Z Z Z Z Z fun _ h=>X0 7 Z ?_);replace h:=h.pick [1,2,3] Z;exact rK ⟨_,_,F,rfl,h⟩ Z
  refine X0 4 Z ?_;obtain⟨_,hy8,F,he8,_,_,_,_,hp8,hq8,rfl,hc10⟩:=(h.sl 2 Z).1.ix F;refine zx hp8 hq8 ⟨he8.1,qC he8.2.1 (h.sl 2 Z).2⟩ Z (qay qa 2 0 false h Z hy8 hp8 hq8 Z hc10 Z Z Z Z Z Z Z fun _ h=>X0 7 Z ?_);replace h:=h.pick [1,2,3] Z;exact rK ⟨_,_,F,rfl,h⟩ Z
 refine qq Z ?_;obtain rfl:=qb F;replace F:=hK1;refine X0 5 Z ?_;obtain rfl:=qb F;exact rO 1 h Z ⟨rfl,trivial⟩
def qgJ (t:qB)(r1:Int):Nat→Int→Int→Option (Int×Int)
 | 0,_,_=>U
 | n+1,i1,i2=>
  bif decide (i2<2) then
   (idx t.Bb (W64 ((W64 (2*r1))+i2))).bind fun y1=>
   bif y1 then
    (idx t.Ai (W64 ((W64 (2*r1))+i2))).bind fun y2=>
    qgJ t r1 n (if y2.Ay > (if 0 > i1 then 0 else i1) then y2.Ay else(if 0 > i1 then 0 else i1)) (W64 (i2+1))
   else
    qgJ t r1 n i1 (W64 (i2+1))
  else
   V (i1,i2)
def qki (n:Nat)(b:qd)(t:qB)(latch:Int)(pin:Int):Option Int:=
 (qgn n (⟨b.Aa.Ab,b.Aa.Ah,b.Aa.Af⟩:qe) latch pin).bind fun r1=>
 (qgJ t r1 n (-1) 0).bind fun o=>match o with
 | (i1,_)=>
  V i1
theorem qp8 {b:qd}{t:qB}{latch:Int}{pin:Int}(ha1:Ro w b cs1)(ha2:Ro w t cs2){r:Int}(F:qki n b t latch pin=V r):RetV prog 99 [GoT.v qd cs1,GoT.v qB cs2,.int .i64 latch,.int .i64 pin] w r:=by
 obtain⟨_,_,_,_,_,_,_,_,_,_,rfl,_,s2,s3,s4,_⟩:=qM ha1;obtain⟨p6,k6,p7,k7,p8,k8,rfl,s6,s7,_⟩:=qfi ha2;refine zV 40 func99 Z fun h=>zSR (qx h Z Z fun _ _ h=>qx h Z Z fun _ bb2 h=>X1 8 1 h Z (zcI h F (qii (qao _ (h.oldS s2) (h.oldS s3) (h.oldS s4))) Z fun r1 _ h F=>X0 12 Z ?_));obtain⟨o1,F,hK1⟩:=qc F;refine qn ?_;replace h:=h.pick [0] Z;refine rL (fun m e w'=>∃(i1:Int) (i2:Int),qgJ t r1 m i1 i2=V o1∧e=[(5,.pointer (V ⟨bb2,0,U⟩)),(9,.int .i64 (W64 (2*r1))),(10,.int .i64 i1),(11,.int .i64 i2)]∧SH w w' [Ch.box bb2 (qbd t p6 p7 p8 k6 k7 k8) 57]) n ⟨_,_,F,rfl,h⟩ Z ?_;rintro m1 _ _ ⟨i1,i2,F,rfl,h⟩;rcases m1 with _|m1
 ·cases F
 refine X0 6 Z (qh Z F ?_ ?_)<;>intro F
 ·refine X1 10 0 h Z ?_;obtain⟨_,_,F,he1,_,_,_,_,hp1,hq1,rfl,hc2⟩:=s6.ix F;refine zxe hp1 hq1 he1 Z (zc 0 (hc2.below h.below) Z (qcP (qh Z F ?_ ?_)))<;>intro F
  ·refine X1 7 0 h Z ?_;obtain⟨_,_,F,he2,_,_,_,_,hp2,hq2,hr3,hc4⟩:=s7.ix F;obtain rfl:=qD hr3;exact zxe hp2 hq2 he2 Z (zp1 Z (zc 1 (hc4.below h.below) Z (X0 9 Z (rK ⟨_,_,F,rfl,h⟩ Z))))
  exact X0 7 Z (rK ⟨_,_,F,rfl,h⟩ Z)
 refine qq Z ?_;obtain rfl:=qb F;replace F:=hK1;exact X0 5 Z (ri h F Z)
def qcy (a_0:qd)(a_1:qy)(a_2:(List qt))(a_3:Int)(r1:(List Tl05Place))(i1:Int):Nat→Int→Int→Option (Int×Int)
 | 0,_,_=>U
 | n+1,i2,i3=>
  bif decide (i3<(a_2.length:Int)) then
   (
    (idx a_2 i3).bind fun y5=>
    bif (y5.Aq==1) then
     (idx a_2 i3).bind fun y6=>
     (idx r1 (W64 (y6.To.tdiv 2))).bind fun y7=>
     bif (y7.instance_==a_3) then
      (idx a_2 i3).bind fun y8=>
      V (y8.Bw==i1)
     else
      V false
    else
     V false).bind fun b4=>
   bif b4 then
    (idx a_2 i3).bind fun y4=>
    (qca n a_0 a_1 y4 0 1).bind fun r2=>
    qcy a_0 a_1 a_2 a_3 r1 i1 n (if r2 > i2 then r2 else i2) (W64 (i3+1))
   else
    qcy a_0 a_1 a_2 a_3 r1 i1 n i2 (W64 (i3+1))
  else
   V (i2,i3)
def qcz (y2:qv):Nat→Int→Option Int
 | 0,_=>U
 | n+1,i1=>
  (idx y2.Ak i1).bind fun y3=>
  bif (y3.Aq != 1) then qcz y2 n (W64 (i1+1)) else
  V i1
def qid (n:Nat)(a_0:qd)(a_1:qy)(a_2:(List qt))(a_3:Int):Option Int:=
 (qbH n (⟨a_0.Aa.Ab,a_0.Aa.Ah,a_0.Aa.Af⟩:qe)).bind fun r1=>
 (idx a_0.Aa.Ab a_3).bind fun y1=>
 (idx a_0.Ap.Am y1.Bp).bind fun y2=>
 (qcz y2 n 0).bind fun i1=>
 (qcy a_0 a_1 a_2 a_3 r1 i1 n 0 0).bind fun o=>match o with
 | (i2,_)=>
  V i2
theorem qoj {a_0:qd}{a_1:qy}{a_2:(List qt)}{a_3:Int}(ha1:Ro w a_0 cs1)(ha2:Ro w a_1 cs2)(ha3:Ro w a_2 cs3){r:Int}(F:qid n a_0 a_1 a_2 a_3=V r):RetV prog 100 [GoT.v qd cs1,GoT.v qy cs2,GoT.v (List qt) cs3,.int .i64 a_3] w r:=by
 obtain⟨p1,k1,p2,k2,p3,k3,p4,k4,p5,k5,rfl,s1,s2,s3,s4,_⟩:=qM ha1;obtain rfl:=qag ha2;obtain⟨p6,k6,rfl,s6⟩:=ha3;refine zV 83 func100 Z fun h=>zSR (qx h Z Z fun _ bb1 h=>qx h Z Z fun _ bb2 h=>X1 6 1 h Z (zcL h F (qbz (qao _ (h.oldS s2) (h.oldS s3) (h.oldS s4))) Z fun r1 _ S1 p7 k7 h F=>X0 3 Z (rD (Y1 3 2 h Z ?_))));refine Y1 3 2 h Z ?_;refine zd1 Z ?_;obtain⟨_,_,F,he1,_,_,_,_,hp1,hq1,hr2,hc1⟩:=s2.ix F;obtain⟨_,_,rfl,_⟩:=qF hr2;refine zdxe hp1 hq1 he1 Z (zd1 Z (zdc 1 (hc1.below h.below) Z ?_));obtain⟨y2,_,F,he2,_,_,_,_,hp2,hq2,hr3,hc2⟩:=s1.ix F;obtain⟨_,_,p10,k10,_,_,rfl,_,s9,_⟩:=qO hr3;refine zdxe hp2 hq2 he2 Z (zd1 Z (zdc 3 (hc2.below h.below) Z (zd1 Z (dN h fun _ h=>X0 5 Z ?_))));obtain⟨o1,F,hK1⟩:=qc F;refine qn (rL (fun m e w'=>∃(i1:Int),qcz y2 m i1=V o1∧e=[(2,.slice p6 a_2.length k6),(3,.int .i64 a_3),(4,.pointer (V ⟨bb1,0,U⟩)),(5,.pointer (V ⟨bb2,0,U⟩)),(9,.slice p7 r1.length k7),(10,.slice p10 y2.Ak.length k10),(11,.int .i64 i1)]∧SH w w' [Ch.own S1 (r1:List Tl05Place) [.slice p7 r1.length k7],Ch.box bb2 (qad a_1) 77,Ch.box bb1 (qT a_0 p1 p2 p3 p4 p5 k1 k2 k3 k4 k5) 53]) n ⟨_,F,rfl,h⟩ Z ?_);rintro m1 _ _ ⟨i1,F,rfl,h⟩;rcases m1 with _|m1
 ·cases F
 refine X0 5 Z ?_;obtain⟨_,_,F,he3,_,_,_,_,hp3,hq3,hr4,hc3⟩:=s9.ix F;obtain⟨_,_,_,_,rfl,_,_⟩:=qX hr4;refine zxe hp3 hq3 he3 Z (zp1 Z (zc 0 (hc3.below h.below) Z (X0 2 Z (qh Z F ?_ ?_))))<;>intro F
 ·exact X0 8 Z (rK ⟨_,F,rfl,h⟩ Z)
 refine qq Z ?_;obtain rfl:=qb F;replace F:=hK1;refine X0 9 Z ?_;obtain⟨o2,F,hK2⟩:=qc F;refine qn (rL (fun m e w'=>∃(i2:Int) (i3:Int),qcy a_0 a_1 a_2 a_3 r1 i1 m i2 i3=V o2∧e=[(2,.slice p6 a_2.length k6),(3,.int .i64 a_3),(4,.pointer (V ⟨bb1,0,U⟩)),(5,.pointer (V ⟨bb2,0,U⟩)),(9,.slice p7 r1.length k7),(11,.int .i64 i1),(12,.int .i64 i2),(13,.int .i64 i3)]∧SH w w' [Ch.own S1 (r1:List Tl05Place) [.slice p7 r1.length k7],Ch.box bb2 (qad a_1) 77,Ch.box bb1 (qT a_0 p1 p2 p3 p4 p5 k1 k2 k3 k4 k5) 53]) n ⟨_,_,F,rfl,h⟩ Z ?_);rintro m2 _ _ ⟨i2,i3,F,rfl,h⟩;rcases m2 with _|m2
 ·cases F
 refine X0 8 Z (qh Z F ?_ ?_)<;>intro F
 ·refine X0 4 Z ?_;obtain⟨KF1,hKF1,_,F,hK3⟩:=bindE F;refine qbe (fun e w'=>∃(b4:Bool),KF1 b4=V o2∧e=[(2,.slice p6 a_2.length k6),(3,.int .i64 a_3),(4,.pointer (V ⟨bb1,0,U⟩)),(5,.pointer (V ⟨bb2,0,U⟩)),(9,.slice p7 r1.length k7),(11,.int .i64 i1),(12,.int .i64 i2),(13,.int .i64 i3),(72,.bool b4)]∧SH w w' [Ch.own S1 (r1:List Tl05Place) [.slice p7 r1.length k7],Ch.box bb2 (qad a_1) 77,Ch.box bb1 (qT a_0 p1 p2 p3 p4 p5 k1 k2 k3 k4 k5) 53]) ?_ ?_
  ·refine X0 3 Z ?_;obtain⟨_,_,F,he5,_,_,_,_,hp5,hq5,hr7,hc8⟩:=s6.ix F;obtain rfl:=qav hr7;refine zxe hp5 hq5 he5 Z (zp1 Z (zc 2 (hc8.below h.below) Z (zp2 Z (qm (t:=50) F Z ?_ ?_))))<;>intro F
   ·refine X0 7 Z ?_;obtain⟨_,_,F,he6,_,_,_,_,hp6,hq6,hr8,hc9⟩:=s6.ix F;obtain rfl:=qav hr8;refine zxe hp6 hq6 he6 Z (X0 3 Z (zc 1 (hc9.below h.below) Z (X0 3 Z ?_)));obtain⟨_,_,F,he7,_,_,_,_,hp7,hq7,hr9,hc10⟩:=(h.sl 0 Z).1.ix F;obtain rfl:=qbp hr9;refine zx hp7 hq7 ⟨he7.1,qC he7.2.1 (h.sl 0 Z).2⟩ Z (X0 3 Z (zc 0 hc10 Z (X0 6 Z (qm (t:=64) F Z ?_ ?_))))<;>intro F
    ·refine X0 5 Z ?_;obtain⟨_,_,F,he8,_,_,_,_,hp8,hq8,hr10,hc11⟩:=s6.ix F;obtain rfl:=qav hr10;refine zxe hp8 hq8 he8 Z (X0 3 Z (zc 3 (hc11.below h.below) Z (X0 6 Z ?_)));obtain rfl:=qb F;exact rG ⟨_,hK3,rfl,h⟩ Z
    refine X0 9 Z ?_;obtain rfl:=qb F;exact rG ⟨_,hK3,rfl,h⟩ Z
   refine X0 23 Z ?_;obtain rfl:=qb F;exact rG ⟨_,hK3,rfl,h⟩ Z
  rintro _ _ ⟨b4,F,rfl,h⟩;subst hKF1;refine qh Z F ?_ ?_<;>intro F
  ·refine rD (Y1 2 2 h Z ?_);refine Y1 1 1 h Z ?_;refine zd2 Z ?_;obtain⟨y4,_,F,he4,_,_,_,_,hp4,hq4,hr5,hc7⟩:=s6.ix F;obtain rfl:=qav hr5;refine zdxe hp4 hq4 he4 Z (zdc 0 (hc7.below h.below) Z ?_);obtain⟨r2,hr6,F⟩:=qc F;exact qbJ r2 (vsI _) (cB 173 Z) (fun _ hb=>qcD ((h.ext hb).old ha1) ((h.ext hb).old ha2) (qcf y4) hr6) Z Z Z Z (zd2 Z (dN h fun _ h=>X0 6 Z (rK ⟨_,_,F,rfl,h⟩ Z)))
  exact X0 7 Z (rK ⟨_,_,F,rfl,h⟩ Z)
 refine qq Z ?_;obtain rfl:=qb F;replace F:=hK2;exact X0 5 Z (ri h F Z)
end Go.Fw
