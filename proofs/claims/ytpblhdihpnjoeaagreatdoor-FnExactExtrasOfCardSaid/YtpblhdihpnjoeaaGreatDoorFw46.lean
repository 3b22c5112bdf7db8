/- By a program of mine (gen.py): for each function a plain function and the proof that the code computes it. -/
import Derived.Test.YtpblhdihpnjoeaaGreatDoorD2
import Derived.Test.YtpblhdihpnjoeaaGreatDoorFw38
import Derived.Test.YtpblhdihpnjoeaaGreatDoorA2
open Option renaming bind_some → jd
open Nat renaming le_refl → je, mul_le_mul_right → jo, le_of_ble_eq_true → jr, succ_mul → jx, lt_of_lt_of_le → jB, zero_add → jI
open Bool renaming and_eq_true → jf, eq_iff_iff → jh, true_and → jt, not_eq_true' → jw
open Go.Result renaming andThen_ok → jg
open List renaming getElem?_eq_getElem → ji, length_append → jm, mem_cons_of_mem → jn, getElem?_append_left → jp, getElem_mem → jq, mem_cons_self → js, getElem?_append_right → ju, getElem?_toArray → jv, all_eq_true → jy, eq_nil_of_length_eq_zero → jA, getElem?_take → jC, getD_eq_getElem?_getD → jD, drop_eq_getElem_cons → jE, getElem_of_mem → jF, append_assoc → jG, map_append → jH
open Go.Sem renaming run_bind → jj, run_pure → jk
open Int renaming toNat_natCast → jz

namespace Go.Fw
open Go Go.Proofs
open Go.RowKit (Below)
set_option maxRecDepth 100000
set_option maxHeartbeats 1600000
variable {n:Nat} {w:World} {cs1 cs2 cs3 cs4 cs5 cs6 cs7 cs8 cs9:List Value}
def qax (a_0:qp) (a_1:(List qb)):Nat→Int→Option (Flow Bool Int)
 | 0,_=>none
 | n+1,i1 =>
  bif decide (i1<(a_1.length:Int)) then
   (idx a_1 i1).bind fun y1 =>
   (
    (qP n y1.A 0 (W64 ((a_0.Ab.Ac.length:Int)-1))).bind fun r1 =>
    bif (!r1) then some true else
    (qP n y1.B (W64 (y1.A+1)) (W64 ((a_0.Ab.Ac.length:Int)-1))).bind fun r2 =>
    bif (!r2) then some true else
    (qP n y1.Bd 1 10000).bind fun r3 =>
    some (!r3)).bind fun b2 =>
   bif b2 then some (.ret false) else
   bif decide (i1 > 0) then
    (idx a_1 (W64 (i1-1))).bind fun y2 =>
    bif decide (y2.A > y1.A) then some (.ret false) else
    (idx a_1 (W64 (i1-1))).bind fun y3 =>
    bif (y3.A==y1.A) then
     (idx a_1 (W64 (i1-1))).bind fun y4 =>
     bif decide (y4.B ≥ y1.B) then some (.ret false) else
     qax a_0 a_1 n (W64 (i1+1))
    else
     qax a_0 a_1 n (W64 (i1+1))
   else
    qax a_0 a_1 n (W64 (i1+1))
  else
   some (.nxt i1)
def qdT (n:Nat) (a_0:qp) (a_1:(List qb)):Option Bool :=
 (qax a_0 a_1 n 0).bind fun o=>match o with
 | .ret r=>some r
 | .nxt _ =>
  some (decide ((a_1.length:Int)≤20))
theorem qhU {a_0:qp} {a_1:(List qb)} (ha1:GoT.R w (old w) a_0 cs1) (ha2:GoT.R w (old w) a_1 cs2) {r:Bool} (hF:qdT n a_0 a_1=some r):RetV Tryz.prog 52 [GoT.v qp cs1,GoT.v (List qb) cs2] w r:=by
 obtain ⟨p1,k1,p2,k2,p3,k3,p4,k4,p5,k5,rfl,s1,s2,s3,s4,s5⟩:=qay ha1
 obtain ⟨p6,k6,rfl,s6⟩:=ha2
 refine zV 83 Tryz.func52 rfl fun h=>zSR (qy h rfl rfl fun w1 bb1 h=>X1 15 0 h rfl ?_)
 obtain ⟨o1,hF,hK1⟩:=qf hF
 refine qm ?_
 replace h:=h.pick [] rfl
 refine rL (fun m e w'=>∃ (i1:Int),qax a_0 a_1 m i1=some o1∧e=[(1,.slice p6 a_1.length k6),(5,.int .i64 (a_0.Ab.Ac.length:Int)),(6,.int .i64 i1)]∧SH w w' []) n ⟨_,hF,rfl,h⟩ rfl ?_
 rintro m1 e1 w2 ⟨i1,hF,rfl,h⟩
 rcases m1 with _|m1
 ·cases hF
 refine X0 8 rfl (qh rfl hF ?_ ?_)<;>intro hF
 ·refine X0 7 rfl ?_
  obtain ⟨y1,hy1,hF,he1,b1,_,q1,cs3,hp1,hq1,hr1,hc2⟩:=s6.ix hF
  obtain rfl:=qC hr1
  refine zxe hp1 hq1 he1 rfl (zc 0 (hc2.below h.below) rfl (qM qe h rfl rfl rfl fun w3 bb2 h=>zs 0 h rfl fun w4 h=>zNSS ?_))
  obtain ⟨KF1,hKF1,o2,hF,hK2⟩:=bindE hF
  refine qcw (fun e w'=>∃ (b2:Bool),KF1 b2=some o1∧e=[(1,.slice p6 a_1.length k6),(5,.int .i64 (a_0.Ab.Ac.length:Int)),(6,.int .i64 i1),(7,.pointer (some ⟨bb2,0,none⟩)),(44,.bool b2)]∧SH w w' [Ch.box bb2 (qfK y1) 116]) ?_ ?_
  ·refine X1 5 0 h rfl (zcB h hF qH rfl fun r1 w9 h hF=>zp2 rfl (qg (t:=28) hF rfl ?_ ?_))<;>intro hF
   ·refine X0 17 rfl ?_
    obtain rfl:=qa hF
    exact rG ⟨_,hK2,rfl,h⟩ rfl
   refine X2 15 0 0 h rfl (zcB h hF qH rfl fun r2 w10 h hF=>X0 4 rfl (qg (t:=39) hF rfl ?_ ?_))<;>intro hF
   ·refine X0 6 rfl ?_
    obtain rfl:=qa hF
    exact rG ⟨_,hK2,rfl,h⟩ rfl
   refine X1 5 0 h rfl (zcB h hF qH rfl fun r3 w11 h hF=>X0 4 rfl ?_)
   obtain rfl:=qa hF
   exact rG ⟨_,hK2,rfl,h⟩ rfl
  rintro e2 w12 ⟨b2,hF,rfl,h⟩
  subst hKF1
  refine qh rfl hF ?_ ?_<;>intro hF
  ·refine X0 4 rfl ?_
   obtain rfl:=qa hF;replace hF:=hK1
   exact rb h hF rfl
  refine zKS (rD (zd3 rfl (qaH (t:=47) hF rfl ?_ ?_)))<;>intro hF
  ·refine Y0 7 rfl ?_
   obtain ⟨y2,hy2,hF,he2,b3,_,q2,cs4,hp2,hq2,hr2,hc4⟩:=s6.ix hF
   obtain rfl:=qC hr2
   refine zdxe hp2 hq2 he2 rfl (Y0 3 rfl (zdc 0 (hc4.below h.below) rfl (Y1 4 0 h rfl ?_)))
   refine Y0 4 rfl (qaH (t:=57) hF rfl ?_ ?_)<;>intro hF
   ·refine Y0 23 rfl (dN h fun w5 h=>qdv rfl rfl (X0 4 rfl ?_))
    obtain rfl:=qa hF;replace hF:=hK1
    exact rb h hF rfl
   refine Y0 7 rfl ?_
   obtain ⟨y3,hy3,hF,he3,b4,_,q3,cs5,hp3,hq3,hr3,hc5⟩:=s6.ix hF
   obtain rfl:=qC hr3
   refine zdxe hp3 hq3 he3 rfl (Y0 3 rfl (zdc 0 (hc5.below h.below) rfl (Y1 4 0 h rfl ?_)))
   refine Y0 4 rfl (qaH (t:=67) hF rfl ?_ ?_)<;>intro hF
   ·refine Y0 7 rfl ?_
    obtain ⟨y4,hy4,hF,he4,b5,_,q4,cs6,hp4,hq4,hr4,hc6⟩:=s6.ix hF
    obtain rfl:=qC hr4
    refine zdxe hp4 hq4 he4 rfl (Y0 3 rfl (zdc 1 (hc6.below h.below) rfl (Y1 4 0 h rfl ?_)))
    refine Y0 7 rfl (dN h fun w6 h=>qh rfl hF ?_ ?_)<;>intro hF
    ·refine X0 4 rfl ?_
     obtain rfl:=qa hF;replace hF:=hK1
     exact rb h hF rfl
    refine X0 7 rfl ?_
    replace h:=h.pick [] rfl
    exact rK ⟨_,hF,rfl,h⟩ rfl
   refine Y0 14 rfl (dN h fun w7 h=>qej rfl rfl (X0 7 rfl ?_))
   replace h:=h.pick [] rfl
   exact rK ⟨_,hF,rfl,h⟩ rfl
  refine Y0 32 rfl (dN h fun w8 h=>qej rfl rfl (X0 7 rfl ?_))
  replace h:=h.pick [] rfl
  exact rK ⟨_,hF,rfl,h⟩ rfl
 refine qq rfl ?_
 obtain rfl:=qa hF;replace hF:=hK1
 exact X0 7 rfl (rb h hF rfl)
def qes (vals:(List Int)):Nat→Int→Option (Flow Int Int)
 | 0,_=>none
 | n+1,i1 =>
  bif decide (i1<(vals.length:Int)) then
   (idx vals i1).bind fun y1 =>
   bif (y1 != 0) then some (.ret y1) else
   qes vals n (W64 (i1+1))
  else
   some (.nxt i1)
def qhv (n:Nat) (vals:(List Int)):Option Int :=
 (qes vals n 0).bind fun o=>match o with
 | .ret r=>some r
 | .nxt _ =>
  some 0
theorem qlf {vals:(List Int)} (ha1:GoT.R w (old w) vals cs1) {r:Int} (hF:qhv n vals=some r):RetV Tryz.prog 142 [GoT.v (List Int) cs1] w r:=by
 obtain ⟨p1,k1,rfl,s1⟩:=ha1
 refine zV 18 Tryz.func142 rfl fun h=>X0 15 rfl ?_
 obtain ⟨o1,hF,hK1⟩:=qf hF
 refine qm (rL (fun m e w'=>∃ (i1:Int),qes vals m i1=some o1∧e=[(3,.int .i64 0),(6,.slice p1 vals.length k1),(7,.int .i64 (vals.length:Int)),(8,.int .i64 i1)]∧SH w w' []) n ⟨_,hF,rfl,h⟩ rfl ?_)
 rintro m1 e1 w1 ⟨i1,hF,rfl,h⟩
 rcases m1 with _|m1
 ·cases hF
 refine X0 5 rfl (qh rfl hF ?_ ?_)<;>intro hF
 ·refine zKSBSR ?_
  obtain ⟨y1,hy1,hF,he1,b1,_,q1,cs2,hp1,hq1,rfl,hc2⟩:=s1.ix hF
  refine zxe hp1 hq1 he1 rfl (zc 0 (hc2.below h.below) rfl (X0 8 rfl (qh rfl hF ?_ ?_)))<;>intro hF
  ·refine X0 5 rfl ?_
   obtain rfl:=qa hF;replace hF:=hK1
   exact ri h hF rfl
  exact X0 6 rfl (rK ⟨_,hF,rfl,h⟩ rfl)
 refine qq rfl ?_
 obtain rfl:=qa hF;replace hF:=hK1
 exact X0 5 rfl (ri h hF rfl)
def qeF (_:Nat) (x:Int):Option Bool :=
 some (x != x)
theorem qgr {x:Int}  {r:Bool} (hF:qeF n x=some r):RetV Tryz.prog 220 [.int .i64 x] w r:=by
 exact zV 6 Tryz.func220 rfl fun h=>X0 11 rfl (rb h hF rfl)
def qcX (n:Nat) (x:Int) (y:Int):Option Int :=
 (qeF n x).bind fun r1 =>
 (qeF n y).bind fun r2 =>
 bif r1 then
  bif r2 then some 0 else
  some (-1)
 else
  bif r2 then some 1 else
  bif decide (x<y) then some (-1) else
  bif decide (x > y) then some 1 else
  some 0
theorem qfD {x:Int} {y:Int}  {r:Int} (hF:qcX n x y=some r):RetV Tryz.prog 143 [.int .i64 x,.int .i64 y] w r:=by
 refine zV 20 Tryz.func143 rfl fun h=>X0 7 rfl (zcB h hF qgr rfl fun r1 w1 h hF=>X0 5 rfl (zcB h hF qgr rfl fun r2 w2 h hF=>X0 7 rfl (qh rfl hF ?_ ?_)))<;>intro hF
 ·refine X0 5 rfl (qh rfl hF ?_ ?_)<;>intro hF
  ·exact X0 4 rfl (ri h hF rfl)
  exact X0 5 rfl (ri h hF rfl)
 refine X0 6 rfl (qh rfl hF ?_ ?_)<;>intro hF
 ·exact X0 4 rfl (ri h hF rfl)
 refine X0 8 rfl (qh rfl hF ?_ ?_)<;>intro hF
 ·exact X0 4 rfl (ri h hF rfl)
 refine X0 8 rfl (qh rfl hF ?_ ?_)<;>intro hF
 ·exact X0 4 rfl (ri h hF rfl)
 exact X0 5 rfl (ri h hF rfl)
def qV (a_0:qp) (a_1:(List qb)):Nat→Int→Option (Flow Bool Int)
 | 0,_=>none
 | n+1,i1 =>
  bif decide (i1<(a_1.length:Int)) then
   (idx a_1 i1).bind fun y1 =>
   (
    (qaV n (⟨a_0.Ab.Aa,a_0.Ab.Ac,a_0.Ab.Af⟩:qd) y1.A).bind fun r4 =>
    bif (!r4) then some true else
    (qaV n (⟨a_0.Ab.Aa,a_0.Ab.Ac,a_0.Ab.Af⟩:qd) y1.B).bind fun r5 =>
    bif (!r5) then some true else
    bif decide (y1.A ≥ y1.B) then some true else
    (qal n y1.Bd 1 10000).bind fun r6 =>
    some (!r6)).bind fun b2 =>
   bif b2 then some (.ret false) else
   bif decide (i1 > 0) then
    (idx a_1 (W64 (i1-1))).bind fun y2 =>
    (idx a_1 (W64 (i1-1))).bind fun y3 =>
    (qcX n y2.A y1.A).bind fun r1 =>
    (qcX n y3.B y1.B).bind fun r2 =>
    (qhv n ([r1,r2]:List Int)).bind fun r3 =>
    bif decide (r3 ≥ 0) then some (.ret false) else
    qV a_0 a_1 n (W64 (i1+1))
   else
    qV a_0 a_1 n (W64 (i1+1))
  else
   some (.nxt i1)
def qbT (n:Nat) (a_0:qp) (a_1:(List qb)):Option Bool :=
 (qV a_0 a_1 n 0).bind fun o=>match o with
 | .ret r=>some r
 | .nxt _ =>
  some (decide ((a_1.length:Int)≤20))
theorem qgu {a_0:qp} {a_1:(List qb)} (ha1:GoT.R w (old w) a_0 cs1) (ha2:GoT.R w (old w) a_1 cs2) {r:Bool} (hF:qbT n a_0 a_1=some r):RetV Tryz.prog 60 [GoT.v qp cs1,GoT.v (List qb) cs2] w r:=by
 obtain ⟨p1,k1,p2,k2,p3,k3,p4,k4,p5,k5,rfl,s1,s2,s3,s4,s5⟩:=qay ha1
 obtain ⟨p6,k6,rfl,s6⟩:=ha2
 refine zV 70 Tryz.func60 rfl fun h=>zSR (qy h rfl rfl fun w1 bb1 h=>X0 9 rfl ?_)
 obtain ⟨o1,hF,hK1⟩:=qf hF
 refine qm (rL (fun m e w'=>∃ (i1:Int),qV a_0 a_1 m i1=some o1∧e=[(1,.slice p6 a_1.length k6),(2,.pointer (some ⟨bb1,0,none⟩)),(7,.slice p6 a_1.length k6),(8,.int .i64 (a_1.length:Int)),(9,.int .i64 i1)]∧SH w w' [Ch.box bb1 (qbw a_0 p1 p2 p3 p4 p5 k1 k2 k3 k4 k5) 48]) n ⟨_,hF,rfl,h⟩ rfl ?_)
 rintro m1 e1 w2 ⟨i1,hF,rfl,h⟩
 rcases m1 with _|m1
 ·cases hF
 refine X0 5 rfl (qh rfl hF ?_ ?_)<;>intro hF
 ·refine X0 6 rfl ?_
  obtain ⟨y1,hy1,hF,he1,b1,_,q1,cs3,hp1,hq1,hr1,hc2⟩:=s6.ix hF
  obtain rfl:=qC hr1
  refine zxe hp1 hq1 he1 rfl (zc 0 (hc2.below h.below) rfl (qM qe h rfl rfl rfl fun w3 bb2 h=>zp1 rfl (zs 0 h rfl fun w4 h=>zNSS ?_)))
  obtain ⟨KF1,hKF1,o2,hF,hK2⟩:=bindE hF
  refine qcw (fun e w'=>∃ (b2:Bool),KF1 b2=some o1∧e=[(1,.slice p6 a_1.length k6),(2,.pointer (some ⟨bb1,0,none⟩)),(5,.int .i64 i1),(6,.pointer (some ⟨bb2,0,none⟩)),(7,.slice p6 a_1.length k6),(8,.int .i64 (a_1.length:Int)),(9,.int .i64 i1),(40,.bool b2)]∧SH w w' [Ch.box bb2 (qfK y1) 116,Ch.box bb1 (qbw a_0 p1 p2 p3 p4 p5 k1 k2 k3 k4 k5) 48]) ?_ ?_
  ·refine X2 5 1 0 h rfl (zcB h hF (qbK (qbs _ (h.oldS s2) (h.oldS s3) (h.oldS s4))) rfl fun r4 w10 h hF=>zp2 rfl (qg (t:=20) hF rfl ?_ ?_))<;>intro hF
   ·refine X0 21 rfl ?_
    obtain rfl:=qa hF
    exact rG ⟨_,hK2,rfl,h⟩ rfl
   refine X2 9 1 0 h rfl (zcB h hF (qbK (qbs _ (h.oldS s2) (h.oldS s3) (h.oldS s4))) rfl fun r5 w11 h hF=>X0 4 rfl (qg (t:=28) hF rfl ?_ ?_))<;>intro hF
   ·refine X0 13 rfl ?_
    obtain rfl:=qa hF
    exact rG ⟨_,hK2,rfl,h⟩ rfl
   refine X2 12 0 0 h rfl (qg (t:=35) hF rfl ?_ ?_)<;>intro hF
   ·refine X0 6 rfl ?_
    obtain rfl:=qa hF
    exact rG ⟨_,hK2,rfl,h⟩ rfl
   refine X1 5 0 h rfl (zcB h hF qW rfl fun r6 w12 h hF=>X0 4 rfl ?_)
   obtain rfl:=qa hF
   exact rG ⟨_,hK2,rfl,h⟩ rfl
  rintro e2 w13 ⟨b2,hF,rfl,h⟩
  subst hKF1
  refine qh rfl hF ?_ ?_<;>intro hF
  ·refine X0 4 rfl ?_
   obtain rfl:=qa hF;replace hF:=hK1
   exact rb h hF rfl
  refine zKS (rA [] [0] h rfl fun w5 h=>M0 7 [0,1,2] (h.pick [0] rfl) rfl (qpb (t:=43) hF rfl ?_ ?_))<;>intro hF
  ·refine qcV 3 rfl (by kernel_rfl) (bits 25 15) (by kernel_rfl) (by kernel_rfl) (fun w' hw=>v_p qe rfl w') (h.pick [0] rfl) rfl (qcV 4 rfl (by kernel_rfl) (bits 25 31) (by kernel_rfl) (by kernel_rfl) (fun w' hw=>v_p qe rfl w') (h.pick [0] rfl) rfl (qcV 5 rfl (by kernel_rfl) (bits 25 63) (by kernel_rfl) (by kernel_rfl) (fun w' hw=>v_p qe rfl w') (h.pick [0] rfl) rfl ?_))
   obtain ⟨y2,hy2,hF,he2,b3,_,q2,cs4,hp2,hq2,hr2,hc4⟩:=s6.ix hF
   obtain rfl:=qC hr2
   refine qcV 6 rfl (by kernel_rfl) (bits 25 127) (by kernel_rfl) (by kernel_rfl) (fun w' hw=>qo7 qe hp2 hq2 ⟨he2.1,he2.2.1⟩ rfl rfl rfl rfl rfl rfl) (h.pick [0] rfl) rfl (qcV 7 rfl (by kernel_rfl) (bits 25 255) (by kernel_rfl) (by kernel_rfl) (fun w' hw=>v_p qe rfl w') (h.pick [0] rfl) rfl (qcV 8 rfl (by kernel_rfl) (bits 25 511) (by kernel_rfl) (by kernel_rfl) (fun w' hw=>qi5 qe (hc4.below hw.below) (j:=0) rfl rfl rfl) (h.pick [0] rfl) rfl (qcV 9 rfl (by kernel_rfl) (bits 25 1023) (by kernel_rfl) (by kernel_rfl) (fun w' hw=>v_p qe rfl w') (h.pick [0] rfl) rfl (qcV 10 rfl (by kernel_rfl) (bits 25 2047) (by kernel_rfl) (by kernel_rfl) (fun w' hw=>qi5 qe (hw.box 0 rfl) (j:=0) rfl rfl rfl) (h.pick [0] rfl) rfl (qcV 12 rfl (by kernel_rfl) (bits 25 6143) (by kernel_rfl) (by kernel_rfl) (fun w' hw=>v_p qe rfl w') (h.pick [0] rfl) rfl (qcV 13 rfl (by kernel_rfl) (bits 25 14335) (by kernel_rfl) (by kernel_rfl) (fun w' hw=>v_p qe rfl w') (h.pick [0] rfl) rfl (qcV 14 rfl (by kernel_rfl) (bits 25 30719) (by kernel_rfl) (by kernel_rfl) (fun w' hw=>v_p qe rfl w') (h.pick [0] rfl) rfl ?_)))))))
   obtain ⟨y3,hy3,hF,he3,b4,_,q3,cs5,hp3,hq3,hr3,hc5⟩:=s6.ix hF
   obtain rfl:=qC hr3
   refine qcV 15 rfl (by kernel_rfl) (bits 25 63487) (by kernel_rfl) (by kernel_rfl) (fun w' hw=>qo7 qe hp3 hq3 ⟨he3.1,he3.2.1⟩ rfl rfl rfl rfl rfl rfl) (h.pick [0] rfl) rfl (qcV 16 rfl (by kernel_rfl) (bits 25 129023) (by kernel_rfl) (by kernel_rfl) (fun w' hw=>v_p qe rfl w') (h.pick [0] rfl) rfl (qcV 17 rfl (by kernel_rfl) (bits 25 260095) (by kernel_rfl) (by kernel_rfl) (fun w' hw=>qi5 qe (hc5.below hw.below) (j:=1) rfl rfl rfl) (h.pick [0] rfl) rfl (qcV 18 rfl (by kernel_rfl) (bits 25 522239) (by kernel_rfl) (by kernel_rfl) (fun w' hw=>v_p qe rfl w') (h.pick [0] rfl) rfl (qcV 19 rfl (by kernel_rfl) (bits 25 1046527) (by kernel_rfl) (by kernel_rfl) (fun w' hw=>qi5 qe (hw.box 0 rfl) (j:=1) rfl rfl rfl) (h.pick [0] rfl) rfl (Ao 11 1048575 rfl (X0 1 rfl (zcI h hF qfD rfl fun r1 w6 h hF=>Ag (h.pick [0] rfl) (Ao 20 2097151 rfl (X0 1 rfl (zcI h hF qfD rfl fun r2 w7 h hF=>Ag (h.pick [0] rfl) (Ao 21 4194303 rfl (X0 1 rfl (qbi qe [.tmp 52,.tmp 61] _ ([r1,r2]:List Int) h rfl rfl rfl rfl rfl rfl rfl rfl rfl ⟨rfl,rfl,trivial⟩ rfl fun w8 p7 S1 h=>Ag (h.pick [1] rfl) (Ao 22 8388607 rfl (X0 1 rfl (zcI h hF (qlf (h.own 0 rfl)) rfl fun r3 w9 h hF=>Ag (h.pick [1] rfl) (qcV 23 rfl (by kernel_rfl) (bits 25 16777215) (by kernel_rfl) (by kernel_rfl) (fun w' hw=>v_p qe rfl w') (h.pick [1] rfl) rfl (M0 33554431 [24] (h.pick [1] rfl) rfl (Ad (qh rfl hF ?_ ?_))))))))))))))))))))<;>intro hF
   ·refine X0 4 rfl ?_
    obtain rfl:=qa hF;replace hF:=hK1
    exact rb h hF rfl
   refine X0 6 rfl ?_
   replace h:=h.pick [2] rfl
   exact rK ⟨_,hF,rfl,h⟩ rfl
  refine qew 3 rfl (by kernel_rfl) rfl (bits 25 15) (by kernel_rfl) (by kernel_rfl) (h.pick [0] rfl) rfl (qew 4 rfl (by kernel_rfl) rfl (bits 25 31) (by kernel_rfl) (by kernel_rfl) (h.pick [0] rfl) rfl (qew 5 rfl (by kernel_rfl) rfl (bits 25 63) (by kernel_rfl) (by kernel_rfl) (h.pick [0] rfl) rfl (qew 6 rfl (by kernel_rfl) rfl (bits 25 127) (by kernel_rfl) (by kernel_rfl) (h.pick [0] rfl) rfl (qew 7 rfl (by kernel_rfl) rfl (bits 25 255) (by kernel_rfl) (by kernel_rfl) (h.pick [0] rfl) rfl (qew 8 rfl (by kernel_rfl) rfl (bits 25 511) (by kernel_rfl) (by kernel_rfl) (h.pick [0] rfl) rfl (qew 9 rfl (by kernel_rfl) rfl (bits 25 1023) (by kernel_rfl) (by kernel_rfl) (h.pick [0] rfl) rfl (qew 10 rfl (by kernel_rfl) rfl (bits 25 2047) (by kernel_rfl) (by kernel_rfl) (h.pick [0] rfl) rfl (qew 11 rfl (by kernel_rfl) rfl (bits 25 4095) (by kernel_rfl) (by kernel_rfl) (h.pick [0] rfl) rfl (qew 12 rfl (by kernel_rfl) rfl (bits 25 8191) (by kernel_rfl) (by kernel_rfl) (h.pick [0] rfl) rfl (qew 13 rfl (by kernel_rfl) rfl (bits 25 16383) (by kernel_rfl) (by kernel_rfl) (h.pick [0] rfl) rfl (qew 14 rfl (by kernel_rfl) rfl (bits 25 32767) (by kernel_rfl) (by kernel_rfl) (h.pick [0] rfl) rfl (qew 15 rfl (by kernel_rfl) rfl (bits 25 65535) (by kernel_rfl) (by kernel_rfl) (h.pick [0] rfl) rfl (qew 16 rfl (by kernel_rfl) rfl (bits 25 131071) (by kernel_rfl) (by kernel_rfl) (h.pick [0] rfl) rfl (qew 17 rfl (by kernel_rfl) rfl (bits 25 262143) (by kernel_rfl) (by kernel_rfl) (h.pick [0] rfl) rfl (qew 18 rfl (by kernel_rfl) rfl (bits 25 524287) (by kernel_rfl) (by kernel_rfl) (h.pick [0] rfl) rfl (qew 19 rfl (by kernel_rfl) rfl (bits 25 1048575) (by kernel_rfl) (by kernel_rfl) (h.pick [0] rfl) rfl (qew 20 rfl (by kernel_rfl) rfl (bits 25 2097151) (by kernel_rfl) (by kernel_rfl) (h.pick [0] rfl) rfl (qew 21 rfl (by kernel_rfl) rfl (bits 25 4194303) (by kernel_rfl) (by kernel_rfl) (h.pick [0] rfl) rfl (qew 22 rfl (by kernel_rfl) rfl (bits 25 8388607) (by kernel_rfl) (by kernel_rfl) (h.pick [0] rfl) rfl (qew 23 rfl (by kernel_rfl) rfl (bits 25 16777215) (by kernel_rfl) (by kernel_rfl) (h.pick [0] rfl) rfl (M0 33554431 [24] (h.pick [0] rfl) rfl (Ad (qej rfl rfl (X0 6 rfl ?_))))))))))))))))))))))))
  replace h:=h.pick [1] rfl
  exact rK ⟨_,hF,rfl,h⟩ rfl
 refine qq rfl ?_
 obtain rfl:=qa hF;replace hF:=hK1
 exact X0 7 rfl (rb h hF rfl)
end Go.Fw


namespace Go.Fw
open Go
set_option maxRecDepth 100000
instance:Inhabited qb:=⟨⟨0,0,0⟩⟩
def cplB (b:qp) (y:qb):Bool:=netB b.Ab y.A&&(netB b.Ab y.B&&(decide (y.A<y.B)&&inI y.Bd 1 10000))
def ltC (x y:qb):Bool:=decide (x.A<y.A) || ((x.A==y.A)&&decide (x.B<y.B))
def cplsB (b:qp) (ks:List qb):Bool:=allN (fun j=>cplB b (gt ks j)&&(decide (j=0) || ltC (gt ks (j-1)) (gt ks j))) ks.length&&decide (ks.length≤20)
def cmp3 (x y:Int):Int:=if x<y then -1 else if x > y then 1 else 0
theorem qqb {n:Nat} {x y:Int}:qcX n x y=some (cmp3 x y):=by
 simp only [qcX,qeF,bne_self_eq_false,jd,cond_false]
 unfold cmp3
 by_cases h1:x<y
 ·simp [h1]
 ·by_cases h2:x > y
  ·simp [h1,h2]
  ·simp [h1,h2]
theorem or3 {x y:Int} {n:Nat}:qes [x,y] (n+3) 0=bif x != 0 then some (.ret x) else bif y != 0 then some (.ret y) else some (.nxt 2):=rfl
theorem qqp {x y:Int}:Ev (fun n=>qhv n [x,y]) (if x=0 then y else x):=by
 unfold qhv
 refine Ev.bind (b:=bif x != 0 then .ret x else bif y != 0 then .ret y else .nxt 2) (Ev.succ (Ev.succ (Ev.succ ?_))) ?_
 ·refine ⟨0,fun n _=>?_⟩
  show qes [x,y] (n+3) 0=_
  rw [or3]
  cases (x != 0)<;>cases (y != 0)<;>rfl
 ·by_cases h1:x=0
  ·subst h1
   by_cases h2:y=0
   ·subst h2;exact .done
   ·have:(y != 0)=true:=by simpa using h2
    rw [this];exact .done
  ·have:(x != 0)=true:=by simpa using h1
   rw [this,if_neg h1];exact .done
theorem qqi {x y:qb}:decide ((if cmp3 x.A y.A=0 then cmp3 x.B y.B else cmp3 x.A y.A) ≥ 0) = !ltC x y:=by
 unfold cmp3 ltC
 by_cases h1:x.A<y.A
 ·simp [h1]
 ·by_cases h2:x.A > y.A
  ·have:¬ x.A=y.A:=by omega
   simp [h1,h2,this]
  ·have:x.A=y.A:=by omega
   rw [this]
   by_cases h3:x.B<y.B
   ·simp [h3]
   ·by_cases h4:x.B > y.B
    ·simp [h3,h4]
    ·simp [h3,h4]
theorem qjU {b:qp} {ks:List qb} (hn:b.Ab.Ac.length≤1048576) (hl:ks.length≤1048576):Ev (fun n=>qbT n b ks) (cplsB b ks):=by
 have hL:Ev (fun n=>qV b ks n 0) (bif allN (fun j=>cplB b (gt ks j)&&(decide (j=0) || ltC (gt ks (j-1)) (gt ks j))) ks.length then .nxt (ks.length:Int) else .ret false):=by
  refine qcE ?_ (fun j hj X hX=>Ev.succ ?_)
  ·exact Ev.succ (by simp only [qV,qi (je _),cond_false];exact .done)
  ·simp only [qV,qj hj,cond_true,qan hj,jd,wS j,qkH (d:=⟨b.Ab.Aa,b.Ab.Ac,b.Ab.Af⟩) hn,qcL,qqb,qaL]
   refine Ev.chkT ?_ fun _=>?_
   ·unfold cplB
    refine Ev.orBP fun _=>Ev.orBP fun _=>?_
    rw [show decide ((gt ks j).A ≥ (gt ks j).B) = !decide ((gt ks j).A<(gt ks j).B) by rw [jh];simp,qaL]
    exact Ev.orBP fun _=>.done
   ·by_cases h0:j=0
    ·subst h0
     exact Ev.ff (by decide) hX
    ·have e2:decide (j=0)=false:=by simp;omega
     have e3:decide ((j:Int) > 0)=true:=by simp;omega
     rw [e2,e3,qcW (show j≤9223372036854775807 by omega),show (j:Int)-1=((j-1:Nat):Int) by omega,qan (show j-1<ks.length by omega)]
     simp only [cond_true,jd,Bool.false_or]
     refine Ev.bind qqp ?_
     rw [qqi]
     simp only [qaL]
     exact Ev.okP1 fun _=>hX
 unfold qbT cplsB
 refine Ev.bind hL ?_
 cases allN (fun j=>cplB b (gt ks j)&&(decide (j=0) || ltC (gt ks (j-1)) (gt ks j))) ks.length
 ·exact .done
 ·refine Ev.now ?_
  show some (decide ((ks.length:Int)≤((20:Nat):Int)))=some (true&&decide (ks.length≤20))
  rw [qg0,jt]
theorem qjS {b:qp} {ks:List qb} (hn:b.Ab.Ac.length≤1048576) (hl:ks.length≤1048576):Ev (fun n=>qdT n b ks) (cplsB b ks):=by
 have hL:Ev (fun n=>qax b ks n 0) (bif allN (fun j=>cplB b (gt ks j)&&(decide (j=0) || ltC (gt ks (j-1)) (gt ks j))) ks.length then .nxt (ks.length:Int) else .ret false):=by
  refine qcE ?_ (fun j hj X hX=>Ev.succ ?_)
  ·exact Ev.succ (by simp only [qax,qi (je _),cond_false];exact .done)
  ·simp only [qax,qj hj,cond_true,qan hj,jd,wS j,qjp hn,qdj,qcW (show b.Ab.Ac.length≤9223372036854775807 by omega)]
   rw [show inI (gt ks j).A 0 ((b.Ab.Ac.length:Int)-1)=netB b.Ab (gt ks j).A from rfl]
   refine Ev.chkT ?_ fun _=>?_
   ·unfold cplB
    simp only [qaL]
    refine Ev.orBP fun hA=>?_
    have hA':0≤(gt ks j).A∧(gt ks j).A≤(b.Ab.Ac.length:Int)-1:=qb7.1 hA
    rw [qap (show -9223372036854775808≤(gt ks j).A+1 by omega) (by omega)]
    rw [←Bool.and_assoc]
    have e:inI (gt ks j).B ((gt ks j).A+1) ((b.Ab.Ac.length:Int)-1)=(netB b.Ab (gt ks j).B&&decide ((gt ks j).A<(gt ks j).B)):=by
     unfold netB inI
     rw [jh];simp;omega
    rw [e]
    exact Ev.orBP fun _=>.done
   ·by_cases h0:j=0
    ·subst h0
     exact Ev.ff (by decide) hX
    ·have e2:decide (j=0)=false:=by simp;omega
     have e3:decide ((j:Int) > 0)=true:=by simp;omega
     rw [e2,e3,qcW (show j≤9223372036854775807 by omega),show (j:Int)-1=((j-1:Nat):Int) by omega,qan (show j-1<ks.length by omega)]
     simp only [cond_true,jd,Bool.false_or]
     unfold ltC
     by_cases h1:(gt ks (j-1)).A > (gt ks j).A
     ·have h2:¬ (gt ks (j-1)).A<(gt ks j).A:=by omega
      have h3:¬ (gt ks (j-1)).A=(gt ks j).A:=by omega
      simp only [h1,h2,h3,decide_true,decide_false,cond_true,Bool.false_or,beq_eq_false_iff_ne.2 h3,Bool.false_and,cond_false]
      exact .done
     ·by_cases h3:(gt ks (j-1)).A=(gt ks j).A
      ·have h2:¬ (gt ks (j-1)).A<(gt ks j).A:=by omega
       simp only [h1,h2,decide_false,cond_false,Bool.false_or,beq_iff_eq.2 h3,cond_true,jt]
       rw [show decide ((gt ks (j-1)).B ≥ (gt ks j).B) = !decide ((gt ks (j-1)).B<(gt ks j).B) by rw [jh];simp]
       simp only [qaL]
       exact Ev.okP1 fun _=>hX
      ·have h2:(gt ks (j-1)).A<(gt ks j).A:=by omega
       simp only [h1,h2,decide_false,decide_true,cond_false,beq_eq_false_iff_ne.2 h3,Bool.true_or,cond_true]
       exact hX
 unfold qdT cplsB
 refine Ev.bind hL ?_
 cases allN (fun j=>cplB b (gt ks j)&&(decide (j=0) || ltC (gt ks (j-1)) (gt ks j))) ks.length
 ·exact .done
 ·refine Ev.now ?_
  show some (decide ((ks.length:Int)≤((20:Nat):Int)))=some (true&&decide (ks.length≤20))
  rw [qg0,jt]
end Go.Fw


namespace Go.Fw
open Go
set_option maxRecDepth 100000
def off (d:qd) (i:Nat):Nat:=(plI d i).length
def drvQ (d:qd) (k:Int) (j:Nat):Bool:=((gt (places d) j).net==k)&&(gt (places d) j).drives
def cellAt (b:qp) (i:Int):qk:=gt b.As.Aj (gt b.Ab.Aa i.toNat).Bj.toNat
end Go.Fw


namespace Go.Fw
open Go
set_option maxRecDepth 100000
structure wireOk (b:qp) (i:Nat):Prop where
 lo:1≤(gt b.Aq i).Ah.length
 hi:(gt b.Aq i).Ah.length≤8
 res:(gt b.Aq i).Bi.length=(gt b.Aq i).Ah.length
 cap:(gt b.Aq i).Bg.length=(gt b.Aq i).Ah.length
 par:∀ j,0<j→j<(gt b.Aq i).Ah.length→0≤at0 (gt b.Aq i).Ah j∧at0 (gt b.Aq i).Ah j<j
 snk:(gt b.Aq i).Be.length=(sinksL b.Ab (i:Int) (places b.Ab).length).length
 sin:∀ j,j<(gt b.Aq i).Be.length→0≤at0 (gt b.Aq i).Be j∧at0 (gt b.Aq i).Be j<(gt b.Aq i).Ah.length
theorem qmZ {b:qp} (h:blockB b=true):b.Aq.length=b.Ab.Ac.length:=by
 unfold blockB at h
 simp only [jf,beq_iff_eq] at h
 omega
end Go.Fw


namespace Go.Fw
open Go
set_option maxRecDepth 100000
instance:Inhabited qer:=⟨⟨0,0,0,0⟩⟩
instance:Inhabited qh4:=⟨⟨0,0⟩⟩
theorem qnB {α:Type} {m:Nat} {z:α} (h:m≤2147483648):mkS (m:Int) z=some (List.replicate m z):=by
 unfold mkS big
 rw [if_pos ⟨by omega,by omega⟩,jz]
theorem qnI {α:Type} [Inhabited α] {xs:List α} {a k:Nat} {y:α} (h:k ≠ a):gt (xs.set a y) k=gt xs k:=by
 unfold gt
 rw [jD,List.getElem?_set_ne (by omega),←jD]
theorem qmi {α:Type} [Inhabited α] {xs:List α} {a:Nat} {y:α} (h:a<xs.length):gt (xs.set a y) a=y:=by
 rw [qiq (by rw [List.length_set];exact h),List.getElem_set_self]
end Go.Fw


namespace Go.Fw
open Go
set_option maxRecDepth 100000
def sumZ (f:Nat→Int):Nat→Int
 | 0=>0
 | n+1=>sumZ f n+f n
def skL (b:qp) (i:Nat):List Int:=sinksL b.Ab (i:Int) (places b.Ab).length
structure LdOk (t:List Int) (L:Nat) (S:Int):Prop where
 len:t.length=L
 nn:∀ k,k<L→0≤gt t k
 sum:sumZ (gt t) L≤S
end Go.Fw


namespace Go.Fw
open Go
set_option maxRecDepth 100000
def pre {α:Type} (f:Nat→α) (j:Nat):List α:=(List.range j).map f
def fm {α:Type} (f:Nat→List α) (j:Nat):List α:=(List.range j).flatMap f
def transL (a:qz):List qh4 :=
 bif (a.Ar==2) then [⟨0,0⟩,⟨0,1⟩] else bif (a.Ar==3) then [⟨1,0⟩,⟨1,1⟩] else bif (a.Ar != 1) then [] else
 bif (a.Bc==1) then [⟨0,0⟩,⟨1,1⟩] else bif (a.Bc==2) then [⟨0,1⟩,⟨1,0⟩] else [⟨0,0⟩,⟨0,1⟩,⟨1,0⟩,⟨1,1⟩]
def al1 (first:Int) (k:Nat) (a:qz) (t:qh4):qer:=⟨2*(first+a.Az)+t.e0,2*(first+a.To)+t.e1,1,(k:Int)⟩
def arcLs (first:Int) (k:Nat) (a:qz):List qer:=(transL a).map (al1 first k a)
def cellLs (c:qk) (first:Int) (j:Nat):List qer:=fm (fun k=>arcLs first k (gt c.Ak k)) j
def instLs (b:qp) (j:Nat):List qer:=fm (fun i=>cellLs (cellAt b (i:Int)) (off b.Ab i:Int) (cellAt b (i:Int)).Ak.length) j
def dvN (d:qd) (k:Nat):Nat:=((List.range (places d).length).find? fun j=>drvQ d (k:Int) j).getD 0
def wl1 (dv:Nat) (s:Int) (k:Nat):List qer:=[⟨2*(dv:Int),2*s,2,(k:Int)⟩,⟨2*(dv:Int)+1,2*s+1,2,(k:Int)⟩]
def wlN (b:qp) (i j:Nat):List qer:=fm (fun k=>wl1 (dvN b.Ab i) (at0 (skL b i) k) k) j
def wireLs (b:qp) (j:Nat):List qer:=fm (fun i=>wlN b i (skL b i).length) j
def linksL (b:qp):List qer:=instLs b b.Ab.Aa.length++wireLs b b.Aq.length
end Go.Fw


namespace Go.Fw
open Go Go.Proofs
open Go.RowKit (Below)
set_option maxRecDepth 100000
set_option maxHeartbeats 1600000
variable {n:Nat} {w:World} {cs1 cs2 cs3 cs4 cs5 cs6 cs7 cs8 cs9:List Value}
end Go.Fw


namespace Go.Fw
open Go
set_option maxRecDepth 100000
structure LkOk (ls:List qer) (M:Nat):Prop where
 len:ls.length≤10000
 nodes:M≤156
 fr0:∀ x,x<ls.length→0≤(gt ls x).Az
 fr1:∀ x,x<ls.length→(gt ls x).Az<(M:Int)
 to0:∀ x,x<ls.length→0≤(gt ls x).To
 to1:∀ x,x<ls.length→(gt ls x).To<(M:Int)
def frL (ls:List qer) (x:Nat):Int:=(gt ls x).Az
def toL (ls:List qer) (x:Nat):Int:=(gt ls x).To
def lvL (lv:List Bool) (x:Nat):Bool:=gt lv x
abbrev ordL (ls:List qer) (lv:List Bool) (M m:Nat) (R:List Nat):Option (List Nat):=ordN ls.length (frL ls) (toL ls) (lvL lv) M m R
section
variable {ls:List qer} {lv:List Bool} {M:Nat} {ps:List Tplace} {b:qp} {lo:List Int} {de:List (List Int)} {ex:List Int}
end
end Go.Fw


namespace Go.Fw
open Go Go.Proofs
open Go.RowKit (Below)
set_option maxRecDepth 100000
set_option maxHeartbeats 1600000
variable {n:Nat} {w:World} {cs1 cs2 cs3 cs4 cs5 cs6 cs7 cs8 cs9:List Value}
end Go.Fw


namespace Go.Fw
open Go Go.Proofs
open Go.RowKit (Below)
set_option maxRecDepth 100000
set_option maxHeartbeats 1600000
variable {n:Nat} {w:World} {cs1 cs2 cs3 cs4 cs5 cs6 cs7 cs8 cs9:List Value}
end Go.Fw


namespace Go.Fw
open Go Go.Proofs
open Go.RowKit (Below)
set_option maxRecDepth 100000
set_option maxHeartbeats 1600000
variable {n:Nat} {w:World} {cs1 cs2 cs3 cs4 cs5 cs6 cs7 cs8 cs9:List Value}
end Go.Fw


namespace Go.Fw
open Go
set_option maxRecDepth 100000
structure AxOk (ax:List Int):Prop where
 lo:1≤ax.length
 hi:ax.length≤4
 at_:∀ j,j<ax.length→0≤at0 ax j∧at0 ax j≤100000
 inc:∀ j i,i<j→j<ax.length→at0 ax i<at0 ax j
structure Wt (ax:List Int) (i:Nat) (a b:Int):Prop where
 il:i<ax.length
 a0:0<a
 a1:a≤100000
 b0:0≤b
 b1:b≤100000
 nx:0<b→i+1<ax.length
 one:b=0→a=1
end Go.Fw


namespace Go.Fw
open Go
set_option maxRecDepth 100000
structure TbOk (t:ql):Prop where
 s:AxOk t.Ay
 l:AxOk t.Av
 n:t.Ap.length=t.Ay.length*t.Av.length
 v:∀ k,-1000000≤at0 t.Ap k∧at0 t.Ap k≤1000000
end Go.Fw


namespace Go.Fw
open Go
set_option maxRecDepth 100000
end Go.Fw


namespace Go.Fw
open Go
set_option maxRecDepth 100000
instance:Inhabited qeD:=⟨⟨0,⟨0,0⟩,⟨0,0⟩⟩⟩
instance:Inhabited qbd:=⟨⟨0,0⟩⟩
def cornerB (c:qf6):Bool:=(inI c.Bn 100 5000&&(inI c.Br 100 5000&&(inI c.Bp 100 5000&&inI c.Bq 100 5000)))&&(nameB c.Am&&(decide (c.Bn≤c.Br)&&decide (c.Bp≤c.Bq)))
def spanB (s:qbd):Bool:=inI s.Bm (-1000000000) 1000000000&&(inI s.Bs (-1000000000) 1000000000&&decide (s.Bm≤s.Bs))
def slewB (s:qbd):Bool:=decide (s.Bm ≥ 0)&&(decide (s.Bm≤s.Bs)&&decide (s.Bs≤1000000))
end Go.Fw


namespace Go.Fw
open Go Go.Proofs
open Go.RowKit (Below)
set_option maxRecDepth 100000
set_option maxHeartbeats 1600000
variable {n:Nat} {w:World} {cs1 cs2 cs3 cs4 cs5 cs6 cs7 cs8 cs9:List Value}
def qbN (list:(List qb)) (used:(List Int)):Nat→(List Int)→Int→Option ((List Int) × Int)
 | 0,_,_=>none
 | n+1,x2,i1 =>
  bif decide (i1<(used.length:Int)) then
   (idx used i1).bind fun y1 =>
   (idx list y1).bind fun y2 =>
   (idx x2 y2.A).bind fun y3 =>
   (idx x2 y2.A).bind fun _ =>
   (idx (setS x2 y2.A (W64 (y3+y2.Bd))) y2.B).bind fun y5 =>
   (idx (setS x2 y2.A (W64 (y3+y2.Bd))) y2.B).bind fun _ =>
   qbN list used n (setS (setS x2 y2.A (W64 (y3+y2.Bd))) y2.B (W64 (y5+y2.Bd))) (W64 (i1+1))
  else
   some (x2,i1)
def qeQ (n:Nat) (b:qp) (list:(List qb)) (used:(List Int)):Option (List Int) :=
 (mkS (b.Ab.Ac.length:Int) (0:Int)).bind fun x1 =>
 (qbN list used n x1 0).bind fun o=>match o with
 | (x2,_) =>
  some x2
theorem qiQ {b:qp} {list:(List qb)} {used:(List Int)} (ha1:GoT.R w (old w) b cs1) (ha2:GoT.R w (old w) list cs2) (ha3:GoT.R w (old w) used cs3) {r:(List Int)} (hF:qeQ n b list used=some r):RetV Tryz.prog 54 [GoT.v qp cs1,GoT.v (List qb) cs2,GoT.v (List Int) cs3] w r:=by
 obtain ⟨p1,k1,p2,k2,p3,k3,p4,k4,p5,k5,rfl,s1,s2,s3,s4,s5⟩:=qay ha1
 obtain ⟨p6,k6,rfl,s6⟩:=ha2
 obtain ⟨p7,k7,rfl,s7⟩:=ha3
 refine zV 53 Tryz.func54 rfl fun h=>zSR (qy h rfl rfl fun w1 bb1 h=>X1 8 0 h rfl ?_)
 obtain ⟨x1,hx1,hF⟩:=qf hF
 obtain ⟨g1,g2,hx1⟩:=qb4 hx1
 refine qc6 qe Int h rfl rfl rfl rfl rfl rfl rfl rfl rfl g1 g2 hx1 rfl fun w2 S1 p8 h=>X0 7 rfl ?_
 obtain ⟨o1,hF,hK1⟩:=qf hF
 refine qm ?_
 replace h:=h.pick [0] rfl
 refine rL (fun m e w'=>∃ (x2:(List Int)) (i1:Int),qbN list used m x2 i1=some o1∧e=[(1,.slice p6 list.length k6),(2,.slice p7 used.length k7),(7,.slice p8 x1.length x1.length),(8,.int .i64 i1)]∧SH w w' [Ch.own S1 (x2:List Int) [.slice p8 x1.length x1.length]]) n ⟨_,_,hF,rfl,h⟩ rfl ?_
 rintro m1 e1 w3 ⟨x2,i1,hF,rfl,h⟩
 rcases m1 with _|m1
 ·cases hF
 refine X0 8 rfl (qh rfl hF ?_ ?_)<;>intro hF
 ·refine X0 8 rfl ?_
  obtain ⟨y1,hy1,hF,he1,b1,_,q1,cs4,hp1,hq1,rfl,hc2⟩:=s7.ix hF
  refine zxe hp1 hq1 he1 rfl (zc 0 (hc2.below h.below) rfl ?_)
  obtain ⟨y2,hy2,hF,he2,b2,_,q2,cs5,hp2,hq2,hr2,hc3⟩:=s6.ix hF
  obtain rfl:=qC hr2
  refine zxe hp2 hq2 he2 rfl (zc 0 (hc3.below h.below) rfl (qM qe h rfl rfl rfl fun w4 bb2 h=>zs 0 h rfl fun w5 h=>zNS (rA [12] [0,1] h rfl fun w6 h=>M2 63 [0,1,2,3,4,5] 0 0 (h.pick [0,1] rfl) rfl ?_)))
  obtain ⟨y3,hy3,hF,he3,b3,_,q3,cs6,hp3,hq3,rfl,hc4⟩:=(h.sl 1 rfl).1.ix hF
  refine Ax 6 127 hp3 hq3 ⟨he3.1,qK he3.2.1 (h.sl 1 rfl).2⟩ (h.pick [0,1] rfl) rfl (Aw 7 255 (fun w' hw=>qi5 qe (qh3 (w1:=w) (S1:=fun _=>False) hw 1 rfl hy3 hp3 hq3 rfl) (j:=0) rfl rfl rfl) (h.pick [0,1] rfl) rfl ?_)
  refine M1 2047 [8,9,10] 0 (h.pick [0,1] rfl) rfl ?_
  obtain ⟨y4,hy4,hF,he4,b4,_,q4,cs7,hp4,hq4,rfl,hc5⟩:=(h.sl 1 rfl).1.ix hF
  refine Ax 11 4095 hp4 hq4 ⟨he4.1,qK he4.2.1 (h.sl 1 rfl).2⟩ (h.pick [0,1] rfl) rfl (Ao 12 8191 rfl (qaN qe 1 0 (W64 (y3+y2.Bd)) h rfl hy4 hp4 hq4 rfl hc5 rfl rfl rfl rfl rfl rfl rfl fun w7 h=>qiv (fun hs=>absurd (hs 12 (by decide)) (by decide)) (Ad (rA [12] [0,1] h rfl fun w8 h=>M2 63 [0,1,2,3,4,5] 0 0 (h.pick [0,1] rfl) rfl ?_))))
  obtain ⟨y5,hy5,hF,he5,b5,_,q5,cs8,hp5,hq5,rfl,hc6⟩:=(h.sl 1 rfl).1.ix hF
  refine Ax 6 127 hp5 hq5 ⟨he5.1,qK he5.2.1 (h.sl 1 rfl).2⟩ (h.pick [0,1] rfl) rfl (Aw 7 255 (fun w' hw=>qi5 qe (qh3 (w1:=w) (S1:=fun _=>False) hw 1 rfl hy5 hp5 hq5 rfl) (j:=0) rfl rfl rfl) (h.pick [0,1] rfl) rfl ?_)
  refine M1 2047 [8,9,10] 0 (h.pick [0,1] rfl) rfl ?_
  obtain ⟨y6,hy6,hF,he6,b6,_,q6,cs9,hp6,hq6,rfl,hc7⟩:=(h.sl 1 rfl).1.ix hF
  refine Ax 11 4095 hp6 hq6 ⟨he6.1,qK he6.2.1 (h.sl 1 rfl).2⟩ (h.pick [0,1] rfl) rfl (Ao 12 8191 rfl (qaN qe 1 0 (W64 (y5+y2.Bd)) h rfl hy6 hp6 hq6 rfl hc7 rfl rfl rfl rfl rfl rfl rfl fun w9 h=>qiv (fun hs=>absurd (hs 12 (by decide)) (by decide)) (Ad (X0 6 rfl ?_))))
  replace h:=h.pick [1] rfl
  exact rK ⟨_,_,hF,rfl,h⟩ rfl
 refine qq rfl ?_
 obtain rfl:=qa hF;replace hF:=hK1
 refine X0 5 rfl ?_
 obtain rfl:=qa hF
 exact rO 0 h rfl ⟨rfl,trivial⟩
def qfp (n:Nat) (b:qp) (list:(List qb)) (used:(List Int)):Option ((List Int) × Int) :=
 (qgg n b).bind fun r1 =>
 bif (!r1) then some (([]:List Int),1) else
 (
  (qdT n b list).bind fun r3 =>
  bif (!r3) then some true else
  (qe1 n used (list.length:Int)).bind fun r4 =>
  some (!r4)).bind fun b1 =>
 bif b1 then some (([]:List Int),2) else
 (qeQ n b list used).bind fun r2 =>
 some (r2,0)
theorem qjD {b:qp} {list:(List qb)} {used:(List Int)} (ha1:GoT.R w (old w) b cs1) (ha2:GoT.R w (old w) list cs2) (ha3:GoT.R w (old w) used cs3) {r:((List Int) × Int)} (hF:qfp n b list used=some r):RetV Tryz.prog 11 [GoT.v qp cs1,GoT.v (List qb) cs2,GoT.v (List Int) cs3] w r:=by
 obtain ⟨p1,k1,p2,k2,p3,k3,p4,k4,p5,k5,rfl,s1,s2,s3,s4,s5⟩:=qay ha1
 obtain ⟨p6,k6,rfl,s6⟩:=ha2
 obtain ⟨p7,k7,rfl,s7⟩:=ha3
 refine zV 28 Tryz.func11 rfl fun h=>zSR (qy h rfl rfl fun w1 bb1 h=>X1 7 0 h rfl (zcB h hF (qjO (h.old ha1)) rfl fun r1 w2 h hF=>X0 2 rfl (qh rfl hF ?_ ?_)))<;>intro hF
 ·refine zSR (qbi qe [] _ ([]:List Int) h rfl rfl rfl rfl rfl rfl rfl rfl rfl trivial rfl fun w3 p8 S1 h=>X0 3 rfl ?_)
  obtain rfl:=qa hF
  exact qbh qe (ρ:=((List Int) × Int)) [GoT.v (List Int) [.slice p8 0 0],GoT.v Int [.int .i64 1]] h ⟨rfl,rfl,trivial⟩ (PV.done h (qef h (qaC 0 h rfl) (qbV (qO (S:=fun _=>False) rfl)) (by rfl)))
 refine zKSS ?_
 obtain ⟨KF1,hKF1,o1,hF,hK1⟩:=bindE hF
 refine qcw (fun e w'=>∃ (b1:Bool),KF1 b1=some r∧e=[(1,.slice p6 list.length k6),(2,.slice p7 used.length k7),(3,.pointer (some ⟨bb1,0,none⟩)),(22,.bool b1)]∧SH w w' [Ch.box bb1 (qbw b p1 p2 p3 p4 p5 k1 k2 k3 k4 k5) 48]) ?_ ?_
 ·refine X1 3 0 h rfl (zcB h hF (qhU (h.old ha1) ⟨_,_,rfl,(h.oldS s6)⟩) rfl fun r3 w6 h hF=>zp2 rfl (qg (t:=16) hF rfl ?_ ?_))<;>intro hF
  ·refine X0 7 rfl ?_
   obtain rfl:=qa hF
   exact rG ⟨_,hK1,rfl,h⟩ rfl
  refine X0 7 rfl (zcB h hF (qi2 ⟨_,_,rfl,(h.oldS s7)⟩) rfl fun r4 w7 h hF=>X0 4 rfl ?_)
  obtain rfl:=qa hF
  exact rG ⟨_,hK1,rfl,h⟩ rfl
 rintro e1 w8 ⟨b1,hF,rfl,h⟩
 subst hKF1
 refine qh rfl hF ?_ ?_<;>intro hF
 ·refine zSR (qbi qe [] _ ([]:List Int) h rfl rfl rfl rfl rfl rfl rfl rfl rfl trivial rfl fun w4 p9 S2 h=>X0 3 rfl ?_)
  obtain rfl:=qa hF
  exact qbh qe (ρ:=((List Int) × Int)) [GoT.v (List Int) [.slice p9 0 0],GoT.v Int [.int .i64 2]] h ⟨rfl,rfl,trivial⟩ (PV.done h (qef h (qaC 0 h rfl) (qbV (qO (S:=fun _=>False) rfl)) (by rfl)))
 refine X1 6 0 h rfl (zcL h hF (qiQ (h.old ha1) ⟨_,_,rfl,(h.oldS s6)⟩ ⟨_,_,rfl,(h.oldS s7)⟩) rfl fun r2 w5 S3 p10 k8 h hF=>X0 3 rfl ?_)
 obtain rfl:=qa hF
 exact qbh qe (ρ:=((List Int) × Int)) [GoT.v (List Int) [.slice p10 r2.length k8],GoT.v Int [.int .i64 0]] h ⟨rfl,rfl,trivial⟩ (PV.done h (qef h (qaC 0 h rfl) (qbV (qO (S:=fun _=>False) rfl)) (by rfl)))
def qcD (_:Nat) (list:(List qb)):Option Int :=
 some (list.length:Int)
theorem qfU {list:(List qb)} (ha1:GoT.R w (old w) list cs1) {r:Int} (hF:qcD n list=some r):RetV Tryz.prog 144 [GoT.v (List qb) cs1] w r:=by
 obtain ⟨p1,k1,rfl,s1⟩:=ha1
 exact zV 5 Tryz.func144 rfl fun h=>X0 10 rfl (ri h hF rfl)
def qgY (n:Nat) (list:(List qb)) (used:(List Int)):Option Bool :=
 (qcD n list).bind fun r1 =>
 (qaY n used 0 (W64 (r1-1))).bind fun r2 =>
 bif r2 then
  (qcT n used).bind fun r3 =>
  some r3
 else
  some false
theorem qkm {list:(List qb)} {used:(List Int)} (ha1:GoT.R w (old w) list cs1) (ha2:GoT.R w (old w) used cs2) {r:Bool} (hF:qgY n list used=some r):RetV Tryz.prog 61 [GoT.v (List qb) cs1,GoT.v (List Int) cs2] w r:=by
 obtain ⟨p1,k1,rfl,s1⟩:=ha1
 obtain ⟨p2,k2,rfl,s2⟩:=ha2
 refine zV 14 Tryz.func61 rfl fun h=>X0 8 rfl (zcI h hF (qfU ⟨_,_,rfl,(h.oldS s1)⟩) rfl fun r1 w1 h hF=>zp1 rfl (zcB h hF (qbm ⟨_,_,rfl,(h.oldS s2)⟩) rfl fun r2 w2 h hF=>zp1 rfl (qg (t:=10) hF rfl ?_ ?_)))<;>intro hF
 ·exact X0 3 rfl (zcB h hF (qfH ⟨_,_,rfl,(h.oldS s2)⟩) rfl fun r3 w3 h hF=>X0 3 rfl (rb h hF rfl))
 exact X0 5 rfl (rb h hF rfl)
def qaP (list:(List qb)) (used:(List Int)):Nat→(List Int)→Int→Option ((List Int) × Int)
 | 0,_,_=>none
 | n+1,x2,i1 =>
  bif decide (i1<(used.length:Int)) then
   (idx used i1).bind fun y1 =>
   (idx list y1).bind fun y2 =>
   (idx x2 y2.A).bind fun y3 =>
   (idx list y1).bind fun y4 =>
   (idx x2 y2.A).bind fun _ =>
   (idx list y1).bind fun y6 =>
   (idx (setS x2 y2.A (W64 (y3+y4.Bd))) y6.B).bind fun y7 =>
   (idx list y1).bind fun y8 =>
   (idx (setS x2 y2.A (W64 (y3+y4.Bd))) y6.B).bind fun _ =>
   qaP list used n (setS (setS x2 y2.A (W64 (y3+y4.Bd))) y6.B (W64 (y7+y8.Bd))) (W64 (i1+1))
  else
   some (x2,i1)
def qc5 (n:Nat) (b:qp) (list:(List qb)) (used:(List Int)):Option (List Int) :=
 (mkS (b.Aq.length:Int) (0:Int)).bind fun x1 =>
 (qaP list used n x1 0).bind fun o=>match o with
 | (x2,_) =>
  some x2
theorem qhz {b:qp} {list:(List qb)} {used:(List Int)} (ha1:GoT.R w (old w) b cs1) (ha2:GoT.R w (old w) list cs2) (ha3:GoT.R w (old w) used cs3) {r:(List Int)} (hF:qc5 n b list used=some r):RetV Tryz.prog 62 [GoT.v qp cs1,GoT.v (List qb) cs2,GoT.v (List Int) cs3] w r:=by
 obtain ⟨p1,k1,p2,k2,p3,k3,p4,k4,p5,k5,rfl,s1,s2,s3,s4,s5⟩:=qay ha1
 obtain ⟨p6,k6,rfl,s6⟩:=ha2
 obtain ⟨p7,k7,rfl,s7⟩:=ha3
 refine zV 52 Tryz.func62 rfl fun h=>zSR (qy h rfl rfl fun w1 bb1 h=>X1 7 0 h rfl ?_)
 obtain ⟨x1,hx1,hF⟩:=qf hF
 obtain ⟨g1,g2,hx1⟩:=qb4 hx1
 refine qc6 qe Int h rfl rfl rfl rfl rfl rfl rfl rfl rfl g1 g2 hx1 rfl fun w2 S1 p8 h=>X0 9 rfl ?_
 obtain ⟨o1,hF,hK1⟩:=qf hF
 refine qm ?_
 replace h:=h.pick [0] rfl
 refine rL (fun m e w'=>∃ (x2:(List Int)) (i1:Int),qaP list used m x2 i1=some o1∧e=[(1,.slice p6 list.length k6),(7,.slice p8 x1.length x1.length),(14,.slice p7 used.length k7),(15,.int .i64 (used.length:Int)),(16,.int .i64 i1)]∧SH w w' [Ch.own S1 (x2:List Int) [.slice p8 x1.length x1.length]]) n ⟨_,_,hF,rfl,h⟩ rfl ?_
 rintro m1 e1 w3 ⟨x2,i1,hF,rfl,h⟩
 rcases m1 with _|m1
 ·cases hF
 refine X0 5 rfl (qh rfl hF ?_ ?_)<;>intro hF
 ·refine zKSBSR ?_
  obtain ⟨y1,hy1,hF,he1,b1,_,q1,cs4,hp1,hq1,rfl,hc2⟩:=s7.ix hF
  refine zxe hp1 hq1 he1 rfl (zc 0 (hc2.below h.below) rfl (X0 3 rfl (rA [15] [0] h rfl fun w4 h=>M0 7 [0,1,2] (h.pick [0] rfl) rfl ?_)))
  obtain ⟨y2,hy2,hF,he2,b2,_,q2,cs5,hp2,hq2,hr2,hc3⟩:=s6.ix hF
  obtain rfl:=qC hr2
  refine Ae 3 15 hp2 hq2 he2 (h.pick [0] rfl) rfl (M0 31 [4] (h.pick [0] rfl) rfl (Al 5 63 0 hc3 (h.pick [0] rfl) rfl ?_))
  obtain ⟨y3,hy3,hF,he3,b3,_,q3,cs6,hp3,hq3,rfl,hc4⟩:=(h.sl 0 rfl).1.ix hF
  refine Ax 6 127 hp3 hq3 ⟨he3.1,qK he3.2.1 (h.sl 0 rfl).2⟩ (h.pick [0] rfl) rfl (Aw 7 255 (fun w' hw=>qi5 qe (qh3 (w1:=w) (S1:=fun _=>False) hw 0 rfl hy3 hp3 hq3 rfl) (j:=0) rfl rfl rfl) (h.pick [0] rfl) rfl ?_)
  refine M0 1023 [8,9] (h.pick [0] rfl) rfl ?_
  obtain ⟨y4,hy4,hF,he4,b4,_,q4,cs7,hp4,hq4,hr4,hc5⟩:=s6.ix hF
  obtain rfl:=qC hr4
  refine Ae 10 2047 hp4 hq4 he4 (h.pick [0] rfl) rfl (M0 4095 [11] (h.pick [0] rfl) rfl (Al 12 8191 2 hc5 (h.pick [0] rfl) rfl (M0 16383 [13] (h.pick [0] rfl) rfl ?_)))
  obtain ⟨y5,hy5,hF,he5,b5,_,q5,cs8,hp5,hq5,rfl,hc6⟩:=(h.sl 0 rfl).1.ix hF
  refine Ax 14 32767 hp5 hq5 ⟨he5.1,qK he5.2.1 (h.sl 0 rfl).2⟩ (h.pick [0] rfl) rfl (Ao 15 65535 rfl (qaN qe 0 0 (W64 (y3+y4.Bd)) h rfl hy5 hp5 hq5 rfl hc6 rfl rfl rfl rfl rfl rfl rfl fun w5 h=>qiv (fun hs=>absurd (hs 15 (by decide)) (by decide)) (Ad (rA [15] [0] h rfl fun w6 h=>M0 7 [0,1,2] (h.pick [0] rfl) rfl ?_))))
  obtain ⟨y6,hy6,hF,he6,b6,_,q6,cs9,hp6,hq6,hr6,hc7⟩:=s6.ix hF
  obtain rfl:=qC hr6
  refine Ae 3 15 hp6 hq6 he6 (h.pick [0] rfl) rfl (M0 31 [4] (h.pick [0] rfl) rfl (Al 5 63 1 hc7 (h.pick [0] rfl) rfl ?_))
  obtain ⟨y7,hy7,hF,he7,b7,_,q7,cs10,hp7,hq7,rfl,hc8⟩:=(h.sl 0 rfl).1.ix hF
  refine Ax 6 127 hp7 hq7 ⟨he7.1,qK he7.2.1 (h.sl 0 rfl).2⟩ (h.pick [0] rfl) rfl (Aw 7 255 (fun w' hw=>qi5 qe (qh3 (w1:=w) (S1:=fun _=>False) hw 0 rfl hy7 hp7 hq7 rfl) (j:=0) rfl rfl rfl) (h.pick [0] rfl) rfl ?_)
  refine M0 1023 [8,9] (h.pick [0] rfl) rfl ?_
  obtain ⟨y8,hy8,hF,he8,b8,_,q8,cs11,hp8,hq8,hr8,hc9⟩:=s6.ix hF
  obtain rfl:=qC hr8
  refine Ae 10 2047 hp8 hq8 he8 (h.pick [0] rfl) rfl (M0 4095 [11] (h.pick [0] rfl) rfl (Al 12 8191 2 hc9 (h.pick [0] rfl) rfl (M0 16383 [13] (h.pick [0] rfl) rfl ?_)))
  obtain ⟨y9,hy9,hF,he9,b9,_,q9,cs12,hp9,hq9,rfl,hc10⟩:=(h.sl 0 rfl).1.ix hF
  exact Ax 14 32767 hp9 hq9 ⟨he9.1,qK he9.2.1 (h.sl 0 rfl).2⟩ (h.pick [0] rfl) rfl (Ao 15 65535 rfl (qaN qe 0 0 (W64 (y7+y8.Bd)) h rfl hy9 hp9 hq9 rfl hc10 rfl rfl rfl rfl rfl rfl rfl fun w7 h=>qiv (fun hs=>absurd (hs 15 (by decide)) (by decide)) (Ad (X0 5 rfl (rK ⟨_,_,hF,rfl,h⟩ rfl)))))
 refine qq rfl ?_
 obtain rfl:=qa hF;replace hF:=hK1
 refine X0 5 rfl ?_
 obtain rfl:=qa hF
 exact rO 0 h rfl ⟨rfl,trivial⟩
def qep (n:Nat) (b:qp) (list:(List qb)) (used:(List Int)):Option ((List Int) × Int) :=
 (qgf n b).bind fun r1 =>
 bif (!r1) then some ([],1) else
 (
  (qbT n b list).bind fun r3 =>
  bif (!r3) then some true else
  (qgY n list used).bind fun r4 =>
  some (!r4)).bind fun b1 =>
 bif b1 then some ([],2) else
 (qc5 n b list used).bind fun r2 =>
 some (r2,0)
theorem qhh {b:qp} {list:(List qb)} {used:(List Int)} (ha1:GoT.R w (old w) b cs1) (ha2:GoT.R w (old w) list cs2) (ha3:GoT.R w (old w) used cs3) {r:((List Int) × Int)} (hF:qep n b list used=some r):RetV Tryz.prog 15 [GoT.v qp cs1,GoT.v (List qb) cs2,GoT.v (List Int) cs3] w r:=by
 obtain ⟨p1,k1,p2,k2,p3,k3,p4,k4,p5,k5,rfl,s1,s2,s3,s4,s5⟩:=qay ha1
 obtain ⟨p6,k6,rfl,s6⟩:=ha2
 obtain ⟨p7,k7,rfl,s7⟩:=ha3
 refine zV 27 Tryz.func15 rfl fun h=>zSR (qy h rfl rfl fun w1 bb1 h=>X1 8 0 h rfl (zcB h hF (qj0 (h.old ha1)) rfl fun r1 w2 h hF=>X0 3 rfl (qh rfl hF ?_ ?_)))<;>intro hF
 ·refine X0 5 rfl ?_
  obtain rfl:=qa hF
  exact qbh qe (ρ:=((List Int) × Int)) [GoT.v (List Int) [.slice none 0 0],GoT.v Int [.int .i64 1]] h ⟨rfl,rfl,trivial⟩ (PV.done h (qef h qo0 (qbV (qO (S:=fun _=>False) rfl)) (by rfl)))
 refine qeq ?_
 obtain ⟨KF1,hKF1,o1,hF,hK1⟩:=bindE hF
 refine qcw (fun e w'=>∃ (b1:Bool),KF1 b1=some r∧e=[(1,.slice p6 list.length k6),(2,.slice p7 used.length k7),(3,.pointer (some ⟨bb1,0,none⟩)),(12,.bool b1)]∧SH w w' [Ch.box bb1 (qbw b p1 p2 p3 p4 p5 k1 k2 k3 k4 k5) 48]) ?_ ?_
 ·refine X1 3 0 h rfl (zcB h hF (qgu (h.old ha1) ⟨_,_,rfl,(h.oldS s6)⟩) rfl fun r3 w4 h hF=>zp2 rfl (qg (t:=17) hF rfl ?_ ?_))<;>intro hF
  ·refine X0 7 rfl ?_
   obtain rfl:=qa hF
   exact rG ⟨_,hK1,rfl,h⟩ rfl
  refine X0 5 rfl (zcB h hF (qkm ⟨_,_,rfl,(h.oldS s6)⟩ ⟨_,_,rfl,(h.oldS s7)⟩) rfl fun r4 w5 h hF=>X0 5 rfl ?_)
  obtain rfl:=qa hF
  exact rG ⟨_,hK1,rfl,h⟩ rfl
 rintro e1 w6 ⟨b1,hF,rfl,h⟩
 subst hKF1
 refine qh rfl hF ?_ ?_<;>intro hF
 ·refine X0 5 rfl ?_
  obtain rfl:=qa hF
  exact qbh qe (ρ:=((List Int) × Int)) [GoT.v (List Int) [.slice none 0 0],GoT.v Int [.int .i64 2]] h ⟨rfl,rfl,trivial⟩ (PV.done h (qef h qo0 (qbV (qO (S:=fun _=>False) rfl)) (by rfl)))
 refine X1 7 0 h rfl (zcL h hF (qhz (h.old ha1) ⟨_,_,rfl,(h.oldS s6)⟩ ⟨_,_,rfl,(h.oldS s7)⟩) rfl fun r2 w3 S1 p8 k8 h hF=>X0 3 rfl ?_)
 obtain rfl:=qa hF
 exact qbh qe (ρ:=((List Int) × Int)) [GoT.v (List Int) [.slice p8 r2.length k8],GoT.v Int [.int .i64 0]] h ⟨rfl,rfl,trivial⟩ (PV.done h (qef h (qaC 0 h rfl) (qbV (qO (S:=fun _=>False) rfl)) (by rfl)))
end Go.Fw


namespace Go.Fw
open Go
set_option maxRecDepth 100000
def lvB (br:List Int) (m:Nat):List Bool:=pre (fun k=>!br.any fun y=>y==(k:Int)) m
def brB (br:List Int) (m:Nat):Bool:=(br.all fun x=>inI x 0 ((m:Int)-1))&&incB br
theorem qnK {br:List Int} {m:Nat} (hl:br.length≤1048576) (hm:m≤10000):Ev (fun n=>qe1 n br (m:Int)) (brB br m):=by
 have hL:Ev (fun n=>qaT br (m:Int) n 0) (bif allN (fun j=>inI (gt br j) 0 ((m:Int)-1)&&stepB br j) br.length then .nxt (br.length:Int) else .ret false):=by
  refine qcE (Lf:=qaT br (m:Int)) (len:=br.length) (Ev.succ (by simp only [qaT,qi (je _),cond_false];exact .done)) (fun j hj X hX=>Ev.succ ?_)
  simp only [qaT,qj hj,cond_true,qan hj,jd,qdj,wS j,wO ((m:Int)-1)]
  cases h1:inI (gt br j) 0 ((m:Int)-1)
  ·exact .done
  ·refine Ev.ff rfl ?_
   by_cases h0:j=0
   ·subst h0
    exact Ev.ff rfl hX
   ·refine Ev.tt (decide_eq_true (by omega)) ?_
    rw [show (j:Int)-1=((j-1:Nat):Int) by omega,qap (by omega) (by omega),qan (show j-1<br.length by omega)]
    simp only [jd]
    have es:stepB br j=decide (gt br (j-1)<gt br j):=by
     unfold stepB
     rw [decide_eq_false h0,Bool.false_or]
     rfl
    rw [es]
    by_cases hlt:gt br (j-1)<gt br j
    ·rw [decide_eq_true hlt]
     exact Ev.ff (decide_eq_false (by omega)) hX
    ·rw [decide_eq_false hlt]
     exact Ev.tt (decide_eq_true (by omega)) .done
 unfold qe1
 refine Ev.bind hL ?_
 unfold brB incB
 rw [qfX,←qha]
 cases allN (fun j=>inI (gt br j) 0 ((m:Int)-1)&&stepB br j) br.length<;>exact .done
end Go.Fw


namespace Go.Fw
open Go
set_option maxRecDepth 100000
structure CLk (b:qp) (x:qer) (i j m net a:Nat):Prop where
 kind:x.Ar=1
 il:i<b.Ab.Aa.length
 jl:j<(places b.Ab).length
 inst:(gt (places b.Ab) j).instance_=(i:Int)
 net_:(gt (places b.Ab) j).net=(net:Int)
 nl:net<b.Aq.length
 half:W64 (x.To.tdiv 2)=(j:Int)
 mod:x.To.tmod 2=(m:Int)
 ml:m<2
 ix:x.Bv=(a:Int)
 al:a<(cellAt b (i:Int)).Ak.length
 d2:(gt (cellAt b (i:Int)).Ak a).At.length=2
 s2:(gt (cellAt b (i:Int)).Ak a).Bb.length=2
 dt:∀ t,t ∈ (gt (cellAt b (i:Int)).Ak a).At→TbOk t∧∀ k,0≤at0 t.Ap k
 st:∀ t,t ∈ (gt (cellAt b (i:Int)).Ak a).Bb→TbOk t∧∀ k,0≤at0 t.Ap k
structure WLk (b:qp) (x:qer) (j net k:Nat):Prop where
 kind:x.Ar=2
 jl:j<(places b.Ab).length
 net_:(gt (places b.Ab) j).net=(net:Int)
 nl:net<b.Aq.length
 half:W64 (x.To.tdiv 2)=(j:Int)
 ix:x.Bv=(k:Int)
 kl:k<(gt b.Aq net).Be.length
end Go.Fw


namespace Go.Fw
open Go
set_option maxRecDepth 100000
def slR (s:qbd):Prop:=(0≤s.Bm∧s.Bm≤1000000)∧(0≤s.Bs∧s.Bs≤1000000)
structure TmOk (t:qhn) (M:Nat):Prop where
 r:t.Bu.length=M
 a:t.Bo.length=M
 s:t.Bb.length=M
 sl:∀ k,k<M→slR (gt t.Bb k)
structure SrcOk (xs:List qeD):Prop where
 len:xs.length≤1048576
 inc:∀ j i,i<j→j<xs.length→(gt xs i).Bt<(gt xs j).Bt
 sl:∀ x,x ∈ xs→slR x.Bb
section
variable {b:qp} {c:qf6} {ex:List Int} {f:Nat→qbd→qbd × qbd} {lv:List Bool} {t:qhn} {xs:List qeD} {node:Int}
end
end Go.Fw


namespace Go.Fw
open Go
set_option maxRecDepth 100000
def stepN (xs:List qeD) (j:Nat):Bool:=decide (j=0) || decide ((gt xs (j-1)).Bt<(gt xs j).Bt)
def srcB (xs:List qeD) (M:Nat):Bool:=allN (fun j=>inI (gt xs j).Bt 0 ((M:Int)-1)&&(stepN xs j&&(spanB (gt xs j).Bo&&slewB (gt xs j).Bb))) xs.length
section
variable {L:Nat} {fr to:Nat→Int} {lv:Nat→Bool} {n:Nat}
def OrdOk (L:Nat) (fr to:Nat→Int) (lv:Nat→Bool) (n:Nat) (R:List Nat):Prop:=∀ l1 k l2,R=l1++k::l2→k<n∧k ∉ l1∧inN L fr to lv l1 k=0
theorem OrdOk.snoc {R:List Nat} {k:Nat} (h:OrdOk L fr to lv n R) (hk:nxtN L fr to lv n R=some k):OrdOk L fr to lv n (R++[k]):=by
 intro l1 k' l2 e
 rcases List.eq_nil_or_concat l2 with rfl|⟨l2',z,rfl⟩
 ·obtain ⟨rfl,e2⟩:=List.append_inj' e rfl
  obtain rfl:k=k':=by simpa using e2
  exact qn2 hk
 ·have e':R++[k]=(l1++k'::l2')++[z]:=by rw [e];simp
  obtain ⟨e1,_⟩:=List.append_inj' e' rfl
  exact h l1 k' l2' e1
theorem OrdOk.at {R:List Nat} (h:OrdOk L fr to lv n R) {j:Nat} (hj:j<R.length):R[j]<n∧R[j] ∉ R.take j∧inN L fr to lv (R.take j) R[j]=0:=by
 refine h (R.take j) R[j] (R.drop (j+1)) ?_
 rw [←jE hj,List.take_append_drop]
end
theorem qpu {α:Type} [Inhabited α] {xs:List α} {a k:Nat} {y:α} (ha:a<xs.length):gt (setS xs (a:Int) y) k=if k=a then y else gt xs k:=by
 unfold setS
 rw [jz]
 by_cases h:k=a
 ·subst h;rw [if_pos rfl,qmi ha]
 ·rw [if_neg h,qnI h]
section
variable {b:qp} {c:qf6} {ex:List Int} {f g:Nat→qbd→qbd × qbd} {lv:List Bool} {t:qhn} {xs:List qeD} {node:Int}
end
end Go.Fw


namespace Go.Fw
open Go Go.Proofs
open Go.RowKit (Below)
set_option maxRecDepth 100000
set_option maxHeartbeats 1600000
variable {n:Nat} {w:World} {cs1 cs2 cs3 cs4 cs5 cs6 cs7 cs8 cs9:List Value}
end Go.Fw


namespace Go.Fw
open Go Go.Proofs
open Go.RowKit (Below)
set_option maxRecDepth 100000
set_option maxHeartbeats 1600000
variable {n:Nat} {w:World} {cs1 cs2 cs3 cs4 cs5 cs6 cs7 cs8 cs9:List Value}
end Go.Fw


namespace Go.Fw
open Go Go.Proofs
open Go.RowKit (Below)
set_option maxRecDepth 100000
set_option maxHeartbeats 1600000
variable {n:Nat} {w:World} {cs1 cs2 cs3 cs4 cs5 cs6 cs7 cs8 cs9:List Value}
def qfg (_:Nat) (a:(List qb)) (left:Int):Option Int :=
 bif decide ((W64 (left-(a.length:Int)))<0) then some (-1) else
 some (W64 (left-(a.length:Int)))
theorem qif {a:(List qb)} {left:Int} (ha1:GoT.R w (old w) a cs1) {r:Int} (hF:qfg n a left=some r):RetV Tryz.prog 10 [GoT.v (List qb) cs1,.int .i64 left] w r:=by
 obtain ⟨p1,k1,rfl,s1⟩:=ha1
 refine zV 12 Tryz.func10 rfl fun h=>X0 18 rfl (qh rfl hF ?_ ?_)<;>intro hF
 ·exact X0 4 rfl (ri h hF rfl)
 exact X0 6 rfl (ri h hF rfl)
def qdH (_:Nat) (a:qb):Option qb :=
 some (⟨a.A,a.B,a.Bd⟩:qb)
theorem qiK {a:qb} (ha1:GoT.R w (old w) a cs1) {r:qb} (hF:qdH n a=some r):RetV Tryz.prog 58 [GoT.v qb cs1] w r:=by
 obtain rfl:=qC ha1
 refine zV 14 Tryz.func58 rfl fun h=>zSR (qy h rfl rfl fun w1 bb1 h=>qM qe h rfl rfl rfl fun w2 bb2 h=>zNSR (qM qe h rfl rfl rfl fun w3 bb3 h=>X1 6 2 h rfl (zs 0 h rfl fun w4 h=>X1 6 2 h rfl (zs 0 h rfl fun w5 h=>X1 6 2 h rfl (zs 0 h rfl fun w6 h=>X1 4 0 h rfl (zs 1 h rfl fun w7 h=>qd1 ?_))))))
 obtain rfl:=qa hF
 exact qbh qe (ρ:=qb) [GoT.v qb (qfK a)] h ⟨⟨_,_,_,rfl,rfl,h.box 1 rfl,rfl⟩,trivial⟩ (PV.done h (qbV (qO (S:=fun _=>False) (qaM (⟨a.A,a.B,a.Bd⟩:qb)))))
def qb2 (a:(List qb)):Nat→(List qb)→Int→Option ((List qb) × Int)
 | 0,_,_=>none
 | n+1,x2,i1 =>
  bif decide (i1<(a.length:Int)) then
   (idx a i1).bind fun y1 =>
   (qdH n y1).bind fun r1 =>
   (idx x2 i1).bind fun _ =>
   qb2 a n (setS x2 i1 r1) (W64 (i1+1))
  else
   some (x2,i1)
def qbA (n:Nat) (a:(List qb)):Option (List qb) :=
 (mkS (a.length:Int) ((⟨0,0,0⟩:qb):qb)).bind fun x1 =>
 (qb2 a n x1 0).bind fun o=>match o with
 | (x2,_) =>
  some x2
theorem qc7 {a:(List qb)} (ha1:GoT.R w (old w) a cs1) {r:(List qb)} (hF:qbA n a=some r):RetV Tryz.prog 13 [GoT.v (List qb) cs1] w r:=by
 obtain ⟨p1,k1,rfl,s1⟩:=ha1
 refine zV 23 Tryz.func13 rfl fun h=>X0 8 rfl ?_
 obtain ⟨x1,hx1,hF⟩:=qf hF
 obtain ⟨g1,g2,hx1⟩:=qb4 hx1
 refine qc6 qe qb h rfl rfl rfl rfl rfl rfl rfl rfl rfl g1 g2 hx1 rfl fun w1 S1 p2 h=>X0 7 rfl ?_
 obtain ⟨o1,hF,hK1⟩:=qf hF
 refine qm (rL (fun m e w'=>∃ (x2:(List qb)) (i1:Int),qb2 a m x2 i1=some o1∧e=[(0,.slice p1 a.length k1),(3,.slice p2 x1.length x1.length),(4,.int .i64 i1)]∧SH w w' [Ch.own S1 (x2:List qb) [.slice p2 x1.length x1.length]]) n ⟨_,_,hF,rfl,h⟩ rfl ?_)
 rintro m1 e1 w2 ⟨x2,i1,hF,rfl,h⟩
 rcases m1 with _|m1
 ·cases hF
 refine X0 8 rfl (qh rfl hF ?_ ?_)<;>intro hF
 ·refine X0 8 rfl ?_
  obtain ⟨y1,hy1,hF,he1,b1,_,q1,cs2,hp1,hq1,hr1,hc2⟩:=s1.ix hF
  obtain rfl:=qC hr1
  refine zxe hp1 hq1 he1 rfl (zc 0 (hc2.below h.below) rfl (zcO h hF (qiK (qaM y1)) rfl fun r1 w3 S2 cs3 h hF=>?_))
  obtain rfl:=qC (h.own 0 rfl)
  obtain ⟨y2,hy2,hF,he2,b2,_,q2,cs4,hp2,hq2,hr3,hc3⟩:=(h.sl 1 rfl).1.ix hF
  obtain rfl:=qC hr3
  refine zx hp2 hq2 ⟨he2.1,qK he2.2.1 (h.sl 1 rfl).2⟩ rfl (qaN qe 1 0 r1 h rfl hy2 hp2 hq2 (qaM y2) hc3 rfl rfl rfl (qaM r1) rfl rfl rfl fun w4 h=>X0 7 rfl ?_)
  replace h:=h.pick [1] rfl
  exact rK ⟨_,_,hF,rfl,h⟩ rfl
 refine qq rfl ?_
 obtain rfl:=qa hF;replace hF:=hK1
 refine X0 5 rfl ?_
 obtain rfl:=qa hF
 exact rO 0 h rfl ⟨rfl,trivial⟩
def qdP (_:Nat) (a:qb) (b:qb):Option Bool :=
 bif (a.A != b.A) then some false else
 bif (a.B != b.B) then some false else
 bif (a.Bd != b.Bd) then some false else
 some true
theorem qiF {a:qb} {b:qb} (ha1:GoT.R w (old w) a cs1) (ha2:GoT.R w (old w) b cs2) {r:Bool} (hF:qdP n a b=some r):RetV Tryz.prog 66 [GoT.v qb cs1,GoT.v qb cs2] w r:=by
 obtain rfl:=qC ha1
 obtain rfl:=qC ha2
 refine zV 20 Tryz.func66 rfl fun h=>zSR (qy h rfl rfl fun w1 bb1 h=>qy h rfl rfl fun w2 bb2 h=>X2 11 1 0 h rfl (qh rfl hF ?_ ?_))<;>intro hF
 ·exact X0 4 rfl (rb h hF rfl)
 refine X2 10 1 0 h rfl (qh rfl hF ?_ ?_)<;>intro hF
 ·exact X0 4 rfl (rb h hF rfl)
 refine X2 10 1 0 h rfl (qh rfl hF ?_ ?_)<;>intro hF
 ·exact X0 4 rfl (rb h hF rfl)
 exact X0 5 rfl (rb h hF rfl)
def qbY (a:(List qb)) (b:(List qb)):Nat→Int→Option (Flow Bool Int)
 | 0,_=>none
 | n+1,i1 =>
  bif decide (i1<(a.length:Int)) then
   (idx a i1).bind fun y1 =>
   (idx b i1).bind fun y2 =>
   (qdP n y1 y2).bind fun r1 =>
   bif (!r1) then some (.ret false) else
   qbY a b n (W64 (i1+1))
  else
   some (.nxt i1)
def qel (n:Nat) (a:(List qb)) (b:(List qb)):Option Bool :=
 bif ((a.length:Int) != (b.length:Int)) then some false else
 (qbY a b n 0).bind fun o=>match o with
 | .ret r=>some r
 | .nxt _ =>
  some true
theorem qio {a:(List qb)} {b:(List qb)} (ha1:GoT.R w (old w) a cs1) (ha2:GoT.R w (old w) b cs2) {r:Bool} (hF:qel n a b=some r):RetV Tryz.prog 18 [GoT.v (List qb) cs1,GoT.v (List qb) cs2] w r:=by
 obtain ⟨p1,k1,rfl,s1⟩:=ha1
 obtain ⟨p2,k2,rfl,s2⟩:=ha2
 refine zV 27 Tryz.func18 rfl fun h=>X0 13 rfl (qh rfl hF ?_ ?_)<;>intro hF
 ·exact X0 4 rfl (rb h hF rfl)
 refine X0 6 rfl ?_
 obtain ⟨o1,hF,hK1⟩:=qf hF
 refine qm (rL (fun m e w'=>∃ (i1:Int),qbY a b m i1=some o1∧e=[(0,.slice p1 a.length k1),(1,.slice p2 b.length k2),(5,.int .i64 i1)]∧SH w w' []) n ⟨_,hF,rfl,h⟩ rfl ?_)
 rintro m1 e1 w1 ⟨i1,hF,rfl,h⟩
 rcases m1 with _|m1
 ·cases hF
 refine X0 8 rfl (qh rfl hF ?_ ?_)<;>intro hF
 ·refine X0 4 rfl (rD (zd2 rfl ?_))
  obtain ⟨y1,hy1,hF,he1,b1,_,q1,cs3,hp1,hq1,hr1,hc3⟩:=s1.ix hF
  obtain rfl:=qC hr1
  refine zdxe hp1 hq1 he1 rfl (zdc 0 (hc3.below h.below) rfl (zd2 rfl ?_))
  obtain ⟨y2,hy2,hF,he2,b2,_,q2,cs4,hp2,hq2,hr2,hc4⟩:=s2.ix hF
  obtain rfl:=qC hr2
  refine zdxe hp2 hq2 he2 rfl (zdc 0 (hc4.below h.below) rfl ?_)
  obtain ⟨r1,hr3,hF⟩:=qf hF
  refine qbz r1 (vsB _) (cB 66 rfl) (fun _ hb=>qiF (qaM y1) (qaM y2) hr3) rfl rfl rfl rfl (zd1 rfl (dN h fun w2 h=>qh rfl hF ?_ ?_))<;>intro hF
  ·refine X0 4 rfl ?_
   obtain rfl:=qa hF;replace hF:=hK1
   exact rb h hF rfl
  exact X0 7 rfl (rK ⟨_,hF,rfl,h⟩ rfl)
 refine qq rfl ?_
 obtain rfl:=qa hF;replace hF:=hK1
 exact X0 4 rfl (rb h hF rfl)
def qa1 (a:(List Int)):Nat→(List Int)→Int→Int→Option ((List Int) × Int × Int)
 | 0,_,_,_=>none
 | n+1,x1,i1,i2 =>
  bif decide (i2<(a.length:Int)) then
   (idx x1 i2).bind fun _ =>
   qa1 a n (setS x1 i2 i1) (W64 (i1+1)) (W64 (i2+1))
  else
   some (x1,i1,i2)
def qR (n:Nat) (a:(List Int)) (k:Int):Option (Int × (List Int)) :=
 (qa1 a n a k 0).bind fun o=>match o with
 | (x1,i1,_) =>
  some (i1,x1)
theorem qS {n:Nat} {w0 w:World} {F:List Ch} {a:(List Int)} {k:Int} {S1:Nat→Prop} {p1:Option Addr} {ln1 k1:Nat} (h:SH w0 w (Ch.own S1 (a:List Int) [.slice p1 ln1 k1]::F)) {r:(Int × (List Int))} (hF:qR n a k=some r):RetN Tryz.prog 21 [.slice p1 ln1 k1,.int .i64 k] w (fun w'=>∃ Z0:Nat→Prop,SH w0 w' (Ch.own Z0 (r.2:List Int) [.slice p1 ln1 k1]::F)) r.1:=by
 refine qa6 Tryz.func21 rfl (m:=19) rfl rfl ?_
 obtain rfl:=(h.sl 0 rfl).2
 refine X0 9 rfl ?_
 obtain ⟨o1,hF,hK1⟩:=qf hF
 refine qm (rL (fun m e w'=>∃ (x1:(List Int)) (i1:Int) (i2:Int),qa1 a m x1 i1 i2=some o1∧e=[(0,.slice p1 a.length k1),(1,.int .i64 i1),(5,.int .i64 i2)]∧SH w0 w' (Ch.own S1 (x1:List Int) [.slice p1 a.length k1]::F)) n ⟨_,_,_,hF,rfl,h⟩ rfl ?_)
 rintro m1 e1 w1 ⟨x1,i1,i2,hF,rfl,h⟩
 rcases m1 with _|m1
 ·cases hF
 refine X0 8 rfl (qh rfl hF ?_ ?_)<;>intro hF
 ·refine X0 8 rfl ?_
  obtain ⟨y1,hy1,hF,he1,b1,_,q1,cs1,hp1,hq1,rfl,hc2⟩:=(h.sl 0 rfl).1.ix hF
  exact zx hp1 hq1 ⟨he1.1,qK he1.2.1 (h.sl 0 rfl).2⟩ rfl (qaN qe 0 0 i1 h rfl hy1 hp1 hq1 rfl hc2 rfl rfl rfl rfl rfl rfl rfl fun w2 h=>X0 12 rfl (rK ⟨_,_,_,hF,rfl,h⟩ rfl))
 refine qq rfl ?_
 obtain rfl:=qa hF;replace hF:=hK1
 refine X0 5 rfl ?_
 obtain rfl:=qa hF
 exact qfi qe ⟨_,h⟩ ⟨rfl,trivial⟩
def qa2 (a:(List Int)):Nat→Int→Int→Option (Flow Int (Int × Int))
 | 0,_,_=>none
 | n+1,i1,i2 =>
  bif decide (i2<(a.length:Int)) then
   (idx a i2).bind fun y1 =>
   bif (y1 != i1) then some (.ret (-1)) else
   qa2 a n (W64 (i1+1)) (W64 (i2+1))
  else
   some (.nxt (i1,i2))
def qdK (n:Nat) (a:(List Int)) (k:Int):Option Int :=
 (qa2 a n k 0).bind fun o=>match o with
 | .ret r=>some r
 | .nxt (i1,_) =>
  some i1
theorem qgz {a:(List Int)} {k:Int} (ha1:GoT.R w (old w) a cs1) {r:Int} (hF:qdK n a k=some r):RetV Tryz.prog 22 [GoT.v (List Int) cs1,.int .i64 k] w r:=by
 obtain ⟨p1,k1,rfl,s1⟩:=ha1
 refine zV 21 Tryz.func22 rfl fun h=>X0 9 rfl ?_
 obtain ⟨o1,hF,hK1⟩:=qf hF
 refine qm (rL (fun m e w'=>∃ (i1:Int) (i2:Int),qa2 a m i1 i2=some o1∧e=[(0,.slice p1 a.length k1),(1,.int .i64 i1),(5,.int .i64 i2)]∧SH w w' []) n ⟨_,_,hF,rfl,h⟩ rfl ?_)
 rintro m1 e1 w1 ⟨i1,i2,hF,rfl,h⟩
 rcases m1 with _|m1
 ·cases hF
 refine X0 8 rfl (qh rfl hF ?_ ?_)<;>intro hF
 ·refine X0 8 rfl ?_
  obtain ⟨y1,hy1,hF,he1,b1,_,q1,cs2,hp1,hq1,rfl,hc2⟩:=s1.ix hF
  refine zxe hp1 hq1 he1 rfl (zc 0 (hc2.below h.below) rfl (X0 3 rfl (qh rfl hF ?_ ?_)))<;>intro hF
  ·refine X0 4 rfl ?_
   obtain rfl:=qa hF;replace hF:=hK1
   exact ri h hF rfl
  exact X0 12 rfl (rK ⟨_,_,hF,rfl,h⟩ rfl)
 refine qq rfl ?_
 obtain rfl:=qa hF;replace hF:=hK1
 exact X0 5 rfl (ri h hF rfl)
end Go.Fw


namespace Go.Fw
open Go
def qei (x:qb):Prop:=rngI x.A∧rngI x.B∧rngI x.Bd
structure qjF (x:qb):Prop where
 A:okI x.A
 B:okI x.B
 Bd:okI x.Bd
theorem qlg {x:qb} (h:qei x):qjF x:=⟨h.1,h.2.1,h.2.2⟩
theorem ql8 {a:qb}:Ev (fun n=>qdP n a a) true:=by
 unfold qdP
 exact Ev.ff qav (Ev.ff qav (Ev.ff qav (.done)))
def qa3 (a:(List qb)):Nat:=a.length
theorem qkT {a:(List qb)} (h:(rngL qei) a) (w:qa3 a≤1048576):(okL qjF) a :=
 ⟨by simp only [qa3] at w;omega,fun x hx=>qlg (h.2 x hx)⟩
theorem qlN {a:(List qb)} (h:qa3 a≤1048576):Ev (fun n=>qel n a a) true:=by
 have hl:a.length≤1048576:=by simp only [qa3] at h;omega
 unfold qel
 exact Ev.ff (by simp) (Ev.bind (b:=.nxt (a.length:Int)) (qfs (eqf:=qdP) (fun x hx=>ql8)
  (fun n=>by simp only [qbY,qi (je _),cond_false])
  (fun n j x hx=>by
   have hj:=(List.getElem?_eq_some_iff.1 hx).1
   simp only [qbY,qj hj,cond_true,qA hx,jd,wS j])) .done)
structure qo8 (x:qjg):Prop where
 Cb:okI x.Cb
 Bx:okI x.Bx
structure qlQ (x:qfh):Prop where
 Az:okI x.Az
 To:okI x.To
 At:okI x.At
 Bz:okI x.Bz
structure qo1 (x:qjc):Prop where
 Bw:(okL qo8) x.Bw
 Ca:(okL qlQ) x.Ca
structure qkd (x:qbd):Prop where
 Bm:okI x.Bm
 Bs:okI x.Bs
structure qqn (x:qeD):Prop where
 Bt:okI x.Bt
 Bo:qkd x.Bo
 Bb:qkd x.Bb
structure qql (x:qhn):Prop where
 Bu:(okL okT) x.Bu
 Bo:(okL qkd) x.Bo
 Bb:(okL qkd) x.Bb
structure qqm (x:qf6):Prop where
 Am:okS x.Am
 Bn:okI x.Bn
 Br:okI x.Br
 Bp:okI x.Bp
 Bq:okI x.Bq
theorem qlY {a:(List qb)} {left:Int} (h:(rngL qei) a) (h0:0≤left) (h1:left≤1048576):Sz (fun n=>qfg n a left) (fun r=>r=left-(qa3 a:Int)) :=
 Sz.less h0 h1 (by omega) (by have:=h.1;omega) (fun _=>rfl)
theorem qml {a:qb}:Ev (fun n=>qdH n a) a:=by
 unfold qdH
 exact .done
theorem qf1 {a:(List qb)} (h:qa3 a≤1048576):Ev (fun n=>qbA n a) a:=by
 have hl:a.length≤1048576:=by simp only [qa3] at h;omega
 unfold qbA
 exact Ev.bindN (qfx (by omega)) (Ev.bind (b:=(a,(a.length:Int))) (qfu (cp:=qdH) (fun x hx=>qml)
  (fun acc n=>by simp only [qb2,qi (je _),cond_false])
  (fun acc n j x y hx hy=>by
   have hj:=(List.getElem?_eq_some_iff.1 hx).1
   simp only [qb2,qj hj,cond_true,qA hx,qA hy,jd,wS j])) .done)
end Go.Fw


namespace Go.Fw
open Go
set_option maxRecDepth 100000
abbrev lkB (b:qp):Nat:=(linksL b).length
abbrev ndB (b:qp):Nat:=2*(places b.Ab).length
abbrev lvJ (b:qp) (br:List Int):List Bool:=lvB br (lkB b)
structure TgOk (b:qp) (c:qf6) (br:List Int) (xs:List qeD) (R:List Nat):Prop where
 bl:blockB b=true
 co:cornerB c=true
 br_:brB br (lkB b)=true
 sr:srcB xs (ndB b)=true
 or_:ordL (linksL b) (lvJ b br) (ndB b) (ndB b) []=some R
theorem TgOk.len {b:qp} {c:qf6} {br:List Int} {xs:List qeD} {R:List Nat} (h:TgOk b c br xs R):R.length=ndB b:=by
 have:=qoT (ndB b) [] R h.or_
 simpa using this
end Go.Fw


namespace Go.Fw
open Go
set_option maxRecDepth 100000
section
variable {b:qp} {t:qhn} {net:Int}
end
theorem qnu {b:qp} {ks:List qb} (h:cplsB b ks=true):ks.length≤20∧∀ k,k<ks.length→netB b.Ab (gt ks k).A=true∧netB b.Ab (gt ks k).B=true∧(gt ks k).A<(gt ks k).B:=by
 unfold cplsB at h
 rw [jf,qaI,decide_eq_true_eq] at h
 refine ⟨h.2,fun k hk=>?_⟩
 have:=h.1 k hk
 unfold cplB at this
 simp only [jf,decide_eq_true_eq] at this
 exact ⟨this.1.1,this.1.2.1,this.1.2.2.1⟩
section
variable {b:qp} {t:qhn} {ks:List qb}
end
def addE (s:List Int) (x:qb):List Int:=setS (setS s x.A (W64 (gt s x.A.toNat+x.Bd))) x.B (W64 (gt s x.B.toNat+x.Bd))
def exS (ks:List qb) (m:Nat) (used:List Int):Nat→List Int
 | 0=>List.replicate m 0
 | j+1=>addE (exS ks m used j) (gt ks (at0 used j).toNat)
theorem qlE {ks:List qb} {m:Nat} {used:List Int} {j:Nat}:(exS ks m used j).length=m:=by
 induction j with
 | zero=>exact List.length_replicate
 | succ j ih=>show (setS (setS _ _ _) _ _).length=m;rw [qhf,qhf];exact ih
theorem inRange0 {x:Int} {m:Nat} (h:inI x 0 ((m:Int)-1)=true):0≤x∧x<(m:Int)∧x.toNat<m:=by rw [qb7] at h;omega
theorem qp5 {br:List Int} {m:Nat} (h:brB br m=true) {i:Nat} (hi:i<br.length):∃ k:Nat,k<m∧at0 br i=(k:Int):=by
 unfold brB at h
 rw [jf,jy] at h
 have:=h.1 _ (jq hi)
 obtain ⟨r0,r1,r2⟩:=inRange0 this
 exact ⟨br[i].toNat,r2,by rw [qoy hi];exact qje r0⟩
section
variable {b:qp} {ks:List qb} {used:List Int}
theorem qns (hc:cplsB b ks=true) (hu:brB used ks.length=true) {i:Nat} (hi:i<used.length) {s:List Int} (hs:s.length=b.Ab.Ac.length):∃ k:Nat,k<ks.length∧at0 used i=(k:Int)∧idx s (gt ks k).A=some (gt s (gt ks k).A.toNat) ∧
  ∀ v,idx (setS s (gt ks k).A v) (gt ks k).B=some (gt s (gt ks k).B.toNat):=by
 obtain ⟨k,hk,ek⟩:=qp5 hu hi
 obtain ⟨nA,nB,hlt⟩:=(qnu hc).2 k hk
 unfold netB at nA nB
 rw [qb7] at nA nB
 refine ⟨k,hk,ek,qjm nA.1 (by omega),fun v=>?_⟩
 have eA:=qje nA.1
 have eB:=qje nB.1
 rw [eA,eB,qan (by rw [qhf];omega),qpu (by omega),if_neg (by omega),jz]
theorem qmY (hc:cplsB b ks=true) (hnl:b.Ab.Ac.length≤1048576) (hul:used.length≤1048576) (hu:brB used ks.length=true):Ev (fun n=>qeQ n b ks used) (exS ks b.Ab.Ac.length used used.length):=by
 have hL:=loopF (Lf:=fun n s i=>qbN ks used n s i) (S:=exS ks b.Ab.Ac.length used) (len:=used.length) (fin:=(exS ks b.Ab.Ac.length used used.length,(used.length:Int)))
  (fun n=>by simp only [qbN,qi (je _),cond_false])
  (fun i hi X hX=>by
   obtain ⟨k,hk,ek,e1,e2⟩:=qns hc hu hi (qlE (ks:=ks) (used:=used) (j:=i))
   have eN:exS ks b.Ab.Ac.length used (i+1)=addE (exS ks b.Ab.Ac.length used i) (gt ks k):=by
    show addE _ _=_
    rw [ek,jz]
   rw [eN] at hX
   generalize exS ks b.Ab.Ac.length used i=s at e1 e2 hX ⊢
   simp only [qbN,qj hi,cond_true,qcZ hi,jd,ek,qan hk,e1,e2,wS i]
   exact hX)
 unfold qeQ
 simp only [qnB (show b.Ab.Ac.length≤2147483648 by omega),jd]
 exact Ev.bind hL .done
theorem qmb (h:blockB b=true) (hc:cplsB b ks=true) (hnl:b.Ab.Ac.length≤1048576) (hul:used.length≤1048576) (hu:brB used ks.length=true):Ev (fun n=>qc5 n b ks used) (exS ks b.Ab.Ac.length used used.length):=by
 have hL:=loopF (Lf:=fun n s i=>qaP ks used n s i) (S:=exS ks b.Ab.Ac.length used) (len:=used.length) (fin:=(exS ks b.Ab.Ac.length used used.length,(used.length:Int)))
  (fun n=>by simp only [qaP,qi (je _),cond_false])
  (fun i hi X hX=>by
   obtain ⟨k,hk,ek,e1,e2⟩:=qns hc hu hi (qlE (ks:=ks) (used:=used) (j:=i))
   have eN:exS ks b.Ab.Ac.length used (i+1)=addE (exS ks b.Ab.Ac.length used i) (gt ks k):=by
    show addE _ _=_
    rw [ek,jz]
   rw [eN] at hX
   generalize exS ks b.Ab.Ac.length used i=s at e1 e2 hX ⊢
   simp only [qaP,qj hi,cond_true,qcZ hi,jd,ek,qan hk,e1,e2,wS i]
   exact hX)
 have hwl:=qmZ h
 unfold qc5
 rw [show b.Aq.length=b.Ab.Ac.length by omega]
 simp only [qnB (show b.Ab.Ac.length≤2147483648 by omega),jd]
 exact Ev.bind hL .done
theorem qoe (hk:ks.length≤20) (hul:used.length≤1048576):Ev (fun n=>qgY n ks used) (brB used ks.length):=by
 unfold qgY brB
 have e1:W64 ((ks.length:Int)-1)=(ks.length:Int)-1:=qap (by omega) (by omega)
 simp only [qcD,jd,e1]
 refine Ev.bind (qdu hul) ?_
 cases used.all fun x=>inI x 0 ((ks.length:Int)-1)
 ·exact Ev.ff rfl .done
 ·exact Ev.tt rfl (Ev.bind (qhA hul) .done)
end
theorem qme {b:qp} {ks:List qb} {used:List Int} (hb:qi9 b) (hk:ks.length≤1048576) (hul:used.length≤1048576):∃ R:List Int × Int,Ev (fun n=>qfp n b ks used) R∧Ev (fun n=>qep n b ks used) R∧R.1.length≤1048576:=by
 unfold qfp qep
 have hnl:b.Ab.Ac.length≤1048576:=hb.Ab.Ac.len
 have s0:=qmx hb
 have i0:=qmT hb
 have s1:=qjS (b:=b) hnl hk
 have i1:=qjU (b:=b) hnl hk
 cases h1:blockB b
 ·rw [h1] at s0 i0
  exact ⟨([],1),Ev.bind s0 (Ev.tt rfl .done),Ev.bind i0 (Ev.tt rfl .done),Nat.zero_le _⟩
 rw [h1] at s0 i0
 cases hc:cplsB b ks
 ·rw [hc] at s1 i1
  exact ⟨([],2),Ev.bind s0 (Ev.ff rfl (Ev.bind (b:=true) (Ev.bind s1 (Ev.tt rfl .done)) (Ev.tt rfl .done))),Ev.bind i0 (Ev.ff rfl (Ev.bind (b:=true) (Ev.bind i1 (Ev.tt rfl .done)) (Ev.tt rfl .done))),Nat.zero_le _⟩
 rw [hc] at s1 i1
 have hkl:=(qnu hc).1
 have s2:=qnK (br:=used) (m:=ks.length) hul (by omega)
 have i2:=qoe (ks:=ks) hkl hul
 cases hu:brB used ks.length
 ·rw [hu] at s2 i2
  exact ⟨([],2),Ev.bind s0 (Ev.ff rfl (Ev.bind (b:=true) (Ev.bind s1 (Ev.ff rfl (Ev.bind s2 .done))) (Ev.tt rfl .done))),Ev.bind i0 (Ev.ff rfl (Ev.bind (b:=true) (Ev.bind i1 (Ev.ff rfl (Ev.bind i2 .done))) (Ev.tt rfl .done))),Nat.zero_le _⟩
 rw [hu] at s2 i2
 exact ⟨(exS ks b.Ab.Ac.length used used.length,0),Ev.bind s0 (Ev.ff rfl (Ev.bind (b:=false) (Ev.bind s1 (Ev.ff rfl (Ev.bind s2 .done))) (Ev.ff rfl (Ev.bind (qmY hc hnl hul hu) .done)))),Ev.bind i0 (Ev.ff rfl (Ev.bind (b:=false) (Ev.bind i1 (Ev.ff rfl (Ev.bind i2 .done))) (Ev.ff rfl (Ev.bind (qmb h1 hc hnl hul hu) .done)))),by show (exS _ _ _ _).length≤_;rw [qlE];exact hnl⟩
end Go.Fw


namespace Go.Fw
open Go Go.Proofs
open Go.RowKit (Below)
set_option maxRecDepth 100000
set_option maxHeartbeats 1600000
variable {n:Nat} {w:World} {cs1 cs2 cs3 cs4 cs5 cs6 cs7 cs8 cs9:List Value}
def qde:Nat→Int→ByteArray→Option (Int × ByteArray)
 | 0,_,_=>none
 | n+1,i1,z1 =>
  bif decide (i1 > 0) then
   (catB (strOf ([(⟨IntKind.wrap .u8 (W64 (48+(i1.tmod 10)))⟩:IntK .u8)]:List (IntK .u8))) z1).bind fun z2 =>
   qde n (W64 (i1.tdiv 10)) z2
  else
   some (i1,z1)
def qcc (n:Nat) (k:Int):Option ByteArray :=
 bif decide (k≤0) then some (⟨#[109,48]⟩:ByteArray) else
 (qde n k (⟨#[]⟩:ByteArray)).bind fun o=>match o with
 | (_,z1) =>
  (catB (⟨#[109]⟩:ByteArray) z1).bind fun z3 =>
  some z3
theorem qdi {k:Int}  {r:ByteArray} (hF:qcc n k=some r):RetV Tryz.prog 224 [.int .i64 k] w r:=by
 refine zV 20 Tryz.func224 rfl fun h=>X0 10 rfl (qh rfl hF ?_ ?_)<;>intro hF
 ·refine X0 4 rfl ?_
  obtain rfl:=qa hF
  exact qbh qe (ρ:=ByteArray) [_] h ⟨rfl,trivial⟩ (qnl _ _)
 refine X0 6 rfl ?_
 obtain ⟨o1,hF,hK1⟩:=qf hF
 refine qm (rL (fun m e w'=>∃ (i1:Int) (z1:ByteArray),qde m i1 z1=some o1∧e=[(0,.int .i64 i1),(3,.string z1)]∧SH w w' []) n ⟨_,_,hF,rfl,h⟩ rfl ?_)
 rintro m1 e1 w1 ⟨i1,z1,hF,rfl,h⟩
 rcases m1 with _|m1
 ·cases hF
 refine X0 6 rfl (qh rfl hF ?_ ?_)<;>intro hF
 ·refine X0 8 rfl (qbi qe [.tmp 11] _ ([(⟨IntKind.wrap .u8 (W64 (48+(i1.tmod 10)))⟩:IntK .u8)]:List (IntK .u8)) h rfl rfl rfl rfl rfl rfl rfl rfl rfl ⟨rfl,trivial⟩ rfl fun w2 p1 S1 h=>r_v (qpC qe (h.sl 0 rfl).1 (h.sl 0 rfl).2 rfl ⟨rfl,rfl⟩ ⟨rfl,rfl⟩ rfl rfl) rfl (zp1 rfl ?_))
  obtain ⟨z2,hx1,hF⟩:=qf hF
  obtain ⟨g1,hx1⟩:=qls hx1
  refine r_v (qpR g1 rfl rfl) rfl ?_
  rw [hx1]
  refine X0 8 rfl ?_
  replace h:=h.pick [] rfl
  exact rK ⟨_,_,hF,rfl,h⟩ rfl
 refine qq rfl ?_
 obtain rfl:=qa hF;replace hF:=hK1
 refine X0 3 rfl ?_
 obtain ⟨z3,hx2,hF⟩:=qf hF
 obtain ⟨g2,hx2⟩:=qls hx2
 refine r_v (qpR g2 rfl rfl) rfl ?_
 rw [hx2]
 refine X0 2 rfl ?_
 obtain rfl:=qa hF
 exact qbh qe (ρ:=ByteArray) [_] h ⟨rfl,trivial⟩ (qnl _ _)
def qcl (a:(List qF)):Nat→(List qF)→Int→Int→Option ((List qF) × Int × Int)
 | 0,_,_,_=>none
 | n+1,x1,i1,i2 =>
  bif decide (i2<(a.length:Int)) then
   (qcc n i1).bind fun r1 =>
   (idx x1 i2).bind fun y1 =>
   (idx (setS x1 i2 ({ y1 with Am:=r1 })) i2).bind fun y2 =>
   (idx (setS (setS x1 i2 ({ y1 with Am:=r1 })) i2 ({ y2 with Bh:=W64 (i1+1) })) i2).bind fun y3 =>
   (idx (setS (setS (setS x1 i2 ({ y1 with Am:=r1 })) i2 ({ y2 with Bh:=W64 (i1+1) })) i2 ({ y3 with Bg:=W64 ((W64 (i1+1))+1) })) i2).bind fun y4 =>
   qcl a n (setS (setS (setS (setS x1 i2 ({ y1 with Am:=r1 })) i2 ({ y2 with Bh:=W64 (i1+1) })) i2 ({ y3 with Bg:=W64 ((W64 (i1+1))+1) })) i2 ({ y4 with Ba:=(((W64 ((W64 ((W64 (i1+1))+1))+1)).tmod 3)==0) })) (W64 ((W64 ((W64 ((W64 (i1+1))+1))+1))+1)) (W64 (i2+1))
  else
   some (x1,i1,i2)
def qg5 (n:Nat) (a:(List qF)) (k:Int):Option (Int × (List qF)) :=
 (qcl a n a k 0).bind fun o=>match o with
 | (x1,i1,_) =>
  some (i1,x1)
theorem qi4 {n:Nat} {w0 w:World} {F:List Ch} {a:(List qF)} {k:Int} {S1:Nat→Prop} {p1:Option Addr} {ln1 k1:Nat} (h:SH w0 w (Ch.own S1 (a:List qF) [.slice p1 ln1 k1]::F)) {r:(Int × (List qF))} (hF:qg5 n a k=some r):RetN Tryz.prog 225 [.slice p1 ln1 k1,.int .i64 k] w (fun w'=>∃ Z0:Nat→Prop,SH w0 w' (Ch.own Z0 (r.2:List qF) [.slice p1 ln1 k1]::F)) r.1:=by
 refine qa6 Tryz.func225 rfl (m:=44) rfl rfl ?_
 obtain rfl:=(h.sl 0 rfl).2
 refine X0 9 rfl ?_
 obtain ⟨o1,hF,hK1⟩:=qf hF
 refine qm (rL (fun m e w'=>∃ (x1:(List qF)) (i1:Int) (i2:Int),qcl a m x1 i1 i2=some o1∧e=[(0,.slice p1 a.length k1),(1,.int .i64 i1),(5,.int .i64 i2)]∧SH w0 w' (Ch.own S1 (x1:List qF) [.slice p1 a.length k1]::F)) n ⟨_,_,_,hF,rfl,h⟩ rfl ?_)
 rintro m1 e1 w1 ⟨x1,i1,i2,hF,rfl,h⟩
 rcases m1 with _|m1
 ·cases hF
 refine X0 8 rfl (qh rfl hF ?_ ?_)<;>intro hF
 ·refine X0 8 rfl (zcS h hF qdi rfl fun r1 w2 h hF=>?_)
  obtain ⟨y1,hy1,hF,he1,b1,_,q1,cs1,hp1,hq1,hr2,hc2⟩:=(h.sl 0 rfl).1.ix hF
  obtain rfl:=qai hr2
  refine zx hp1 hq1 ⟨he1.1,qK he1.2.1 (h.sl 0 rfl).2⟩ rfl (zp1 rfl (qaN qe 0 0 ({ y1 with Am:=r1 }:qF) h rfl hy1 hp1 hq1 (qb1 y1) hc2 rfl rfl rfl (qb1 ({ y1 with Am:=r1 })) rfl rfl rfl fun w3 h=>X0 12 rfl ?_))
  obtain ⟨y2,hy2,hF,he2,b2,_,q2,cs2,hp2,hq2,hr3,hc3⟩:=(h.sl 0 rfl).1.ix hF
  obtain rfl:=qai hr3
  refine zx hp2 hq2 ⟨he2.1,qK he2.2.1 (h.sl 0 rfl).2⟩ rfl (zp1 rfl (qaN qe 0 1 ({ y2 with Bh:=W64 (i1+1) }:qF) h rfl hy2 hp2 hq2 (qb1 y2) hc3 rfl rfl rfl (qb1 ({ y2 with Bh:=W64 (i1+1) })) rfl rfl rfl fun w4 h=>X0 12 rfl ?_))
  obtain ⟨y3,hy3,hF,he3,b3,_,q3,cs3,hp3,hq3,hr4,hc4⟩:=(h.sl 0 rfl).1.ix hF
  obtain rfl:=qai hr4
  refine zx hp3 hq3 ⟨he3.1,qK he3.2.1 (h.sl 0 rfl).2⟩ rfl (zp1 rfl (qaN qe 0 2 ({ y3 with Bg:=W64 ((W64 (i1+1))+1) }:qF) h rfl hy3 hp3 hq3 (qb1 y3) hc4 rfl rfl rfl (qb1 ({ y3 with Bg:=W64 ((W64 (i1+1))+1) })) rfl rfl rfl fun w5 h=>X0 14 rfl ?_))
  obtain ⟨y4,hy4,hF,he4,b4,_,q4,cs4,hp4,hq4,hr5,hc5⟩:=(h.sl 0 rfl).1.ix hF
  obtain rfl:=qai hr5
  exact zx hp4 hq4 ⟨he4.1,qK he4.2.1 (h.sl 0 rfl).2⟩ rfl (zp1 rfl (qaN qe 0 3 ({ y4 with Ba:=(((W64 ((W64 ((W64 (i1+1))+1))+1)).tmod 3)==0) }:qF) h rfl hy4 hp4 hq4 (qb1 y4) hc5 rfl rfl rfl (qb1 ({ y4 with Ba:=(((W64 ((W64 ((W64 (i1+1))+1))+1)).tmod 3)==0) })) rfl rfl rfl fun w6 h=>X0 12 rfl (rK ⟨_,_,_,hF,rfl,h⟩ rfl)))
 refine qq rfl ?_
 obtain rfl:=qa hF;replace hF:=hK1
 refine X0 5 rfl ?_
 obtain rfl:=qa hF
 exact qfi qe ⟨_,h⟩ ⟨rfl,trivial⟩
def qby (a:(List ql)):Nat→(List ql)→Int→Int→Option ((List ql) × Int × Int)
 | 0,_,_,_=>none
 | n+1,x1,i1,i2 =>
  bif decide (i2<(a.length:Int)) then
   (idx x1 i2).bind fun y1 =>
   (qR n y1.Ay i1).bind fun o=>match o with
    | (r1,x2) =>
     (qR n y1.Av r1).bind fun o=>match o with
      | (r2,x3) =>
       (qR n y1.Ap r2).bind fun o=>match o with
        | (r3,x4) =>
         qby a n (setS x1 i2 (⟨x2,x3,x4⟩:ql)) r3 (W64 (i2+1))
  else
   some (x1,i1,i2)
def qeE (n:Nat) (a:(List ql)) (k:Int):Option (Int × (List ql)) :=
 (qby a n a k 0).bind fun o=>match o with
 | (x1,i1,_) =>
  some (i1,x1)
theorem qfZ {n:Nat} {w0 w:World} {F:List Ch} {a:(List ql)} {k:Int} {S1:Nat→Prop} {p1:Option Addr} {ln1 k1:Nat} (h:SH w0 w (Ch.own S1 (a:List ql) [.slice p1 ln1 k1]::F)) {r:(Int × (List ql))} (hF:qeE n a k=some r):RetN Tryz.prog 268 [.slice p1 ln1 k1,.int .i64 k] w (fun w'=>∃ Z0:Nat→Prop,SH w0 w' (Ch.own Z0 (r.2:List ql) [.slice p1 ln1 k1]::F)) r.1:=by
 refine qa6 Tryz.func268 rfl (m:=34) rfl rfl ?_
 obtain rfl:=(h.sl 0 rfl).2
 refine X0 9 rfl ?_
 obtain ⟨o1,hF,hK1⟩:=qf hF
 refine qm (rL (fun m e w'=>∃ (S2:Nat→Prop) (x1:(List ql)) (i1:Int) (i2:Int),qby a m x1 i1 i2=some o1∧e=[(0,.slice p1 a.length k1),(1,.int .i64 i1),(5,.int .i64 i2)]∧SH w0 w' (Ch.own S2 (x1:List ql) [.slice p1 a.length k1]::F)) n ⟨_,_,_,_,hF,rfl,h⟩ rfl ?_)
 rintro m1 e1 w1 ⟨S2,x1,i1,i2,hF,rfl,h⟩
 rcases m1 with _|m1
 ·cases hF
 refine X0 8 rfl (qh rfl hF ?_ ?_)<;>intro hF
 ·refine X0 7 rfl ?_
  obtain ⟨y1,hy1,hF⟩:=qf hF
  have he1:=qcz hy1
  obtain ⟨S3,S4,cs1,h⟩:=h.take hy1
  obtain ⟨p2,k2,p3,k3,p4,k4,rfl,-,-,-⟩:=qau (h.own 0 rfl)
  obtain ⟨S5,S6,S7,h⟩:=ql2 h
  obtain ⟨b1,hp1,-,-,hl2⟩:=h.holeAt 3 rfl
  obtain ⟨q1,hq1⟩:∃ q,q=0+(i2).toNat*GoT.k ql:=⟨_,rfl⟩
  refine zx hp1 hq1 ⟨he1.1,qK he1.2.1 hl2⟩ rfl (zp1 rfl (zc 0 (qbC h 3 rfl hp1 hq1) rfl (zp1 rfl ?_)))
  replace h:=h.pickT 4 [2,0,1,3] rfl
  obtain ⟨o2,hr1,hF⟩:=qf hF
  obtain ⟨r1,x2⟩:=o2
  refine qba r1 (cB 21 rfl) (qS h hr1) rfl rfl rfl rfl ?_
  rintro w2 ⟨S8,h⟩
  refine X0 6 rfl ?_
  obtain ⟨b2,hp2,-,-,hl4⟩:=h.holeAt 3 rfl
  obtain ⟨q2,hq2⟩:∃ q,q=0+(i2).toNat*GoT.k ql:=⟨_,rfl⟩
  refine zx hp2 hq2 ⟨he1.1,qK he1.2.1 hl4⟩ rfl (zp1 rfl (zc 1 (qbC h 3 rfl hp2 hq2) rfl (zp1 rfl ?_)))
  replace h:=h.pickT 4 [2,0,1,3] rfl
  obtain ⟨o3,hr2,hF⟩:=qf hF
  obtain ⟨r2,x3⟩:=o3
  refine qba r2 (cB 21 rfl) (qS h hr2) rfl rfl rfl rfl ?_
  rintro w3 ⟨S9,h⟩
  refine X0 5 rfl ?_
  obtain ⟨b3,hp3,-,-,hl6⟩:=h.holeAt 3 rfl
  obtain ⟨q3,hq3⟩:∃ q,q=0+(i2).toNat*GoT.k ql:=⟨_,rfl⟩
  refine zx hp3 hq3 ⟨he1.1,qK he1.2.1 hl6⟩ rfl (zp1 rfl (zc 2 (qbC h 3 rfl hp3 hq3) rfl (zp1 rfl ?_)))
  replace h:=h.pickT 4 [2,0,1,3] rfl
  obtain ⟨o4,hr3,hF⟩:=qf hF
  obtain ⟨r3,x4⟩:=o4
  refine qba r3 (cB 21 rfl) (qS h hr3) rfl rfl rfl rfl ?_
  rintro w4 ⟨S10,h⟩
  refine X0 8 rfl ?_
  obtain ⟨S11,h⟩:=h.gatherT 4 [3] (qlp (⟨x2,x3,x4⟩:ql) h (qaC 2 h rfl) (qaC 1 h rfl) (qaC 0 h rfl) (by rfl) (by rfl)) rfl
  replace h:=h.put
  obtain ⟨S12,h⟩:=qkQ (S:=_) h
  exact rK ⟨_,_,_,_,hF,rfl,h⟩ rfl
 refine qq rfl ?_
 obtain rfl:=qa hF;replace hF:=hK1
 refine X0 5 rfl ?_
 obtain rfl:=qa hF
 exact qfi qe ⟨_,h⟩ ⟨rfl,trivial⟩
def qcu (a:(List qz)):Nat→(List qz)→Int→Int→Option ((List qz) × Int × Int)
 | 0,_,_,_=>none
 | n+1,x1,i1,i2 =>
  bif decide (i2<(a.length:Int)) then
   (idx x1 i2).bind fun y1 =>
   (qeE n y1.At (W64 ((W64 ((W64 ((W64 (i1+1))+1))+1))+1))).bind fun o=>match o with
    | (r1,x2) =>
     (qeE n y1.Bb r1).bind fun o=>match o with
      | (r2,x3) =>
       qcu a n (setS x1 i2 (⟨i1,W64 (i1+1),W64 ((W64 (i1+1))+1),W64 ((W64 ((W64 (i1+1))+1))+1),x2,x3⟩:qz)) r2 (W64 (i2+1))
  else
   some (x1,i1,i2)
def qg4 (n:Nat) (a:(List qz)) (k:Int):Option (Int × (List qz)) :=
 (qcu a n a k 0).bind fun o=>match o with
 | (x1,i1,_) =>
  some (i1,x1)
theorem qiP {n:Nat} {w0 w:World} {F:List Ch} {a:(List qz)} {k:Int} {S1:Nat→Prop} {p1:Option Addr} {ln1 k1:Nat} (h:SH w0 w (Ch.own S1 (a:List qz) [.slice p1 ln1 k1]::F)) {r:(Int × (List qz))} (hF:qg4 n a k=some r):RetN Tryz.prog 226 [.slice p1 ln1 k1,.int .i64 k] w (fun w'=>∃ Z0:Nat→Prop,SH w0 w' (Ch.own Z0 (r.2:List qz) [.slice p1 ln1 k1]::F)) r.1:=by
 refine qa6 Tryz.func226 rfl (m:=55) rfl rfl ?_
 obtain rfl:=(h.sl 0 rfl).2
 refine X0 9 rfl ?_
 obtain ⟨o1,hF,hK1⟩:=qf hF
 refine qm (rL (fun m e w'=>∃ (S2:Nat→Prop) (x1:(List qz)) (i1:Int) (i2:Int),qcu a m x1 i1 i2=some o1∧e=[(0,.slice p1 a.length k1),(1,.int .i64 i1),(5,.int .i64 i2)]∧SH w0 w' (Ch.own S2 (x1:List qz) [.slice p1 a.length k1]::F)) n ⟨_,_,_,_,hF,rfl,h⟩ rfl ?_)
 rintro m1 e1 w1 ⟨S2,x1,i1,i2,hF,rfl,h⟩
 rcases m1 with _|m1
 ·cases hF
 refine X0 8 rfl (qh rfl hF ?_ ?_)<;>intro hF
 ·refine X0 8 rfl ?_
  obtain ⟨y1,hy1,hF⟩:=qf hF
  have he1:=qcz hy1
  obtain ⟨S3,S4,cs1,h⟩:=h.take hy1
  obtain ⟨p2,k2,p3,k3,rfl,-,-⟩:=qaa (h.own 0 rfl)
  obtain ⟨S5,S6,h⟩:=qmQ h
  obtain ⟨b1,hp1,-,-,hl2⟩:=h.holeAt 2 rfl
  obtain ⟨q1,hq1⟩:∃ q,q=0+(i2).toNat*GoT.k qz:=⟨_,rfl⟩
  refine zx hp1 hq1 ⟨he1.1,qK he1.2.1 hl2⟩ rfl (zp1 rfl (qet qe 2 0 h rfl hp1 hq1 rfl rfl rfl rfl rfl rfl fun w2 h=>?_))
  replace h:SH _ _ (Ch.own S6 (y1.Bb:List ql) [.slice p3 y1.Bb.length k3]::Ch.own S5 (y1.At:List ql) [.slice p2 y1.At.length k2]::Ch.hole S4 (x1:List qz) p1 a.length k1 (i2).toNat [.int .i64 i1,.int .i64 y1.Az,.int .i64 y1.To,.int .i64 y1.Bc,.slice p2 y1.At.length k2,.slice p3 y1.Bb.length k3]::F):=h
  refine X0 12 rfl ?_
  obtain ⟨b2,hp2,-,-,hl4⟩:=h.holeAt 2 rfl
  obtain ⟨q2,hq2⟩:∃ q,q=0+(i2).toNat*GoT.k qz:=⟨_,rfl⟩
  refine zx hp2 hq2 ⟨he1.1,qK he1.2.1 hl4⟩ rfl (zp1 rfl (qet qe 2 1 h rfl hp2 hq2 rfl rfl rfl rfl rfl rfl fun w3 h=>X0 12 rfl ?_))
  obtain ⟨b3,hp3,-,-,hl6⟩:=h.holeAt 2 rfl
  obtain ⟨q3,hq3⟩:∃ q,q=0+(i2).toNat*GoT.k qz:=⟨_,rfl⟩
  refine zx hp3 hq3 ⟨he1.1,qK he1.2.1 hl6⟩ rfl (zp1 rfl (qet qe 2 2 h rfl hp3 hq3 rfl rfl rfl rfl rfl rfl fun w4 h=>X0 12 rfl ?_))
  obtain ⟨b4,hp4,-,-,hl8⟩:=h.holeAt 2 rfl
  obtain ⟨q4,hq4⟩:∃ q,q=0+(i2).toNat*GoT.k qz:=⟨_,rfl⟩
  refine zx hp4 hq4 ⟨he1.1,qK he1.2.1 hl8⟩ rfl (zp1 rfl (qet qe 2 3 h rfl hp4 hq4 rfl rfl rfl rfl rfl rfl fun w5 h=>?_))
  replace h:SH _ _ (Ch.own S6 (y1.Bb:List ql) [.slice p3 y1.Bb.length k3]::Ch.own S5 (y1.At:List ql) [.slice p2 y1.At.length k2]::Ch.hole S4 (x1:List qz) p1 a.length k1 (i2).toNat [.int .i64 i1,.int .i64 (W64 (i1+1)),.int .i64 (W64 ((W64 (i1+1))+1)),.int .i64 (W64 ((W64 ((W64 (i1+1))+1))+1)),.slice p2 y1.At.length k2,.slice p3 y1.Bb.length k3]::F):=h
  refine X0 11 rfl ?_
  obtain ⟨b5,hp5,-,-,hl10⟩:=h.holeAt 2 rfl
  obtain ⟨q5,hq5⟩:∃ q,q=0+(i2).toNat*GoT.k qz:=⟨_,rfl⟩
  refine zx hp5 hq5 ⟨he1.1,qK he1.2.1 hl10⟩ rfl (zp1 rfl (zc 4 (qbC h 2 rfl hp5 hq5) rfl (zp1 rfl ?_)))
  replace h:=h.pickT 3 [1,0,2] rfl
  obtain ⟨o2,hr1,hF⟩:=qf hF
  obtain ⟨r1,x2⟩:=o2
  refine qba r1 (cB 268 rfl) (qfZ h hr1) rfl rfl rfl rfl ?_
  rintro w6 ⟨S7,h⟩
  refine X0 5 rfl ?_
  obtain ⟨b6,hp6,-,-,hl12⟩:=h.holeAt 2 rfl
  obtain ⟨q6,hq6⟩:∃ q,q=0+(i2).toNat*GoT.k qz:=⟨_,rfl⟩
  refine zx hp6 hq6 ⟨he1.1,qK he1.2.1 hl12⟩ rfl (zp1 rfl (zc 5 (qbC h 2 rfl hp6 hq6) rfl (zp1 rfl ?_)))
  replace h:=h.pickT 3 [1,0,2] rfl
  obtain ⟨o3,hr2,hF⟩:=qf hF
  obtain ⟨r2,x3⟩:=o3
  refine qba r2 (cB 268 rfl) (qfZ h hr2) rfl rfl rfl rfl ?_
  rintro w7 ⟨S8,h⟩
  refine X0 8 rfl ?_
  obtain ⟨S9,h⟩:=h.gatherT 3 [2] (qnw (⟨i1,W64 (i1+1),W64 ((W64 (i1+1))+1),W64 ((W64 ((W64 (i1+1))+1))+1),x2,x3⟩:qz) h (qO (S:=fun _=>False) rfl) (qO (S:=fun _=>False) rfl) (qO (S:=fun _=>False) rfl) (qO (S:=fun _=>False) rfl) (qaC 1 h rfl) (qaC 0 h rfl) (by rfl) (by rfl) (by rfl) (by rfl) (by rfl)) rfl
  replace h:=h.put
  obtain ⟨S10,h⟩:=qkQ (S:=_) h
  exact rK ⟨_,_,_,_,hF,rfl,h⟩ rfl
 refine qq rfl ?_
 obtain rfl:=qa hF;replace hF:=hK1
 refine X0 5 rfl ?_
 obtain rfl:=qa hF
 exact qfi qe ⟨_,h⟩ ⟨rfl,trivial⟩
def qbP (a:(List qk)):Nat→(List qk)→Int→Int→Option ((List qk) × Int × Int)
 | 0,_,_,_=>none
 | n+1,x1,i1,i2 =>
  bif decide (i2<(a.length:Int)) then
   (qcc n i1).bind fun r1 =>
   (idx x1 i2).bind fun y1 =>
   (qg5 n y1.Ai (W64 ((W64 (i1+1))+1))).bind fun o=>match o with
    | (r2,x2) =>
     (qg4 n y1.Ak r2).bind fun o=>match o with
      | (r3,x3) =>
       (qR n y1.Au r3).bind fun o=>match o with
        | (r4,x4) =>
         qbP a n (setS x1 i2 (⟨r1,W64 (i1+1),x2,x3,x4,r4,W64 (r4+1)⟩:qk)) (W64 ((W64 (r4+1))+1)) (W64 (i2+1))
  else
   some (x1,i1,i2)
def qgt (n:Nat) (a:(List qk)) (k:Int):Option (Int × (List qk)) :=
 (qbP a n a k 0).bind fun o=>match o with
 | (x1,i1,_) =>
  some (i1,x1)
theorem qiJ {n:Nat} {w0 w:World} {F:List Ch} {a:(List qk)} {k:Int} {S1:Nat→Prop} {p1:Option Addr} {ln1 k1:Nat} (h:SH w0 w (Ch.own S1 (a:List qk) [.slice p1 ln1 k1]::F)) {r:(Int × (List qk))} (hF:qgt n a k=some r):RetN Tryz.prog 151 [.slice p1 ln1 k1,.int .i64 k] w (fun w'=>∃ Z0:Nat→Prop,SH w0 w' (Ch.own Z0 (r.2:List qk) [.slice p1 ln1 k1]::F)) r.1:=by
 refine qa6 Tryz.func151 rfl (m:=63) rfl rfl ?_
 obtain rfl:=(h.sl 0 rfl).2
 refine X0 9 rfl ?_
 obtain ⟨o1,hF,hK1⟩:=qf hF
 refine qm (rL (fun m e w'=>∃ (S2:Nat→Prop) (x1:(List qk)) (i1:Int) (i2:Int),qbP a m x1 i1 i2=some o1∧e=[(0,.slice p1 a.length k1),(1,.int .i64 i1),(5,.int .i64 i2)]∧SH w0 w' (Ch.own S2 (x1:List qk) [.slice p1 a.length k1]::F)) n ⟨_,_,_,_,hF,rfl,h⟩ rfl ?_)
 rintro m1 e1 w1 ⟨S2,x1,i1,i2,hF,rfl,h⟩
 rcases m1 with _|m1
 ·cases hF
 refine X0 8 rfl (qh rfl hF ?_ ?_)<;>intro hF
 ·refine X0 8 rfl (zcS h hF qdi rfl fun r1 w2 h hF=>?_)
  obtain ⟨y1,hy1,hF⟩:=qf hF
  have he1:=qcz hy1
  obtain ⟨S3,S4,cs1,h⟩:=h.take hy1
  obtain ⟨p2,k2,p3,k3,p4,k4,rfl,-,-,-⟩:=qI (h.own 0 rfl)
  obtain ⟨S5,S6,S7,h⟩:=qmH h
  obtain ⟨b1,hp1,-,-,hl2⟩:=h.holeAt 3 rfl
  obtain ⟨q1,hq1⟩:∃ q,q=0+(i2).toNat*GoT.k qk:=⟨_,rfl⟩
  refine zx hp1 hq1 ⟨he1.1,qK he1.2.1 hl2⟩ rfl (zp1 rfl (qet qe 3 0 h rfl hp1 hq1 rfl rfl rfl rfl rfl rfl fun w3 h=>?_))
  replace h:SH _ _ (Ch.own S7 (y1.Au:List Int) [.slice p4 y1.Au.length k4]::Ch.own S6 (y1.Ak:List qz) [.slice p3 y1.Ak.length k3]::Ch.own S5 (y1.Ai:List qF) [.slice p2 y1.Ai.length k2]::Ch.hole S4 (x1:List qk) p1 a.length k1 (i2).toNat [.string r1,.int .i64 y1.Ar,.slice p2 y1.Ai.length k2,.slice p3 y1.Ak.length k3,.slice p4 y1.Au.length k4,.int .i64 y1.Bl,.int .i64 y1.Bf]::F):=h
  refine X0 12 rfl ?_
  obtain ⟨b2,hp2,-,-,hl4⟩:=h.holeAt 3 rfl
  obtain ⟨q2,hq2⟩:∃ q,q=0+(i2).toNat*GoT.k qk:=⟨_,rfl⟩
  refine zx hp2 hq2 ⟨he1.1,qK he1.2.1 hl4⟩ rfl (zp1 rfl (qet qe 3 1 h rfl hp2 hq2 rfl rfl rfl rfl rfl rfl fun w4 h=>X0 11 rfl ?_))
  obtain ⟨b3,hp3,-,-,hl6⟩:=h.holeAt 3 rfl
  obtain ⟨q3,hq3⟩:∃ q,q=0+(i2).toNat*GoT.k qk:=⟨_,rfl⟩
  refine zx hp3 hq3 ⟨he1.1,qK he1.2.1 hl6⟩ rfl (zp1 rfl (zc 2 (qbC h 3 rfl hp3 hq3) rfl (zp1 rfl ?_)))
  replace h:=h.pickT 4 [2,0,1,3] rfl
  obtain ⟨o2,hr2,hF⟩:=qf hF
  obtain ⟨r2,x2⟩:=o2
  refine qba r2 (cB 225 rfl) (qi4 h hr2) rfl rfl rfl rfl ?_
  rintro w5 ⟨S8,h⟩
  refine X0 6 rfl ?_
  obtain ⟨b4,hp4,-,-,hl8⟩:=h.holeAt 3 rfl
  obtain ⟨q4,hq4⟩:∃ q,q=0+(i2).toNat*GoT.k qk:=⟨_,rfl⟩
  refine zx hp4 hq4 ⟨he1.1,qK he1.2.1 hl8⟩ rfl (zp1 rfl (zc 3 (qbC h 3 rfl hp4 hq4) rfl (zp1 rfl ?_)))
  replace h:=h.pickT 4 [2,0,1,3] rfl
  obtain ⟨o3,hr3,hF⟩:=qf hF
  obtain ⟨r3,x3⟩:=o3
  refine qba r3 (cB 226 rfl) (qiP h hr3) rfl rfl rfl rfl ?_
  rintro w6 ⟨S9,h⟩
  refine X0 6 rfl ?_
  obtain ⟨b5,hp5,-,-,hl10⟩:=h.holeAt 3 rfl
  obtain ⟨q5,hq5⟩:∃ q,q=0+(i2).toNat*GoT.k qk:=⟨_,rfl⟩
  refine zx hp5 hq5 ⟨he1.1,qK he1.2.1 hl10⟩ rfl (zp1 rfl (zc 4 (qbC h 3 rfl hp5 hq5) rfl (zp1 rfl ?_)))
  replace h:=h.pickT 4 [2,0,1,3] rfl
  obtain ⟨o4,hr4,hF⟩:=qf hF
  obtain ⟨r4,x4⟩:=o4
  refine qba r4 (cB 21 rfl) (qS h hr4) rfl rfl rfl rfl ?_
  rintro w7 ⟨S10,h⟩
  refine X0 7 rfl ?_
  obtain ⟨b6,hp6,-,-,hl12⟩:=h.holeAt 3 rfl
  obtain ⟨q6,hq6⟩:∃ q,q=0+(i2).toNat*GoT.k qk:=⟨_,rfl⟩
  refine zx hp6 hq6 ⟨he1.1,qK he1.2.1 hl12⟩ rfl (zp1 rfl (qet qe 3 5 h rfl hp6 hq6 rfl rfl rfl rfl rfl rfl fun w8 h=>X0 12 rfl ?_))
  obtain ⟨b7,hp7,-,-,hl14⟩:=h.holeAt 3 rfl
  obtain ⟨q7,hq7⟩:∃ q,q=0+(i2).toNat*GoT.k qk:=⟨_,rfl⟩
  refine zx hp7 hq7 ⟨he1.1,qK he1.2.1 hl14⟩ rfl (zp1 rfl (qet qe 3 6 h rfl hp7 hq7 rfl rfl rfl rfl rfl rfl fun w9 h=>?_))
  replace h:SH _ _ (Ch.own S10 (x4:List Int) [.slice p4 y1.Au.length k4]::Ch.own S9 (x3:List qz) [.slice p3 y1.Ak.length k3]::Ch.own S8 (x2:List qF) [.slice p2 y1.Ai.length k2]::Ch.hole S4 (x1:List qk) p1 a.length k1 (i2).toNat [.string r1,.int .i64 (W64 (i1+1)),.slice p2 y1.Ai.length k2,.slice p3 y1.Ak.length k3,.slice p4 y1.Au.length k4,.int .i64 r4,.int .i64 (W64 (r4+1))]::F):=h
  refine X0 12 rfl ?_
  obtain ⟨S11,h⟩:=h.gatherT 4 [3] (qmf (⟨r1,W64 (i1+1),x2,x3,x4,r4,W64 (r4+1)⟩:qk) h (qO (S:=fun _=>False) rfl) (qO (S:=fun _=>False) rfl) (qaC 2 h rfl) (qaC 1 h rfl) (qaC 0 h rfl) (qO (S:=fun _=>False) rfl) (qO (S:=fun _=>False) rfl) (by rfl) (by rfl) (by rfl) (by rfl) (by rfl) (by rfl)) rfl
  replace h:=h.put
  obtain ⟨S12,h⟩:=qkQ (S:=_) h
  exact rK ⟨_,_,_,_,hF,rfl,h⟩ rfl
 refine qq rfl ?_
 obtain rfl:=qa hF;replace hF:=hK1
 refine X0 5 rfl ?_
 obtain rfl:=qa hF
 exact qfi qe ⟨_,h⟩ ⟨rfl,trivial⟩
def qea (n:Nat) (a:qn) (k:Int):Option (Int × (List qk)) :=
 (qgt n a.Aj k).bind fun o=>match o with
  | (r1,x1) =>
   some (r1,x1)
theorem qhP {n:Nat} {w0 w:World} {F:List Ch} {a:qn} {k:Int} {S1:Nat→Prop} {p1:Option Addr} {ln1 k1:Nat} (h:SH w0 w (Ch.own S1 (a.Aj:List qk) [.slice p1 ln1 k1]::F)) {r:(Int × (List qk))} (hF:qea n a k=some r):RetN Tryz.prog 67 [.agg #[.slice p1 ln1 k1],.int .i64 k] w (fun w'=>∃ Z0:Nat→Prop,SH w0 w' (Ch.own Z0 (r.2:List qk) [.slice p1 ln1 k1]::F)) r.1:=by
 refine qa6 Tryz.func67 rfl (m:=10) rfl rfl ?_
 obtain rfl:=(h.sl 0 rfl).2
 refine zSR (qy h rfl rfl fun w1 bb1 h=>X1 7 0 h rfl ?_)
 replace h:=h.pickT 2 [1,0] rfl
 obtain ⟨o1,hr1,hF⟩:=qf hF
 obtain ⟨r1,x1⟩:=o1
 refine qba r1 (cB 151 rfl) (qiJ h hr1) rfl rfl rfl rfl ?_
 rintro w2 ⟨S2,h⟩
 refine X0 7 rfl ?_
 obtain rfl:=qa hF
 replace h:=h.pickT 2 [0] rfl
 exact qfi qe ⟨_,h⟩ ⟨rfl,trivial⟩
def qaW (a:(List qc)):Nat→(List qc)→Int→Int→Option ((List qc) × Int × Int)
 | 0,_,_,_=>none
 | n+1,x1,i1,i2 =>
  bif decide (i2<(a.length:Int)) then
   (qcc n i1).bind fun r1 =>
   (idx x1 i2).bind fun y1 =>
   (qR n y1.Ac (W64 ((W64 (i1+1))+1))).bind fun o=>match o with
    | (r2,x2) =>
     qaW a n (setS x1 i2 (⟨r1,W64 (i1+1),x2⟩:qc)) r2 (W64 (i2+1))
  else
   some (x1,i1,i2)
def qeJ (n:Nat) (a:(List qc)) (k:Int):Option (Int × (List qc)) :=
 (qaW a n a k 0).bind fun o=>match o with
 | (x1,i1,_) =>
  some (i1,x1)
theorem qhj {n:Nat} {w0 w:World} {F:List Ch} {a:(List qc)} {k:Int} {S1:Nat→Prop} {p1:Option Addr} {ln1 k1:Nat} (h:SH w0 w (Ch.own S1 (a:List qc) [.slice p1 ln1 k1]::F)) {r:(Int × (List qc))} (hF:qeJ n a k=some r):RetN Tryz.prog 152 [.slice p1 ln1 k1,.int .i64 k] w (fun w'=>∃ Z0:Nat→Prop,SH w0 w' (Ch.own Z0 (r.2:List qc) [.slice p1 ln1 k1]::F)) r.1:=by
 refine qa6 Tryz.func152 rfl (m:=35) rfl rfl ?_
 obtain rfl:=(h.sl 0 rfl).2
 refine X0 9 rfl ?_
 obtain ⟨o1,hF,hK1⟩:=qf hF
 refine qm (rL (fun m e w'=>∃ (S2:Nat→Prop) (x1:(List qc)) (i1:Int) (i2:Int),qaW a m x1 i1 i2=some o1∧e=[(0,.slice p1 a.length k1),(1,.int .i64 i1),(5,.int .i64 i2)]∧SH w0 w' (Ch.own S2 (x1:List qc) [.slice p1 a.length k1]::F)) n ⟨_,_,_,_,hF,rfl,h⟩ rfl ?_)
 rintro m1 e1 w1 ⟨S2,x1,i1,i2,hF,rfl,h⟩
 rcases m1 with _|m1
 ·cases hF
 refine X0 8 rfl (qh rfl hF ?_ ?_)<;>intro hF
 ·refine X0 8 rfl (zcS h hF qdi rfl fun r1 w2 h hF=>?_)
  obtain ⟨y1,hy1,hF⟩:=qf hF
  have he1:=qcz hy1
  obtain ⟨S3,S4,cs1,h⟩:=h.take hy1
  obtain ⟨p2,k2,rfl,-⟩:=qJ (h.own 0 rfl)
  obtain ⟨S5,h⟩:=qj5 h
  obtain ⟨b1,hp1,-,-,hl2⟩:=h.holeAt 1 rfl
  obtain ⟨q1,hq1⟩:∃ q,q=0+(i2).toNat*GoT.k qc:=⟨_,rfl⟩
  refine zx hp1 hq1 ⟨he1.1,qK he1.2.1 hl2⟩ rfl (zp1 rfl (qet qe 1 0 h rfl hp1 hq1 rfl rfl rfl rfl rfl rfl fun w3 h=>X0 12 rfl ?_))
  obtain ⟨b2,hp2,-,-,hl4⟩:=h.holeAt 1 rfl
  obtain ⟨q2,hq2⟩:∃ q,q=0+(i2).toNat*GoT.k qc:=⟨_,rfl⟩
  refine zx hp2 hq2 ⟨he1.1,qK he1.2.1 hl4⟩ rfl (zp1 rfl (qet qe 1 1 h rfl hp2 hq2 rfl rfl rfl rfl rfl rfl fun w4 h=>?_))
  replace h:SH _ _ (Ch.own S5 (y1.Ac:List Int) [.slice p2 y1.Ac.length k2]::Ch.hole S4 (x1:List qc) p1 a.length k1 (i2).toNat [.string r1,.int .i64 (W64 (i1+1)),.slice p2 y1.Ac.length k2]::F):=h
  refine X0 10 rfl ?_
  obtain ⟨b3,hp3,-,-,hl6⟩:=h.holeAt 1 rfl
  obtain ⟨q3,hq3⟩:∃ q,q=0+(i2).toNat*GoT.k qc:=⟨_,rfl⟩
  refine zx hp3 hq3 ⟨he1.1,qK he1.2.1 hl6⟩ rfl (zp1 rfl (zc 2 (qbC h 1 rfl hp3 hq3) rfl (zp1 rfl ?_)))
  obtain ⟨o2,hr2,hF⟩:=qf hF
  obtain ⟨r2,x2⟩:=o2
  refine qba r2 (cB 21 rfl) (qS h hr2) rfl rfl rfl rfl ?_
  rintro w5 ⟨S6,h⟩
  refine X0 8 rfl ?_
  obtain ⟨S7,h⟩:=h.gatherT 2 [1] (qiX (⟨r1,W64 (i1+1),x2⟩:qc) h (qO (S:=fun _=>False) rfl) (qO (S:=fun _=>False) rfl) (qaC 0 h rfl) (by rfl) (by rfl)) rfl
  replace h:=h.put
  obtain ⟨S8,h⟩:=qkQ (S:=_) h
  exact rK ⟨_,_,_,_,hF,rfl,h⟩ rfl
 refine qq rfl ?_
 obtain rfl:=qa hF;replace hF:=hK1
 refine X0 5 rfl ?_
 obtain rfl:=qa hF
 exact qfi qe ⟨_,h⟩ ⟨rfl,trivial⟩
def qbo (a:(List ByteArray)):Nat→(List ByteArray)→Int→Int→Option ((List ByteArray) × Int × Int)
 | 0,_,_,_=>none
 | n+1,x1,i1,i2 =>
  bif decide (i2<(a.length:Int)) then
   (qcc n i1).bind fun r1 =>
   (idx x1 i2).bind fun _ =>
   qbo a n (setS x1 i2 r1) (W64 (i1+1)) (W64 (i2+1))
  else
   some (x1,i1,i2)
def qfl (n:Nat) (a:(List ByteArray)) (k:Int):Option (Int × (List ByteArray)) :=
 (qbo a n a k 0).bind fun o=>match o with
 | (x1,i1,_) =>
  some (i1,x1)
theorem qh0 {n:Nat} {w0 w:World} {F:List Ch} {a:(List ByteArray)} {k:Int} {S1:Nat→Prop} {p1:Option Addr} {ln1 k1:Nat} (h:SH w0 w (Ch.own S1 (a:List ByteArray) [.slice p1 ln1 k1]::F)) {r:(Int × (List ByteArray))} (hF:qfl n a k=some r):RetN Tryz.prog 153 [.slice p1 ln1 k1,.int .i64 k] w (fun w'=>∃ Z0:Nat→Prop,SH w0 w' (Ch.own Z0 (r.2:List ByteArray) [.slice p1 ln1 k1]::F)) r.1:=by
 refine qa6 Tryz.func153 rfl (m:=20) rfl rfl ?_
 obtain rfl:=(h.sl 0 rfl).2
 refine X0 9 rfl ?_
 obtain ⟨o1,hF,hK1⟩:=qf hF
 refine qm (rL (fun m e w'=>∃ (x1:(List ByteArray)) (i1:Int) (i2:Int),qbo a m x1 i1 i2=some o1∧e=[(0,.slice p1 a.length k1),(1,.int .i64 i1),(5,.int .i64 i2)]∧SH w0 w' (Ch.own S1 (x1:List ByteArray) [.slice p1 a.length k1]::F)) n ⟨_,_,_,hF,rfl,h⟩ rfl ?_)
 rintro m1 e1 w1 ⟨x1,i1,i2,hF,rfl,h⟩
 rcases m1 with _|m1
 ·cases hF
 refine X0 8 rfl (qh rfl hF ?_ ?_)<;>intro hF
 ·refine X0 8 rfl (zcS h hF qdi rfl fun r1 w2 h hF=>?_)
  obtain ⟨y1,hy1,hF,he1,b1,_,q1,cs1,hp1,hq1,rfl,hc2⟩:=(h.sl 0 rfl).1.ix hF
  exact zx hp1 hq1 ⟨he1.1,qK he1.2.1 (h.sl 0 rfl).2⟩ rfl (qaN qe 0 0 r1 h rfl hy1 hp1 hq1 rfl hc2 rfl rfl rfl rfl rfl rfl rfl fun w3 h=>X0 12 rfl (rK ⟨_,_,_,hF,rfl,h⟩ rfl))
 refine qq rfl ?_
 obtain rfl:=qa hF;replace hF:=hK1
 refine X0 5 rfl ?_
 obtain rfl:=qa hF
 exact qfi qe ⟨_,h⟩ ⟨rfl,trivial⟩
def qbR (a:(List qu)):Nat→(List qu)→Int→Int→Option ((List qu) × Int × Int)
 | 0,_,_,_=>none
 | n+1,x1,i1,i2 =>
  bif decide (i2<(a.length:Int)) then
   (qcc n i1).bind fun r1 =>
   (idx x1 i2).bind fun y1 =>
   (idx (setS x1 i2 ({ y1 with Am:=r1 })) i2).bind fun y2 =>
   (idx (setS (setS x1 i2 ({ y1 with Am:=r1 })) i2 ({ y2 with Bh:=W64 (i1+1) })) i2).bind fun y3 =>
   qbR a n (setS (setS (setS x1 i2 ({ y1 with Am:=r1 })) i2 ({ y2 with Bh:=W64 (i1+1) })) i2 ({ y3 with Bk:=W64 ((W64 (i1+1))+1) })) (W64 ((W64 ((W64 (i1+1))+1))+1)) (W64 (i2+1))
  else
   some (x1,i1,i2)
def qgK (n:Nat) (a:(List qu)) (k:Int):Option (Int × (List qu)) :=
 (qbR a n a k 0).bind fun o=>match o with
 | (x1,i1,_) =>
  some (i1,x1)
theorem qiH {n:Nat} {w0 w:World} {F:List Ch} {a:(List qu)} {k:Int} {S1:Nat→Prop} {p1:Option Addr} {ln1 k1:Nat} (h:SH w0 w (Ch.own S1 (a:List qu) [.slice p1 ln1 k1]::F)) {r:(Int × (List qu))} (hF:qgK n a k=some r):RetN Tryz.prog 154 [.slice p1 ln1 k1,.int .i64 k] w (fun w'=>∃ Z0:Nat→Prop,SH w0 w' (Ch.own Z0 (r.2:List qu) [.slice p1 ln1 k1]::F)) r.1:=by
 refine qa6 Tryz.func154 rfl (m:=35) rfl rfl ?_
 obtain rfl:=(h.sl 0 rfl).2
 refine X0 9 rfl ?_
 obtain ⟨o1,hF,hK1⟩:=qf hF
 refine qm (rL (fun m e w'=>∃ (x1:(List qu)) (i1:Int) (i2:Int),qbR a m x1 i1 i2=some o1∧e=[(0,.slice p1 a.length k1),(1,.int .i64 i1),(5,.int .i64 i2)]∧SH w0 w' (Ch.own S1 (x1:List qu) [.slice p1 a.length k1]::F)) n ⟨_,_,_,hF,rfl,h⟩ rfl ?_)
 rintro m1 e1 w1 ⟨x1,i1,i2,hF,rfl,h⟩
 rcases m1 with _|m1
 ·cases hF
 refine X0 8 rfl (qh rfl hF ?_ ?_)<;>intro hF
 ·refine X0 8 rfl (zcS h hF qdi rfl fun r1 w2 h hF=>?_)
  obtain ⟨y1,hy1,hF,he1,b1,_,q1,cs1,hp1,hq1,hr2,hc2⟩:=(h.sl 0 rfl).1.ix hF
  obtain rfl:=qX hr2
  refine zx hp1 hq1 ⟨he1.1,qK he1.2.1 (h.sl 0 rfl).2⟩ rfl (zp1 rfl (qaN qe 0 0 ({ y1 with Am:=r1 }:qu) h rfl hy1 hp1 hq1 (qcf y1) hc2 rfl rfl rfl (qcf ({ y1 with Am:=r1 })) rfl rfl rfl fun w3 h=>X0 12 rfl ?_))
  obtain ⟨y2,hy2,hF,he2,b2,_,q2,cs2,hp2,hq2,hr3,hc3⟩:=(h.sl 0 rfl).1.ix hF
  obtain rfl:=qX hr3
  refine zx hp2 hq2 ⟨he2.1,qK he2.2.1 (h.sl 0 rfl).2⟩ rfl (zp1 rfl (qaN qe 0 1 ({ y2 with Bh:=W64 (i1+1) }:qu) h rfl hy2 hp2 hq2 (qcf y2) hc3 rfl rfl rfl (qcf ({ y2 with Bh:=W64 (i1+1) })) rfl rfl rfl fun w4 h=>X0 12 rfl ?_))
  obtain ⟨y3,hy3,hF,he3,b3,_,q3,cs3,hp3,hq3,hr4,hc4⟩:=(h.sl 0 rfl).1.ix hF
  obtain rfl:=qX hr4
  exact zx hp3 hq3 ⟨he3.1,qK he3.2.1 (h.sl 0 rfl).2⟩ rfl (zp1 rfl (qaN qe 0 2 ({ y3 with Bk:=W64 ((W64 (i1+1))+1) }:qu) h rfl hy3 hp3 hq3 (qcf y3) hc4 rfl rfl rfl (qcf ({ y3 with Bk:=W64 ((W64 (i1+1))+1) })) rfl rfl rfl fun w5 h=>X0 12 rfl (rK ⟨_,_,_,hF,rfl,h⟩ rfl)))
 refine qq rfl ?_
 obtain rfl:=qa hF;replace hF:=hK1
 refine X0 5 rfl ?_
 obtain rfl:=qa hF
 exact qfi qe ⟨_,h⟩ ⟨rfl,trivial⟩
def qeA (n:Nat) (a:qd) (k:Int):Option (Int × (List qc) × (List ByteArray) × (List qu)) :=
 (qeJ n a.Aa k).bind fun o=>match o with
  | (r1,x1) =>
   (qfl n a.Ac r1).bind fun o=>match o with
    | (r2,x2) =>
     (qgK n a.Af r2).bind fun o=>match o with
      | (r3,x3) =>
       some (r3,x1,x2,x3)
theorem qig {n:Nat} {w0 w:World} {F:List Ch} {a:qd} {k:Int} {S1:Nat→Prop} {p1:Option Addr} {ln1 k1:Nat} {S2:Nat→Prop} {p2:Option Addr} {ln2 k2:Nat} {S3:Nat→Prop} {p3:Option Addr} {ln3 k3:Nat} (h:SH w0 w (Ch.own S3 (a.Af:List qu) [.slice p3 ln3 k3]::Ch.own S2 (a.Ac:List ByteArray) [.slice p2 ln2 k2]::Ch.own S1 (a.Aa:List qc) [.slice p1 ln1 k1]::F)) {r:(Int × (List qc) × (List ByteArray) × (List qu))} (hF:qeA n a k=some r):RetN Tryz.prog 68 [.agg #[.slice p1 ln1 k1,.slice p2 ln2 k2,.slice p3 ln3 k3],.int .i64 k] w (fun w'=>∃ Z0 Z1 Z2:Nat→Prop,SH w0 w' (Ch.own Z2 (r.2.2.2:List qu) [.slice p3 ln3 k3]::Ch.own Z1 (r.2.2.1:List ByteArray) [.slice p2 ln2 k2]::Ch.own Z0 (r.2.1:List qc) [.slice p1 ln1 k1]::F)) r.1:=by
 refine qa6 Tryz.func68 rfl (m:=18) rfl rfl ?_
 obtain rfl:=(h.sl 0 rfl).2
 obtain rfl:=(h.sl 1 rfl).2
 obtain rfl:=(h.sl 2 rfl).2
 refine zSR (qy h rfl rfl fun w1 bb1 h=>X1 7 0 h rfl ?_)
 replace h:=h.pickT 4 [3,0,1,2] rfl
 obtain ⟨o1,hr1,hF⟩:=qf hF
 obtain ⟨r1,x1⟩:=o1
 refine qba r1 (cB 152 rfl) (qhj h hr1) rfl rfl rfl rfl ?_
 rintro w2 ⟨S4,h⟩
 refine X1 7 1 h rfl ?_
 replace h:=h.pickT 4 [3,0,1,2] rfl
 obtain ⟨o2,hr2,hF⟩:=qf hF
 obtain ⟨r2,x2⟩:=o2
 refine qba r2 (cB 153 rfl) (qh0 h hr2) rfl rfl rfl rfl ?_
 rintro w3 ⟨S5,h⟩
 refine X1 7 2 h rfl ?_
 replace h:=h.pickT 4 [3,0,1,2] rfl
 obtain ⟨o3,hr3,hF⟩:=qf hF
 obtain ⟨r3,x3⟩:=o3
 refine qba r3 (cB 154 rfl) (qiH h hr3) rfl rfl rfl rfl ?_
 rintro w4 ⟨S6,h⟩
 refine X0 7 rfl ?_
 obtain rfl:=qa hF
 replace h:=h.pickT 4 [0,1,2] rfl
 exact qfi qe ⟨_,_,_,h⟩ ⟨rfl,trivial⟩
def qbO (a:(List qr)):Nat→(List qr)→Int→Int→Option ((List qr) × Int × Int)
 | 0,_,_,_=>none
 | n+1,x1,i1,i2 =>
  bif decide (i2<(a.length:Int)) then
   (idx x1 i2).bind fun y1 =>
   (qR n y1.Ah i1).bind fun o=>match o with
    | (r1,x2) =>
     (qR n y1.Bi r1).bind fun o=>match o with
      | (r2,x3) =>
       (qR n y1.Bg r2).bind fun o=>match o with
        | (r3,x4) =>
         (qR n y1.Be r3).bind fun o=>match o with
          | (r4,x5) =>
           qbO a n (setS x1 i2 (⟨x2,x3,x4,x5⟩:qr)) r4 (W64 (i2+1))
  else
   some (x1,i1,i2)
def qgD (n:Nat) (a:(List qr)) (k:Int):Option (Int × (List qr)) :=
 (qbO a n a k 0).bind fun o=>match o with
 | (x1,i1,_) =>
  some (i1,x1)
theorem qiI {n:Nat} {w0 w:World} {F:List Ch} {a:(List qr)} {k:Int} {S1:Nat→Prop} {p1:Option Addr} {ln1 k1:Nat} (h:SH w0 w (Ch.own S1 (a:List qr) [.slice p1 ln1 k1]::F)) {r:(Int × (List qr))} (hF:qgD n a k=some r):RetN Tryz.prog 69 [.slice p1 ln1 k1,.int .i64 k] w (fun w'=>∃ Z0:Nat→Prop,SH w0 w' (Ch.own Z0 (r.2:List qr) [.slice p1 ln1 k1]::F)) r.1:=by
 refine qa6 Tryz.func69 rfl (m:=41) rfl rfl ?_
 obtain rfl:=(h.sl 0 rfl).2
 refine X0 9 rfl ?_
 obtain ⟨o1,hF,hK1⟩:=qf hF
 refine qm (rL (fun m e w'=>∃ (S2:Nat→Prop) (x1:(List qr)) (i1:Int) (i2:Int),qbO a m x1 i1 i2=some o1∧e=[(0,.slice p1 a.length k1),(1,.int .i64 i1),(5,.int .i64 i2)]∧SH w0 w' (Ch.own S2 (x1:List qr) [.slice p1 a.length k1]::F)) n ⟨_,_,_,_,hF,rfl,h⟩ rfl ?_)
 rintro m1 e1 w1 ⟨S2,x1,i1,i2,hF,rfl,h⟩
 rcases m1 with _|m1
 ·cases hF
 refine X0 8 rfl (qh rfl hF ?_ ?_)<;>intro hF
 ·refine X0 7 rfl ?_
  obtain ⟨y1,hy1,hF⟩:=qf hF
  have he1:=qcz hy1
  obtain ⟨S3,S4,cs1,h⟩:=h.take hy1
  obtain ⟨p2,k2,p3,k3,p4,k4,p5,k5,rfl,-,-,-,-⟩:=qaS (h.own 0 rfl)
  obtain ⟨S5,S6,S7,S8,h⟩:=qmB h
  obtain ⟨b1,hp1,-,-,hl2⟩:=h.holeAt 4 rfl
  obtain ⟨q1,hq1⟩:∃ q,q=0+(i2).toNat*GoT.k qr:=⟨_,rfl⟩
  refine zx hp1 hq1 ⟨he1.1,qK he1.2.1 hl2⟩ rfl (zp1 rfl (zc 0 (qbC h 4 rfl hp1 hq1) rfl (zp1 rfl ?_)))
  replace h:=h.pickT 5 [3,0,1,2,4] rfl
  obtain ⟨o2,hr1,hF⟩:=qf hF
  obtain ⟨r1,x2⟩:=o2
  refine qba r1 (cB 21 rfl) (qS h hr1) rfl rfl rfl rfl ?_
  rintro w2 ⟨S9,h⟩
  refine X0 6 rfl ?_
  obtain ⟨b2,hp2,-,-,hl4⟩:=h.holeAt 4 rfl
  obtain ⟨q2,hq2⟩:∃ q,q=0+(i2).toNat*GoT.k qr:=⟨_,rfl⟩
  refine zx hp2 hq2 ⟨he1.1,qK he1.2.1 hl4⟩ rfl (zp1 rfl (zc 1 (qbC h 4 rfl hp2 hq2) rfl (zp1 rfl ?_)))
  replace h:=h.pickT 5 [3,0,1,2,4] rfl
  obtain ⟨o3,hr2,hF⟩:=qf hF
  obtain ⟨r2,x3⟩:=o3
  refine qba r2 (cB 21 rfl) (qS h hr2) rfl rfl rfl rfl ?_
  rintro w3 ⟨S10,h⟩
  refine X0 6 rfl ?_
  obtain ⟨b3,hp3,-,-,hl6⟩:=h.holeAt 4 rfl
  obtain ⟨q3,hq3⟩:∃ q,q=0+(i2).toNat*GoT.k qr:=⟨_,rfl⟩
  refine zx hp3 hq3 ⟨he1.1,qK he1.2.1 hl6⟩ rfl (zp1 rfl (zc 2 (qbC h 4 rfl hp3 hq3) rfl (zp1 rfl ?_)))
  replace h:=h.pickT 5 [3,0,1,2,4] rfl
  obtain ⟨o4,hr3,hF⟩:=qf hF
  obtain ⟨r3,x4⟩:=o4
  refine qba r3 (cB 21 rfl) (qS h hr3) rfl rfl rfl rfl ?_
  rintro w4 ⟨S11,h⟩
  refine X0 5 rfl ?_
  obtain ⟨b4,hp4,-,-,hl8⟩:=h.holeAt 4 rfl
  obtain ⟨q4,hq4⟩:∃ q,q=0+(i2).toNat*GoT.k qr:=⟨_,rfl⟩
  refine zx hp4 hq4 ⟨he1.1,qK he1.2.1 hl8⟩ rfl (zp1 rfl (zc 3 (qbC h 4 rfl hp4 hq4) rfl (zp1 rfl ?_)))
  replace h:=h.pickT 5 [3,0,1,2,4] rfl
  obtain ⟨o5,hr4,hF⟩:=qf hF
  obtain ⟨r4,x5⟩:=o5
  refine qba r4 (cB 21 rfl) (qS h hr4) rfl rfl rfl rfl ?_
  rintro w5 ⟨S12,h⟩
  refine X0 8 rfl ?_
  obtain ⟨S13,h⟩:=h.gatherT 5 [4] (qmJ (⟨x2,x3,x4,x5⟩:qr) h (qaC 3 h rfl) (qaC 2 h rfl) (qaC 1 h rfl) (qaC 0 h rfl) (by rfl) (by rfl) (by rfl)) rfl
  replace h:=h.put
  obtain ⟨S14,h⟩:=qkQ (S:=_) h
  exact rK ⟨_,_,_,_,hF,rfl,h⟩ rfl
 refine qq rfl ?_
 obtain rfl:=qa hF;replace hF:=hK1
 refine X0 5 rfl ?_
 obtain rfl:=qa hF
 exact qfi qe ⟨_,h⟩ ⟨rfl,trivial⟩
def qfb (n:Nat) (a:qp) (k:Int):Option (Int × (List qk) × (List qc) × (List ByteArray) × (List qu) × (List qr)) :=
 (qea n (⟨a.As.Aj⟩:qn) k).bind fun o=>match o with
  | (r1,x1) =>
   (qeA n (⟨a.Ab.Aa,a.Ab.Ac,a.Ab.Af⟩:qd) r1).bind fun o=>match o with
    | (r2,x2,x3,x4) =>
     (qgD n a.Aq r2).bind fun o=>match o with
      | (r3,x5) =>
       some (r3,x1,x2,x3,x4,x5)
theorem qiy {n:Nat} {w0 w:World} {F:List Ch} {a:qp} {k:Int} {S1:Nat→Prop} {p1:Option Addr} {ln1 k1:Nat} {S2:Nat→Prop} {p2:Option Addr} {ln2 k2:Nat} {S3:Nat→Prop} {p3:Option Addr} {ln3 k3:Nat} {S4:Nat→Prop} {p4:Option Addr} {ln4 k4:Nat} {S5:Nat→Prop} {p5:Option Addr} {ln5 k5:Nat} (h:SH w0 w (Ch.own S5 (a.Aq:List qr) [.slice p5 ln5 k5]::Ch.own S4 (a.Ab.Af:List qu) [.slice p4 ln4 k4]::Ch.own S3 (a.Ab.Ac:List ByteArray) [.slice p3 ln3 k3]::Ch.own S2 (a.Ab.Aa:List qc) [.slice p2 ln2 k2]::Ch.own S1 (a.As.Aj:List qk) [.slice p1 ln1 k1]::F)) {r:(Int × (List qk) × (List qc) × (List ByteArray) × (List qu) × (List qr))} (hF:qfb n a k=some r):RetN Tryz.prog 19 [.agg #[.slice p1 ln1 k1,.slice p2 ln2 k2,.slice p3 ln3 k3,.slice p4 ln4 k4,.slice p5 ln5 k5],.int .i64 k] w (fun w'=>∃ Z0 Z1 Z2 Z3 Z4:Nat→Prop,SH w0 w' (Ch.own Z4 (r.2.2.2.2.2:List qr) [.slice p5 ln5 k5]::Ch.own Z3 (r.2.2.2.2.1:List qu) [.slice p4 ln4 k4]::Ch.own Z2 (r.2.2.2.1:List ByteArray) [.slice p3 ln3 k3]::Ch.own Z1 (r.2.2.1:List qc) [.slice p2 ln2 k2]::Ch.own Z0 (r.2.1:List qk) [.slice p1 ln1 k1]::F)) r.1:=by
 refine qa6 Tryz.func19 rfl (m:=18) rfl rfl ?_
 obtain rfl:=(h.sl 0 rfl).2
 obtain rfl:=(h.sl 1 rfl).2
 obtain rfl:=(h.sl 2 rfl).2
 obtain rfl:=(h.sl 3 rfl).2
 obtain rfl:=(h.sl 4 rfl).2
 refine zSR (qy h rfl rfl fun w1 bb1 h=>X1 7 0 h rfl ?_)
 replace h:=h.pickT 6 [5,0,1,2,3,4] rfl
 obtain ⟨o1,hr1,hF⟩:=qf hF
 obtain ⟨r1,x1⟩:=o1
 refine qba r1 (cB 67 rfl) (qhP h hr1) rfl rfl rfl rfl ?_
 rintro w2 ⟨S6,h⟩
 refine X1 7 1 h rfl ?_
 replace h:=h.pickT 6 [3,4,5,0,1,2] rfl
 obtain ⟨o2,hr2,hF⟩:=qf hF
 obtain ⟨r2,x2,x3,x4⟩:=o2
 refine qba r2 (cB 68 rfl) (qig h hr2) rfl rfl rfl rfl ?_
 rintro w3 ⟨S7,S8,S9,h⟩
 refine X1 7 4 h rfl ?_
 replace h:=h.pickT 6 [5,0,1,2,3,4] rfl
 obtain ⟨o3,hr3,hF⟩:=qf hF
 obtain ⟨r3,x5⟩:=o3
 refine qba r3 (cB 69 rfl) (qiI h hr3) rfl rfl rfl rfl ?_
 rintro w4 ⟨S10,h⟩
 refine X0 7 rfl ?_
 obtain rfl:=qa hF
 replace h:=h.pickT 6 [0,1,2,3,4] rfl
 exact qfi qe ⟨_,_,_,_,_,h⟩ ⟨rfl,trivial⟩
def qaX (a:(List qb)):Nat→(List qb)→Int→Int→Option ((List qb) × Int × Int)
 | 0,_,_,_=>none
 | n+1,x1,i1,i2 =>
  bif decide (i2<(a.length:Int)) then
   (idx x1 i2).bind fun y1 =>
   (idx (setS x1 i2 ({ y1 with A:=i1 })) i2).bind fun y2 =>
   (idx (setS (setS x1 i2 ({ y1 with A:=i1 })) i2 ({ y2 with B:=W64 (i1+1) })) i2).bind fun y3 =>
   qaX a n (setS (setS (setS x1 i2 ({ y1 with A:=i1 })) i2 ({ y2 with B:=W64 (i1+1) })) i2 ({ y3 with Bd:=W64 ((W64 (i1+1))+1) })) (W64 ((W64 ((W64 (i1+1))+1))+1)) (W64 (i2+1))
  else
   some (x1,i1,i2)
def qeH (n:Nat) (a:(List qb)) (k:Int):Option (Int × (List qb)) :=
 (qaX a n a k 0).bind fun o=>match o with
 | (x1,i1,_) =>
  some (i1,x1)
theorem qhy {n:Nat} {w0 w:World} {F:List Ch} {a:(List qb)} {k:Int} {S1:Nat→Prop} {p1:Option Addr} {ln1 k1:Nat} (h:SH w0 w (Ch.own S1 (a:List qb) [.slice p1 ln1 k1]::F)) {r:(Int × (List qb))} (hF:qeH n a k=some r):RetN Tryz.prog 20 [.slice p1 ln1 k1,.int .i64 k] w (fun w'=>∃ Z0:Nat→Prop,SH w0 w' (Ch.own Z0 (r.2:List qb) [.slice p1 ln1 k1]::F)) r.1:=by
 refine qa6 Tryz.func20 rfl (m:=34) rfl rfl ?_
 obtain rfl:=(h.sl 0 rfl).2
 refine X0 9 rfl ?_
 obtain ⟨o1,hF,hK1⟩:=qf hF
 refine qm (rL (fun m e w'=>∃ (x1:(List qb)) (i1:Int) (i2:Int),qaX a m x1 i1 i2=some o1∧e=[(0,.slice p1 a.length k1),(1,.int .i64 i1),(5,.int .i64 i2)]∧SH w0 w' (Ch.own S1 (x1:List qb) [.slice p1 a.length k1]::F)) n ⟨_,_,_,hF,rfl,h⟩ rfl ?_)
 rintro m1 e1 w1 ⟨x1,i1,i2,hF,rfl,h⟩
 rcases m1 with _|m1
 ·cases hF
 refine X0 8 rfl (qh rfl hF ?_ ?_)<;>intro hF
 ·refine X0 8 rfl ?_
  obtain ⟨y1,hy1,hF,he1,b1,_,q1,cs1,hp1,hq1,hr1,hc2⟩:=(h.sl 0 rfl).1.ix hF
  obtain rfl:=qC hr1
  refine zx hp1 hq1 ⟨he1.1,qK he1.2.1 (h.sl 0 rfl).2⟩ rfl (zp1 rfl (qaN qe 0 0 ({ y1 with A:=i1 }:qb) h rfl hy1 hp1 hq1 (qaM y1) hc2 rfl rfl rfl (qaM ({ y1 with A:=i1 })) rfl rfl rfl fun w2 h=>X0 12 rfl ?_))
  obtain ⟨y2,hy2,hF,he2,b2,_,q2,cs2,hp2,hq2,hr2,hc3⟩:=(h.sl 0 rfl).1.ix hF
  obtain rfl:=qC hr2
  refine zx hp2 hq2 ⟨he2.1,qK he2.2.1 (h.sl 0 rfl).2⟩ rfl (zp1 rfl (qaN qe 0 1 ({ y2 with B:=W64 (i1+1) }:qb) h rfl hy2 hp2 hq2 (qaM y2) hc3 rfl rfl rfl (qaM ({ y2 with B:=W64 (i1+1) })) rfl rfl rfl fun w3 h=>X0 12 rfl ?_))
  obtain ⟨y3,hy3,hF,he3,b3,_,q3,cs3,hp3,hq3,hr3,hc4⟩:=(h.sl 0 rfl).1.ix hF
  obtain rfl:=qC hr3
  exact zx hp3 hq3 ⟨he3.1,qK he3.2.1 (h.sl 0 rfl).2⟩ rfl (zp1 rfl (qaN qe 0 2 ({ y3 with Bd:=W64 ((W64 (i1+1))+1) }:qb) h rfl hy3 hp3 hq3 (qaM y3) hc4 rfl rfl rfl (qaM ({ y3 with Bd:=W64 ((W64 (i1+1))+1) })) rfl rfl rfl fun w4 h=>X0 12 rfl (rK ⟨_,_,_,hF,rfl,h⟩ rfl)))
 refine qq rfl ?_
 obtain rfl:=qa hF;replace hF:=hK1
 refine X0 5 rfl ?_
 obtain rfl:=qa hF
 exact qfi qe ⟨_,h⟩ ⟨rfl,trivial⟩
def qdY (n:Nat) (a_0:qp) (a_1:(List qb)) (a_2:(List Int)):Option Bool :=
 bif decide ((a_2.length:Int) > 1048576) then some true else
 (qf4 n a_0 1048576).bind fun r1 =>
 bif decide (r1<0) then some true else
 (qfg n a_1 r1).bind fun r2 =>
 bif decide (r2<0) then some true else
 (qdz n a_0).bind fun r3 =>
 (qbA n a_1).bind fun r4 =>
 (qab n a_2).bind fun r5 =>
 (qfp n r3 r4 r5).bind fun o=>match o with
  | (r7,r8) =>
   (qdz n a_0).bind fun r9 =>
   (qbA n a_1).bind fun r10 =>
   (qab n a_2).bind fun r11 =>
   (qep n r9 r10 r11).bind fun o=>match o with
    | (r13,r14) =>
     (
      (qac n r13 r7).bind fun r35 =>
      bif (!r35) then some true else
      some (r14 != r8)).bind fun b1 =>
     bif b1 then some false else
     (qdz n a_0).bind fun r15 =>
     (qgj n r9 r15).bind fun r16 =>
     bif (!r16) then some false else
     (qbA n a_1).bind fun r17 =>
     (qel n r10 r17).bind fun r18 =>
     bif (!r18) then some false else
     (qab n a_2).bind fun r19 =>
     (qac n r11 r19).bind fun r20 =>
     bif (!r20) then some false else
     (qfb n (⟨(⟨r9.As.Aj⟩:qn),(⟨r9.Ab.Aa,r9.Ab.Ac,r9.Ab.Af⟩:qd),r9.Aq⟩:qp) 1).bind fun o=>match o with
      | (r21,_,_,_,_,_) =>
       (qeH n r10 r21).bind fun o=>match o with
        | (r22,_) =>
         (qR n r11 r22).bind fun o=>match o with
          | (r23,_) =>
           (
            bif decide (r23<0) then some true else
            (qac n r13 r7).bind fun r34 =>
            bif (!r34) then some true else
            some (r14 != r8)).bind fun b2 =>
           bif b2 then some false else
           (qR n r13 1).bind fun o=>match o with
            | (r24,x8) =>
             (qdK n x8 1).bind fun r25 =>
             bif decide (r25<0) then some false else
             bif (r25 != r24) then some false else
             (qdz n (⟨(⟨a_0.As.Aj⟩:qn),(⟨a_0.Ab.Aa,a_0.Ab.Ac,a_0.Ab.Af⟩:qd),a_0.Aq⟩:qp)).bind fun r26 =>
             (qbA n a_1).bind fun r27 =>
             (qab n a_2).bind fun r28 =>
             (qep n r26 r27 r28).bind fun o=>match o with
              | (r30,r31) =>
               (
                (qac n r30 r7).bind fun r33 =>
                bif (!r33) then some true else
                some (r31 != r8)).bind fun b3 =>
               bif b3 then some false else
               (qdK n x8 1).bind fun r32 =>
               bif decide (r32<0) then some false else
               bif (r32 != r24) then some false else
               some true
theorem qhe {a_0:qp} {a_1:(List qb)} {a_2:(List Int)} (ha1:GoT.R w (old w) a_0 cs1) (ha2:GoT.R w (old w) a_1 cs2) (ha3:GoT.R w (old w) a_2 cs3) {r:Bool} (hF:qdY n a_0 a_1 a_2=some r):RetV Tryz.prog 3 [GoT.v qp cs1,GoT.v (List qb) cs2,GoT.v (List Int) cs3] w r:=by
 obtain ⟨p1,k1,p2,k2,p3,k3,p4,k4,p5,k5,rfl,s1,s2,s3,s4,s5⟩:=qay ha1
 obtain ⟨p6,k6,rfl,s6⟩:=ha2
 obtain ⟨p7,k7,rfl,s7⟩:=ha3
 refine zV 140 Tryz.func3 rfl fun h=>zSR (qy h rfl rfl fun w1 bb1 h=>X0 9 rfl (qh rfl hF ?_ ?_))<;>intro hF
 ·exact X0 4 rfl (rb h hF rfl)
 refine X1 9 0 h rfl (zcI h hF (qjW (h.old ha1)) rfl fun r1 w2 h hF=>X0 8 rfl (qh rfl hF ?_ ?_))<;>intro hF
 ·exact X0 4 rfl (rb h hF rfl)
 refine X0 5 rfl (zcI h hF (qif ⟨_,_,rfl,(h.oldS s6)⟩) rfl fun r2 w3 h hF=>X0 8 rfl (qh rfl hF ?_ ?_))<;>intro hF
 ·exact X0 4 rfl (rb h hF rfl)
 refine X1 4 0 h rfl (zcO h hF (qeB (h.old ha1)) rfl fun r3 w4 S1 cs4 h hF=>?_)
 obtain ⟨p8,k8,p9,k9,p10,k10,p11,k11,p12,k12,rfl,-,-,-,-,-⟩:=qay (h.own 0 rfl)
 refine zp1 rfl (zcL h hF (qc7 ⟨_,_,rfl,(h.oldS s6)⟩) rfl fun r4 w5 S2 p13 k13 h hF=>zp1 rfl (zcL h hF (qU ⟨_,_,rfl,(h.oldS s7)⟩) rfl fun r5 w6 S3 p14 k14 h hF=>?_))
 obtain ⟨r6,hr6,hF⟩:=qf hF
 obtain ⟨r7,r8⟩:=r6
 refine qg2 (r7,r8) h (cB 11 rfl) (qjD (h.own 2 rfl) (h.own 1 rfl) (h.own 0 rfl) hr6) rfl rfl rfl rfl fun w7 S4 us1 hv1 hr7=>?_
 obtain ⟨S5,S6,p15,k15,us2,rfl,hv2,hr8⟩:=hv1.consL hr7
 obtain ⟨rfl,h⟩:=hv2.lastI hr8
 refine X1 9 4 h rfl (zcO h hF (qeB (h.old ha1)) rfl fun r9 w8 S8 cs5 h hF=>?_)
 obtain ⟨p16,k16,p17,k17,p18,k18,p19,k19,p20,k20,rfl,-,-,-,-,-⟩:=qay (h.own 0 rfl)
 refine qM qe h rfl rfl rfl fun w9 bb2 h=>zs 0 h rfl fun w10 h=>X0 4 rfl (zcL h hF (qc7 ⟨_,_,rfl,(h.oldS s6)⟩) rfl fun r10 w11 S9 p21 k21 h hF=>X0 5 rfl (zcL h hF (qU ⟨_,_,rfl,(h.oldS s7)⟩) rfl fun r11 w12 S10 p22 k22 h hF=>X1 7 2 h rfl ?_))
 obtain ⟨r12,hr13,hF⟩:=qf hF
 obtain ⟨r13,r14⟩:=r12
 refine qg2 (r13,r14) h (cB 15 rfl) (qhh (h.own 3 rfl) (h.own 1 rfl) (h.own 0 rfl) hr13) rfl rfl rfl rfl fun w13 S11 us3 hv4 hr14=>?_
 obtain ⟨S12,S13,p23,k23,us4,rfl,hv5,hr15⟩:=hv4.consL hr14
 obtain ⟨rfl,h⟩:=hv5.lastI hr15
 refine X0 8 rfl ?_
 obtain ⟨KF3,hKF3,o7,hF,hK3⟩:=bindE hF
 refine qcw (fun e w'=>∃ (b1:Bool),KF3 b1=some r∧e=[(1,.slice p6 a_1.length k6),(2,.slice p7 a_2.length k7),(3,.pointer (some ⟨bb1,0,none⟩)),(8,.slice p15 r7.length k15),(9,.int .i64 r8),(10,.pointer (some ⟨bb2,0,none⟩)),(11,.slice p21 r10.length k21),(12,.slice p22 r11.length k22),(13,.slice p23 r13.length k23),(14,.int .i64 r14),(64,.bool b1)]∧SH w w' [Ch.own S12 (r13:List Int) [.slice p23 r13.length k23],Ch.own S10 (r11:List Int) [.slice p22 r11.length k22],Ch.own S9 (r10:List qb) [.slice p21 r10.length k21],Ch.box bb2 (qbw r9 p16 p17 p18 p19 p20 k16 k17 k18 k19 k20) 48,Ch.own S8 (r9:qp) (qbw r9 p16 p17 p18 p19 p20 k16 k17 k18 k19 k20),Ch.own S5 (r7:List Int) [.slice p15 r7.length k15],Ch.box bb1 (qbw a_0 p1 p2 p3 p4 p5 k1 k2 k3 k4 k5) 32]) ?_ ?_
 ·refine X0 3 rfl (zcB h hF (qT (h.own 0 rfl) (h.own 5 rfl)) rfl fun r35 w35 h hF=>zp2 rfl (qg (t:=60) hF rfl ?_ ?_))<;>intro hF
  ·refine X0 5 rfl ?_
   replace h:=h.pick [0,1,2,3,4,5,9] rfl
   obtain rfl:=qa hF
   exact rG ⟨_,hK3,rfl,h⟩ rfl
  refine X0 8 rfl ?_
  replace h:=h.pick [0,1,2,3,4,5,9] rfl
  obtain rfl:=qa hF
  exact rG ⟨_,hK3,rfl,h⟩ rfl
 rintro e3 w36 ⟨b1,hF,rfl,h⟩
 subst hKF3
 refine qh rfl hF ?_ ?_<;>intro hF
 ·exact X0 4 rfl (rb h hF rfl)
 refine zKSS (rA [] [3,6] h rfl fun w14 h=>M2 3 [0,1] 0 1 (h.pick [3,6] rfl) rfl (Ao 2 7 rfl (zcO h hF (qeB (h.old ha1)) rfl fun r15 w15 S15 cs6 h hF=>?_)))
 obtain ⟨p24,k24,p25,k25,p26,k26,p27,k27,p28,k28,rfl,-,-,-,-,-⟩:=qay (h.own 0 rfl)
 refine Ag (h.pick [4,7] rfl) (Ao 3 15 rfl (zcB h hF (qj3 (h.own 5 rfl) (h.own 0 rfl)) rfl fun r16 w16 h hF=>G0 31 [4] (h.pick [4,7] rfl) rfl (Ad (qh rfl hF ?_ ?_))))<;>intro hF
 ·exact X0 4 rfl (rb h hF rfl)
 refine X0 6 rfl (zcL h hF (qc7 ⟨_,_,rfl,(h.oldS s6)⟩) rfl fun r17 w17 S16 p29 k29 h hF=>zcB h hF (qio (h.own 4 rfl) (h.own 0 rfl)) rfl fun r18 w18 h hF=>X0 2 rfl (qh rfl hF ?_ ?_))<;>intro hF
 ·exact X0 4 rfl (rb h hF rfl)
 refine X0 6 rfl (zcL h hF (qU ⟨_,_,rfl,(h.oldS s7)⟩) rfl fun r19 w19 S17 p30 k30 h hF=>zcB h hF (qT (h.own 4 rfl) (h.own 0 rfl)) rfl fun r20 w20 h hF=>X0 2 rfl (qh rfl hF ?_ ?_))<;>intro hF
 ·exact X0 4 rfl (rb h hF rfl)
 refine X1 9 6 h rfl ?_
 replace h:=h.pick [7,0,1,2,3,4,5,6,8,9] rfl
 obtain ⟨S18,S19,S20,h⟩:=qld h
 replace h:=h.pick [2,0,1,3,4,5,6,7,8,9,10,11] rfl
 obtain ⟨S21,h⟩:=qkl h
 replace h:=h.pick [2,0,1,3,4,5,6,7,8,9,10,11] rfl
 obtain ⟨S22,S23,S24,h⟩:=qk9 h
 replace h:=h.pick [4,0,1,2,3,8,9,10,12,13] rfl
 obtain ⟨o1,hr23,hF⟩:=qf hF
 obtain ⟨r21,x1,x2,x3,x4,x5⟩:=o1
 refine qba r21 (cB 19 rfl) (qiy h hr23) rfl rfl rfl rfl ?_
 rintro w21 ⟨S25,S26,S27,S28,S29,h⟩
 replace h:SH _ _ [Ch.own S29 (x5:List qr) [.slice p20 r9.Aq.length k20],Ch.own S28 (x4:List qu) [.slice p19 r9.Ab.Af.length k19],Ch.own S27 (x3:List ByteArray) [.slice p18 r9.Ab.Ac.length k18],Ch.own S26 (x2:List qc) [.slice p17 r9.Ab.Aa.length k17],Ch.own S25 (x1:List qk) [.slice p16 r9.As.Aj.length k16],Ch.own S12 (r13:List Int) [.slice p23 r13.length k23],Ch.own S10 (r11:List Int) [.slice p22 r11.length k22],Ch.own S9 (r10:List qb) [.slice p21 r10.length k21],Ch.own S5 (r7:List Int) [.slice p15 r7.length k15],Ch.box bb1 (qbw a_0 p1 p2 p3 p4 p5 k1 k2 k3 k4 k5) 32]:=h
 refine X0 6 rfl ?_
 replace h:=h.pick [7,5,6,8,9] rfl
 obtain ⟨o2,hr24,hF⟩:=qf hF
 obtain ⟨r22,x6⟩:=o2
 refine qba r22 (cB 20 rfl) (qhy h hr24) rfl rfl rfl rfl ?_
 rintro w22 ⟨S30,h⟩
 replace h:SH _ _ [Ch.own S30 (x6:List qb) [.slice p21 r10.length k21],Ch.own S12 (r13:List Int) [.slice p23 r13.length k23],Ch.own S10 (r11:List Int) [.slice p22 r11.length k22],Ch.own S5 (r7:List Int) [.slice p15 r7.length k15],Ch.box bb1 (qbw a_0 p1 p2 p3 p4 p5 k1 k2 k3 k4 k5) 32]:=h
 refine X0 6 rfl ?_
 replace h:=h.pick [2,1,3,4] rfl
 obtain ⟨o3,hr25,hF⟩:=qf hF
 obtain ⟨r23,x7⟩:=o3
 refine qba r23 (cB 21 rfl) (qS h hr25) rfl rfl rfl rfl ?_
 rintro w23 ⟨S31,h⟩
 replace h:SH _ _ [Ch.own S31 (x7:List Int) [.slice p22 r11.length k22],Ch.own S12 (r13:List Int) [.slice p23 r13.length k23],Ch.own S5 (r7:List Int) [.slice p15 r7.length k15],Ch.box bb1 (qbw a_0 p1 p2 p3 p4 p5 k1 k2 k3 k4 k5) 32]:=h
 refine X0 4 rfl ?_
 obtain ⟨KF2,hKF2,o6,hF,hK2⟩:=bindE hF
 refine qcw (fun e w'=>∃ (b2:Bool),KF2 b2=some r∧e=[(1,.slice p6 a_1.length k6),(2,.slice p7 a_2.length k7),(3,.pointer (some ⟨bb1,0,none⟩)),(8,.slice p15 r7.length k15),(9,.int .i64 r8),(13,.slice p23 r13.length k23),(101,.bool b2)]∧SH w w' [Ch.own S12 (r13:List Int) [.slice p23 r13.length k23],Ch.own S5 (r7:List Int) [.slice p15 r7.length k15],Ch.box bb1 (qbw a_0 p1 p2 p3 p4 p5 k1 k2 k3 k4 k5) 32]) ?_ ?_
 ·refine X0 4 rfl (qg (t:=91) hF rfl ?_ ?_)<;>intro hF
  ·refine X0 11 rfl ?_
   replace h:=h.pick [1,2,3] rfl
   obtain rfl:=qa hF
   exact rG ⟨_,hK2,rfl,h⟩ rfl
  refine X0 5 rfl (zcB h hF (qT (h.own 1 rfl) (h.own 2 rfl)) rfl fun r34 w33 h hF=>X0 4 rfl (qg (t:=97) hF rfl ?_ ?_))<;>intro hF
  ·refine X0 5 rfl ?_
   replace h:=h.pick [1,2,3] rfl
   obtain rfl:=qa hF
   exact rG ⟨_,hK2,rfl,h⟩ rfl
  refine X0 8 rfl ?_
  replace h:=h.pick [1,2,3] rfl
  obtain rfl:=qa hF
  exact rG ⟨_,hK2,rfl,h⟩ rfl
 rintro e2 w34 ⟨b2,hF,rfl,h⟩
 subst hKF2
 refine qh rfl hF ?_ ?_<;>intro hF
 ·exact X0 4 rfl (rb h hF rfl)
 refine X0 9 rfl ?_
 obtain ⟨o4,hr26,hF⟩:=qf hF
 obtain ⟨r24,x8⟩:=o4
 refine qba r24 (cB 21 rfl) (qS h hr26) rfl rfl rfl rfl ?_
 rintro w24 ⟨S32,h⟩
 replace h:SH _ _ [Ch.own S32 (x8:List Int) [.slice p23 r13.length k23],Ch.own S5 (r7:List Int) [.slice p15 r7.length k15],Ch.box bb1 (qbw a_0 p1 p2 p3 p4 p5 k1 k2 k3 k4 k5) 32]:=h
 refine X0 10 rfl (zcI h hF (qgz (h.own 0 rfl)) rfl fun r25 w25 h hF=>X0 8 rfl (qh rfl hF ?_ ?_))<;>intro hF
 ·exact X0 4 rfl (rb h hF rfl)
 refine X0 8 rfl (qh rfl hF ?_ ?_)<;>intro hF
 ·exact X0 4 rfl (rb h hF rfl)
 refine X1 4 2 h rfl (zcO h hF (qeB (qmU _ (h.oldS s1) (h.oldS s2) (h.oldS s3) (h.oldS s4) (h.oldS s5))) rfl fun r26 w26 S33 cs7 h hF=>?_)
 obtain ⟨p31,k31,p32,k32,p33,k33,p34,k34,p35,k35,rfl,-,-,-,-,-⟩:=qay (h.own 0 rfl)
 refine zp1 rfl (zcL h hF (qc7 ⟨_,_,rfl,(h.oldS s6)⟩) rfl fun r27 w27 S34 p36 k36 h hF=>zp1 rfl (zcL h hF (qU ⟨_,_,rfl,(h.oldS s7)⟩) rfl fun r28 w28 S35 p37 k37 h hF=>?_))
 obtain ⟨r29,hr31,hF⟩:=qf hF
 obtain ⟨r30,r31⟩:=r29
 refine qg2 (r30,r31) h (cB 15 rfl) (qhh (h.own 2 rfl) (h.own 1 rfl) (h.own 0 rfl) hr31) rfl rfl rfl rfl fun w29 S36 us5 hv7 hr32=>?_
 obtain ⟨S37,S38,p38,k38,us6,rfl,hv8,hr33⟩:=hv7.consL hr32
 obtain ⟨rfl,h⟩:=hv8.lastI hr33
 refine X0 8 rfl ?_
 obtain ⟨KF1,hKF1,o5,hF,hK1⟩:=bindE hF
 refine qcw (fun e w'=>∃ (b3:Bool),KF1 b3=some r∧e=[(13,.slice p23 r13.length k23),(16,.int .i64 r24),(131,.bool b3)]∧SH w w' [Ch.own S32 (x8:List Int) [.slice p23 r13.length k23]]) ?_ ?_
 ·refine X0 3 rfl (zcB h hF (qT (h.own 0 rfl) (h.own 5 rfl)) rfl fun r33 w31 h hF=>zp2 rfl (qg (t:=127) hF rfl ?_ ?_))<;>intro hF
  ·refine X0 5 rfl ?_
   replace h:=h.pick [4] rfl
   obtain rfl:=qa hF
   exact rG ⟨_,hK1,rfl,h⟩ rfl
  refine X0 8 rfl ?_
  replace h:=h.pick [4] rfl
  obtain rfl:=qa hF
  exact rG ⟨_,hK1,rfl,h⟩ rfl
 rintro e1 w32 ⟨b3,hF,rfl,h⟩
 subst hKF1
 refine qh rfl hF ?_ ?_<;>intro hF
 ·exact X0 4 rfl (rb h hF rfl)
 refine X0 9 rfl (zcI h hF (qgz (h.own 0 rfl)) rfl fun r32 w30 h hF=>X0 8 rfl (qh rfl hF ?_ ?_))<;>intro hF
 ·exact X0 4 rfl (rb h hF rfl)
 refine X0 8 rfl (qh rfl hF ?_ ?_)<;>intro hF
 ·exact X0 4 rfl (rb h hF rfl)
 exact X0 5 rfl (rb h hF rfl)
end Go.Fw


namespace Go.Fw
open Go Go.Proofs
open Go.RowKit (Below)
set_option maxRecDepth 100000
set_option maxHeartbeats 1600000
variable {n:Nat} {w:World} {cs1 cs2 cs3 cs4 cs5 cs6 cs7 cs8 cs9:List Value}
end Go.Fw


namespace Go.Fw
open Go Go.Proofs
open Go.RowKit (Below)
set_option maxRecDepth 100000
set_option maxHeartbeats 1600000
variable {n:Nat} {w:World} {cs1 cs2 cs3 cs4 cs5 cs6 cs7 cs8 cs9:List Value}
end Go.Fw


namespace Go.Fw
open Go
end Go.Fw


namespace Go.Fw
open Go
set_option maxRecDepth 100000
def Mk {σ:Type} (F:Nat→Option (Int × σ)) (k:Int) (w:Nat):Prop:=∃ k' x,Ev F (k',x)∧k≤k'∧k'≤k+16*(w:Int)
theorem qaA {α:Type} {t:List α} {j:Nat} {y:α} (h:j<t.length):idx (setS t (j:Int) y) (j:Int)=some y:=by
 rw [qfm (by rw [qhf];exact h),qof h]
theorem qae {α:Type} {t:List α} {i:Int} {y z:α}:setS (setS t i y) i z=setS t i z:=by
 unfold setS;rw [List.set_set]
theorem qk0 {α:Type} {a:List α} {wt:α→Nat} {j:Nat} (h:j<a.length):((a.take (j+1)).map wt).sum=((a.take j).map wt).sum+wt a[j]:=by
 rw [List.take_succ_eq_append_getElem h,jH,List.sum_append];simp
theorem qmh {α:Type} {a:List α} {wt:α→Nat} {j:Nat}:((a.take j).map wt).sum≤(a.map wt).sum:=by
 conv=>rhs;rw [←List.take_append_drop j a]
 rw [jH,List.sum_append]
 exact Nat.le_add_right _ _
theorem qeg {α:Type} {a:List α} {wt:α→Nat} {Lf:Nat→List α→Int→Int→Option (List α × Int × Int)} {F:Nat→Option (Int × List α)} {k:Int} (hk0:0≤k) (hk1:k+16*((a.length+(a.map wt).sum:Nat):Int)≤1000000000000)
  (hend:∀ n t k,Lf (n+1) t k (a.length:Int)=some (t,k,(a.length:Int)))
  (hstep:∀ x,x ∈ a→∀ k:Int,0≤k→k+16*((1+wt x:Nat):Int)≤1000000000000→∃ y k',k≤k'∧k'≤k+16*((1+wt x:Nat):Int) ∧
   ∀ (t:List α) (j:Nat),j<9223372036854775807→j<a.length→j<t.length→t[j]?=some x→∀ X,Ev (fun n=>Lf n (setS t (j:Int) y) k' ((j+1:Nat):Int)) X→Ev (fun n=>Lf (n+1) t k (j:Int)) X)
  (hl:a.length≤1048576)
  (hF:∀ n,F n=(Lf n a k 0).bind fun o=>match o with|(x1,i1,_)=>some (i1,x1)):Mk F k (a.length+(a.map wt).sum):=by
 obtain ⟨⟨t,k'⟩,⟨_,_,h3,h4⟩,e⟩:=loopE (τ:=List α × Int) (Lf:=fun n t j=>Lf n t.1 t.2 j) (fin:=fun t=>(t.1,t.2,(a.length:Int)))
  (fun j t=>t.1.length=a.length∧(∀ i,j≤i→t.1[i]?=a[i]?)∧k≤t.2∧t.2≤k+16*((j+((a.take j).map wt).sum:Nat):Int)) (len:=a.length)
  (fun n t=>hend n t.1 t.2)
  (fun j t hj ht=>by
   obtain ⟨h1,h2,h3,h4⟩:=ht
   have hs:=qk0 (wt:=wt) hj
   have hs2:=qmh (a:=a) (wt:=wt) (j:=j+1)
   obtain ⟨y,k',q1,q2,q3⟩:=hstep a[j] (jq hj) t.2 (by omega) (by omega)
   refine ⟨(setS t.1 (j:Int) y,k'),⟨by rw [qhf];exact h1,fun i hi=>?_,by show k≤k';omega,?_⟩,fun X hX=>?_⟩
   ·show (t.1.set _ _)[i]?=_
    rw [List.getElem?_set_ne (by rw [jz];omega)]
    exact h2 i (by omega)
   ·show k'≤k+_
    rw [hs]
    omega
   ·exact q3 t.1 j (by omega) hj (by omega) (by rw [h2 j (je _),ji hj]) X hX) 0 (Nat.zero_le _) (a,k) ⟨rfl,fun _ _=>rfl,Int.le_refl _,by show k≤k+_;omega⟩
 rw [List.take_length] at h4
 exact ⟨k',t,Ev.congr hF (Ev.bind e .done),h3,h4⟩
theorem qok {α:Type} {pre a:List α} {j:Nat} {y:α} (hp:pre.length=j) (hj:j<a.length):setS (pre++a.drop j) (j:Int) y=(pre++[y])++a.drop (j+1):=by
 show (pre++a.drop j).set j y=_
 rw [List.set_append,if_neg (by omega),hp,Nat.sub_self,jE hj,List.set_cons_zero,jG]
 rfl
def marked (k:Int) (m:Nat):List Int:=(List.range m).map fun (i:Nat)=>k+(i:Int)
theorem qkr {a:List Int} {k:Int} (h0:0≤k) (h1:k≤1000000000000) (hl:a.length≤1048576):Ev (fun n=>qR n a k) (k+(a.length:Int),marked k a.length):=by
 have hL:Ev (fun n=>qa1 a n a k 0) (marked k a.length,k+(a.length:Int),(a.length:Int)):=by
  have:=loopF (τ:=List Int × Int) (Lf:=fun n t j=>qa1 a n t.1 t.2 j) (S:=fun j=>(marked k j++a.drop j,k+(j:Int))) (len:=a.length) (fin:=(marked k a.length,k+(a.length:Int),(a.length:Int))) (fun n=>by
    simp only [qa1,qi (je _),cond_false,List.drop_length,List.append_nil])
   (fun j hj X hX=>by
    have hp:(marked k j).length=j:=by simp [marked]
    have hlt:j<(marked k j++a.drop j).length:=by rw [jm,hp,List.length_drop];omega
    have hm:marked k (j+1)=marked k j++[k+(j:Int)]:=by unfold marked;rw [List.range_succ,jH];rfl
    simp only [qa1,qj hj,cond_true,qfm hlt,jd,qok hp hj,wS j,qap (show -9223372036854775808≤k+(j:Int)+1 by omega) (by omega)]
    rw [←hm]
    rw [show k+(j:Int)+1=k+((j+1:Nat):Int) by omega]
    exact hX)
  simpa [marked] using this
 unfold qR
 exact Ev.bind hL .done
theorem qc0 {a:List Int} {k:Int} (h0:0≤k) (h1:k≤1000000000000) (hl:qZ a≤1048576):∃ k' x,Ev (fun n=>qR n a k) (k',x)∧k≤k'∧k'≤k+16*(qZ a:Int) :=
 ⟨_,_,qkr h0 h1 hl,by omega,by unfold qZ;omega⟩
theorem qpg {k:Int} {m:Nat} (h0:0≤k) (h1:k≤1000000000000) (hl:m≤1048576):Ev (fun n=>qdK n (marked k m) k) (k+(m:Int)):=by
 have hlen:(marked k m).length=m:=by simp [marked]
 have hL:Ev (fun n=>qa2 (marked k m) n k 0) (.nxt (k+(m:Int),(m:Int))):=by
  have:=loopF (Lf:=qa2 (marked k m)) (S:=fun j=>k+(j:Int)) (len:=m) (fin:=.nxt (k+(m:Int),(m:Int))) (fun n=>by
    simp only [qa2,hlen,qi (je _),cond_false])
   (fun j hj X hX=>by
    have e:idx (marked k m) (j:Int)=some (k+(j:Int)):=by
     rw [qfm (by rw [hlen];exact hj)];simp [marked]
    simp only [qa2,hlen,qj hj,cond_true,e,jd,bne_self_eq_false,cond_false,wS j,qap (show -9223372036854775808≤k+(j:Int)+1 by omega) (by omega)]
    rw [show k+(j:Int)+1=k+((j+1:Nat):Int) by omega]
    exact hX)
  simpa using this
 unfold qdK
 exact Ev.bind hL .done
theorem qnt {a b:ByteArray} (h:a.size+b.size≤1000000):catB a b=some (a++b):=by
 unfold catB
 rw [if_pos]
 show ((a.size+b.size:Nat):Int)≤9223372036854775807
 omega
theorem qlt {x:IntK .u8}:(strOf [x]).size=1:=rfl
theorem qfN {k:Int} (hk:k≤1000000000001000):∃ s,Ev (fun n=>qcc n k) s:=by
 have main:∀ m:Nat,∀ i1:Int,∀ z:ByteArray,0≤i1→i1≤9000000000000000000→i1<10 ^ m→z.size+m≤1000→∃ o:Int × ByteArray,o.2.size≤1000∧Ev (fun n=>qde n i1 z) o:=by
  intro m
  induction m with
  | zero =>
   intro i1 z h0 hb h1 hz
   have:i1=0:=by have:(10:Int) ^ 0=1:=rfl;omega
   subst this
   exact ⟨(0,z),by show z.size≤1000;omega,Ev.succ (Ev.ff (by decide) .done)⟩
  | succ m ih =>
   intro i1 z h0 hb h1 hz
   by_cases hp:i1=0
   ·subst hp
    exact ⟨(0,z),by show z.size≤1000;omega,Ev.succ (Ev.ff (by decide) .done)⟩
   ·have hd:i1.tdiv 10=i1 / 10:=Int.tdiv_eq_ediv_of_nonneg h0
    have h10:(10:Int) ^ (m+1)=10 ^ m*10:=Int.pow_succ _ _
    have hc:catB (strOf ([(⟨IntKind.wrap .u8 (W64 (48+(i1.tmod 10)))⟩:IntK .u8)])) z=some (strOf ([(⟨IntKind.wrap .u8 (W64 (48+(i1.tmod 10)))⟩:IntK .u8)])++z):=qnt (by rw [qlt];omega)
    obtain ⟨o,ho,e⟩:=ih (i1 / 10) (strOf ([(⟨IntKind.wrap .u8 (W64 (48+(i1.tmod 10)))⟩:IntK .u8)])++z) (by omega) (by omega) (by omega) (by rw [ByteArray.size_append,qlt];omega)
    refine ⟨o,ho,Ev.succ ?_⟩
    simp only [qde,show decide (i1 > 0)=true by simp;omega,cond_true,hc,jd,hd,qap (show -9223372036854775808≤i1 / 10 by omega) (by omega)]
    exact e
 unfold qcc
 by_cases h0:k≤0
 ·exact ⟨_,Ev.tt (by simpa using h0) .done⟩
 ·obtain ⟨⟨o1,o2⟩,ho,e⟩:=main 16 k ⟨#[]⟩ (by omega) (by omega) (by have:(10:Int) ^ 16=10000000000000000:=rfl;omega) (by decide)
  refine ⟨(⟨#[109]⟩:ByteArray)++o2,Ev.ff (by simp;omega) (Ev.bind e ?_)⟩
  have ho:o2.size≤1000:=ho
  show Ev (fun n=>(catB ⟨#[109]⟩ o2).bind fun z3=>some z3) _
  rw [qnt (show (⟨#[109]⟩:ByteArray).size+o2.size≤1000000 by have:(⟨#[109]⟩:ByteArray).size=1:=rfl;omega)]
  exact .done
theorem qoj {α:Type} {a:List α}:(a.map (fun _=>0)).sum=0:=by induction a<;>simp_all
theorem qis {a:(List ql)} {k:Int} (h0:0≤k) (h1:k+16*(qbx a:Int)≤1000000000000) (hw:qbx a≤1048576):Mk (fun n=>qeE n a k) k (qbx a):=by
 refine qeg (a:=a) (wt:=(fun x:ql=>qb9 x)) h0 h1 (Lf:=qby a) (fun n t k=>by simp only [qby,qi (je _),cond_false]) (fun x hx k h0 h1=>?_) (by simp only [qbx] at hw;omega) (fun _=>rfl)
 have hs:=qbb (wt:=(fun x:ql=>qb9 x)) hx
 have ew:qb9 x=qZ x.Ay+qZ x.Av+qZ x.Ap:=rfl
 have hw:a.length+(a.map (fun x:ql=>qb9 x)).sum≤1048576:=hw
 simp only [ew] at hs h1 ⊢
 obtain ⟨k1,x1,q1,l1,u1⟩:=qc0 (a:=x.Ay) (k:=k) (by omega) (by omega) (by omega)
 obtain ⟨k2,x2,q2,l2,u2⟩:=qc0 (a:=x.Av) (k:=k1) (by omega) (by omega) (by omega)
 obtain ⟨k3,x3,q3,l3,u3⟩:=qc0 (a:=x.Ap) (k:=k2) (by omega) (by omega) (by omega)
 refine ⟨⟨x1,x2,x3⟩,k3,by omega,by omega,fun t j hb hj ht hx X hX=>?_⟩
 simp only [qby,qj hj,cond_true,qdp hb]
 try simp only [qA hx,qaA ht,jd,qae]
 refine Ev.bind q1 ?_
 try simp only [qA hx,qaA ht,jd,qae]
 refine Ev.bind q2 ?_
 try simp only [qA hx,qaA ht,jd,qae]
 refine Ev.bind q3 ?_
 try simp only [qA hx,qaA ht,jd,qae]
 exact hX
theorem qmr {a:(List qz)} {k:Int} (h0:0≤k) (h1:k+16*(qen a:Int)≤1000000000000) (hw:qen a≤1048576):Mk (fun n=>qg4 n a k) k (qen a):=by
 refine qeg (a:=a) (wt:=(fun x:qz=>qfc x)) h0 h1 (Lf:=qcu a) (fun n t k=>by simp only [qcu,qi (je _),cond_false]) (fun x hx k h0 h1=>?_) (by simp only [qen] at hw;omega) (fun _=>rfl)
 have hs:=qbb (wt:=(fun x:qz=>qfc x)) hx
 have ew:qfc x=qbx x.At+qbx x.Bb:=rfl
 have hw:a.length+(a.map (fun x:qz=>qfc x)).sum≤1048576:=hw
 simp only [ew] at hs h1 ⊢
 have e1:W64 (k+1)=k+1:=qap (by omega) (by omega)
 have e2:W64 (k+1+1)=k+1+1:=qap (by omega) (by omega)
 have e3:W64 (k+1+1+1)=k+1+1+1:=qap (by omega) (by omega)
 have e4:W64 (k+1+1+1+1)=k+1+1+1+1:=qap (by omega) (by omega)
 obtain ⟨k1,x1,q1,l1,u1⟩:=qis (a:=x.At) (k:=k+1+1+1+1) (by omega) (by omega) (by omega)
 obtain ⟨k2,x2,q2,l2,u2⟩:=qis (a:=x.Bb) (k:=k1) (by omega) (by omega) (by omega)
 refine ⟨⟨k,k+1,k+1+1,k+1+1+1,x1,x2⟩,k2,by omega,by omega,fun t j hb hj ht hx X hX=>?_⟩
 simp only [qcu,qj hj,cond_true,qdp hb]
 try simp only [qA hx,qaA ht,jd,qae,e1,e2,e3,e4]
 refine Ev.bind q1 ?_
 try simp only [qA hx,qaA ht,jd,qae,e1,e2,e3,e4]
 refine Ev.bind q2 ?_
 try simp only [qA hx,qaA ht,jd,qae,e1,e2,e3,e4]
 exact hX
theorem ql6 {a:(List qF)} {k:Int} (h0:0≤k) (h1:k+16*(qem a:Int)≤1000000000000) (hw:qem a≤1048576):Mk (fun n=>qg5 n a k) k (qem a):=by
 refine qeg (a:=a) (wt:=(fun x:qF=>qgC x)) h0 h1 (Lf:=qcl a) (fun n t k=>by simp only [qcl,qi (je _),cond_false]) (fun x hx k h0 h1=>?_) (by simp only [qem] at hw;omega) (fun _=>rfl)
 have hs:=qbb (wt:=(fun x:qF=>qgC x)) hx
 have ew:qgC x=x.Am.size:=rfl
 have hw:a.length+(a.map (fun x:qF=>qgC x)).sum≤1048576:=hw
 simp only [ew] at hs h1 ⊢
 obtain ⟨s1,es1⟩:=qfN (k:=k) (by omega)
 have e1:W64 (k+1)=k+1:=qap (by omega) (by omega)
 have e2:W64 (k+1+1)=k+1+1:=qap (by omega) (by omega)
 have e3:W64 (k+1+1+1)=k+1+1+1:=qap (by omega) (by omega)
 have e4:W64 (k+1+1+1+1)=k+1+1+1+1:=qap (by omega) (by omega)
 refine ⟨⟨s1,k+1,k+1+1,((k+1+1+1).tmod 3)==0⟩,k+1+1+1+1,by omega,by omega,fun t j hb hj ht hx X hX=>?_⟩
 simp only [qcl,qj hj,cond_true,qdp hb]
 try simp only [qA hx,qaA ht,jd,qae]
 refine Ev.bind es1 ?_
 try simp only [qA hx,qaA ht,jd,qae,e1,e2,e3,e4]
 exact hX
theorem qlR {a:(List qk)} {k:Int} (h0:0≤k) (h1:k+16*(qdA a:Int)≤1000000000000) (hw:qdA a≤1048576):Mk (fun n=>qgt n a k) k (qdA a):=by
 refine qeg (a:=a) (wt:=(fun x:qk=>qdc x)) h0 h1 (Lf:=qbP a) (fun n t k=>by simp only [qbP,qi (je _),cond_false]) (fun x hx k h0 h1=>?_) (by simp only [qdA] at hw;omega) (fun _=>rfl)
 have hs:=qbb (wt:=(fun x:qk=>qdc x)) hx
 have ew:qdc x=x.Am.size+qem x.Ai+qen x.Ak+qZ x.Au:=rfl
 have hw:a.length+(a.map (fun x:qk=>qdc x)).sum≤1048576:=hw
 simp only [ew] at hs h1 ⊢
 obtain ⟨s1,es1⟩:=qfN (k:=k) (by omega)
 have e1:W64 (k+1)=k+1:=qap (by omega) (by omega)
 have e2:W64 (k+1+1)=k+1+1:=qap (by omega) (by omega)
 obtain ⟨k2,x2,q2,l2,u2⟩:=ql6 (a:=x.Ai) (k:=k+1+1) (by omega) (by omega) (by omega)
 obtain ⟨k3,x3,q3,l3,u3⟩:=qmr (a:=x.Ak) (k:=k2) (by omega) (by omega) (by omega)
 obtain ⟨k4,x4,q4,l4,u4⟩:=qc0 (a:=x.Au) (k:=k3) (by omega) (by omega) (by omega)
 have e3:W64 (k4+1)=k4+1:=qap (by omega) (by omega)
 have e4:W64 (k4+1+1)=k4+1+1:=qap (by omega) (by omega)
 refine ⟨⟨s1,k+1,x2,x3,x4,k4,k4+1⟩,k4+1+1,by omega,by omega,fun t j hb hj ht hx X hX=>?_⟩
 simp only [qbP,qj hj,cond_true,qdp hb]
 try simp only [qA hx,qaA ht,jd,qae]
 refine Ev.bind es1 ?_
 try simp only [qA hx,qaA ht,jd,qae,e1,e2]
 refine Ev.bind q2 ?_
 try simp only [qA hx,qaA ht,jd,qae,e1,e2]
 refine Ev.bind q3 ?_
 try simp only [qA hx,qaA ht,jd,qae,e1,e2]
 refine Ev.bind q4 ?_
 try simp only [qA hx,qaA ht,jd,qae,e1,e2,e3,e4]
 exact hX
theorem qkJ {a:qn} {k:Int} (h0:0≤k) (h1:k+16*(qcs a:Int)≤1000000000000) (hw:qcs a≤1048576):Mk (fun n=>qea n a k) k (qcs a):=by
 simp only [qcs] at h1 hw ⊢
 obtain ⟨k1,x1,q1,l1,u1⟩:=qlR (a:=a.Aj) (k:=k) (by omega) (by omega) (by omega)
 refine ⟨k1,x1,?_,by omega,by omega⟩
 unfold qea
 exact Ev.bind q1 (.done)
theorem qjy {a:(List qc)} {k:Int} (h0:0≤k) (h1:k+16*(qaK a:Int)≤1000000000000) (hw:qaK a≤1048576):Mk (fun n=>qeJ n a k) k (qaK a):=by
 refine qeg (a:=a) (wt:=(fun x:qc=>qaF x)) h0 h1 (Lf:=qaW a) (fun n t k=>by simp only [qaW,qi (je _),cond_false]) (fun x hx k h0 h1=>?_) (by simp only [qaK] at hw;omega) (fun _=>rfl)
 have hs:=qbb (wt:=(fun x:qc=>qaF x)) hx
 have ew:qaF x=x.Am.size+qZ x.Ac:=rfl
 have hw:a.length+(a.map (fun x:qc=>qaF x)).sum≤1048576:=hw
 simp only [ew] at hs h1 ⊢
 obtain ⟨s1,es1⟩:=qfN (k:=k) (by omega)
 have e1:W64 (k+1)=k+1:=qap (by omega) (by omega)
 have e2:W64 (k+1+1)=k+1+1:=qap (by omega) (by omega)
 obtain ⟨k2,x2,q2,l2,u2⟩:=qc0 (a:=x.Ac) (k:=k+1+1) (by omega) (by omega) (by omega)
 refine ⟨⟨s1,k+1,x2⟩,k2,by omega,by omega,fun t j hb hj ht hx X hX=>?_⟩
 simp only [qaW,qj hj,cond_true,qdp hb]
 try simp only [qA hx,qaA ht,jd,qae]
 refine Ev.bind es1 ?_
 try simp only [qA hx,qaA ht,jd,qae,e1,e2]
 refine Ev.bind q2 ?_
 try simp only [qA hx,qaA ht,jd,qae,e1,e2]
 exact hX
theorem qkB {a:(List ByteArray)} {k:Int} (h0:0≤k) (h1:k+16*(qct a:Int)≤1000000000000) (hw:qct a≤1048576):Mk (fun n=>qfl n a k) k (qct a):=by
 refine qeg (a:=a) (wt:=(fun x:ByteArray=>x.size)) h0 h1 (Lf:=qbo a) (fun n t k=>by simp only [qbo,qi (je _),cond_false]) (fun x hx k h0 h1=>?_) (by simp only [qct] at hw;omega) (fun _=>rfl)
 obtain ⟨s,es⟩:=qfN (k:=k) (by omega)
 have e1:W64 (k+1)=k+1:=qap (by omega) (by omega)
 refine ⟨s,k+1,by omega,by omega,fun t j hb hj ht hx X hX=>?_⟩
 simp only [qbo,qj hj,cond_true,e1,qdp hb]
 refine Ev.bind es ?_
 try simp only [qA hx,jd]
 exact hX
theorem ql3 {a:(List qu)} {k:Int} (h0:0≤k) (h1:k+16*(qdB a:Int)≤1000000000000) (hw:qdB a≤1048576):Mk (fun n=>qgK n a k) k (qdB a):=by
 refine qeg (a:=a) (wt:=(fun x:qu=>qeI x)) h0 h1 (Lf:=qbR a) (fun n t k=>by simp only [qbR,qi (je _),cond_false]) (fun x hx k h0 h1=>?_) (by simp only [qdB] at hw;omega) (fun _=>rfl)
 have hs:=qbb (wt:=(fun x:qu=>qeI x)) hx
 have ew:qeI x=x.Am.size:=rfl
 have hw:a.length+(a.map (fun x:qu=>qeI x)).sum≤1048576:=hw
 simp only [ew] at hs h1 ⊢
 obtain ⟨s1,es1⟩:=qfN (k:=k) (by omega)
 have e1:W64 (k+1)=k+1:=qap (by omega) (by omega)
 have e2:W64 (k+1+1)=k+1+1:=qap (by omega) (by omega)
 have e3:W64 (k+1+1+1)=k+1+1+1:=qap (by omega) (by omega)
 refine ⟨⟨s1,k+1,k+1+1⟩,k+1+1+1,by omega,by omega,fun t j hb hj ht hx X hX=>?_⟩
 simp only [qbR,qj hj,cond_true,qdp hb]
 try simp only [qA hx,qaA ht,jd,qae]
 refine Ev.bind es1 ?_
 try simp only [qA hx,qaA ht,jd,qae,e1,e2,e3]
 exact hX
theorem qkZ {a:qd} {k:Int} (h0:0≤k) (h1:k+16*(qcA a:Int)≤1000000000000) (hw:qcA a≤1048576):Mk (fun n=>qeA n a k) k (qcA a):=by
 simp only [qcA] at h1 hw ⊢
 obtain ⟨k1,x1,q1,l1,u1⟩:=qjy (a:=a.Aa) (k:=k) (by omega) (by omega) (by omega)
 obtain ⟨k2,x2,q2,l2,u2⟩:=qkB (a:=a.Ac) (k:=k1) (by omega) (by omega) (by omega)
 obtain ⟨k3,x3,q3,l3,u3⟩:=ql3 (a:=a.Af) (k:=k2) (by omega) (by omega) (by omega)
 refine ⟨k3,(x1,x2,x3),?_,by omega,by omega⟩
 unfold qeA
 exact Ev.bind q1 (Ev.bind q2 (Ev.bind q3 (.done)))
theorem qlZ {a:(List qr)} {k:Int} (h0:0≤k) (h1:k+16*(qdx a:Int)≤1000000000000) (hw:qdx a≤1048576):Mk (fun n=>qgD n a k) k (qdx a):=by
 refine qeg (a:=a) (wt:=(fun x:qr=>qdo x)) h0 h1 (Lf:=qbO a) (fun n t k=>by simp only [qbO,qi (je _),cond_false]) (fun x hx k h0 h1=>?_) (by simp only [qdx] at hw;omega) (fun _=>rfl)
 have hs:=qbb (wt:=(fun x:qr=>qdo x)) hx
 have ew:qdo x=qZ x.Ah+qZ x.Bi+qZ x.Bg+qZ x.Be:=rfl
 have hw:a.length+(a.map (fun x:qr=>qdo x)).sum≤1048576:=hw
 simp only [ew] at hs h1 ⊢
 obtain ⟨k1,x1,q1,l1,u1⟩:=qc0 (a:=x.Ah) (k:=k) (by omega) (by omega) (by omega)
 obtain ⟨k2,x2,q2,l2,u2⟩:=qc0 (a:=x.Bi) (k:=k1) (by omega) (by omega) (by omega)
 obtain ⟨k3,x3,q3,l3,u3⟩:=qc0 (a:=x.Bg) (k:=k2) (by omega) (by omega) (by omega)
 obtain ⟨k4,x4,q4,l4,u4⟩:=qc0 (a:=x.Be) (k:=k3) (by omega) (by omega) (by omega)
 refine ⟨⟨x1,x2,x3,x4⟩,k4,by omega,by omega,fun t j hb hj ht hx X hX=>?_⟩
 simp only [qbO,qj hj,cond_true,qdp hb]
 try simp only [qA hx,qaA ht,jd,qae]
 refine Ev.bind q1 ?_
 try simp only [qA hx,qaA ht,jd,qae]
 refine Ev.bind q2 ?_
 try simp only [qA hx,qaA ht,jd,qae]
 refine Ev.bind q3 ?_
 try simp only [qA hx,qaA ht,jd,qae]
 refine Ev.bind q4 ?_
 try simp only [qA hx,qaA ht,jd,qae]
 exact hX
theorem ql5 {a:qp} {k:Int} (h0:0≤k) (h1:k+16*(qdy a:Int)≤1000000000000) (hw:qdy a≤1048576):Mk (fun n=>qfb n a k) k (qdy a):=by
 simp only [qdy] at h1 hw ⊢
 obtain ⟨k1,x1,q1,l1,u1⟩:=qkJ (a:=a.As) (k:=k) (by omega) (by omega) (by omega)
 obtain ⟨k2,⟨x2_0,x2_1,x2_2⟩,q2,l2,u2⟩:=qkZ (a:=a.Ab) (k:=k1) (by omega) (by omega) (by omega)
 obtain ⟨k3,x3,q3,l3,u3⟩:=qlZ (a:=a.Aq) (k:=k2) (by omega) (by omega) (by omega)
 refine ⟨k3,(x1,x2_0,x2_1,x2_2,x3),?_,by omega,by omega⟩
 unfold qfb
 exact Ev.bind q1 (Ev.bind q2 (Ev.bind q3 (.done)))
theorem qjr {a:(List qb)} {k:Int} (h0:0≤k) (h1:k+16*(qa3 a:Int)≤1000000000000) (hw:qa3 a≤1048576):Mk (fun n=>qeH n a k) k (qa3 a):=by
 rw [show qa3 a=a.length+(a.map (fun _:qb=>0)).sum by unfold qa3;rw [qoj,Nat.add_zero]] at *
 refine qeg (a:=a) (wt:=(fun _:qb=>0)) h0 h1 (Lf:=qaX a) (fun n t k=>by simp only [qaX,qi (je _),cond_false]) (fun x hx k h0 h1=>?_) (by omega) (fun _=>rfl)
 have hs:=qbb (wt:=(fun _:qb=>0)) hx
 have e1:W64 (k+1)=k+1:=qap (by omega) (by omega)
 have e2:W64 (k+1+1)=k+1+1:=qap (by omega) (by omega)
 have e3:W64 (k+1+1+1)=k+1+1+1:=qap (by omega) (by omega)
 refine ⟨⟨k,k+1,k+1+1⟩,k+1+1+1,by omega,by omega,fun t j hb hj ht hx X hX=>?_⟩
 simp only [qaX,qj hj,cond_true,qdp hb]
 try simp only [qA hx,qaA ht,jd,qae,e1,e2,e3]
 exact hX
end Go.Fw


namespace Go.Fw
open Go
set_option maxRecDepth 100000
theorem qid {b:qp} {ks:(List qb)} {used:(List Int)} (h0:qh7 b) (h1:(rngL qei) ks) (h2:(rngL rngI) used):Ev (fun n=>qdY n b ks used) true:=by
 unfold qdY
 refine Ev.bif (fun _=>.done) (fun hl=>?_)
 have hl2:used.length≤1048576:=by have:=of_decide_eq_false hl;omega
 obtain ⟨r1,e1,q1⟩:=qoF (a:=b) (left:=1048576) h0 (by omega) (by omega)
 refine Ev.bind e1 ?_
 rcases q1 with q1|⟨p1,q1⟩
 ·exact Ev.tt (by simpa using q1) .done
 refine Ev.ff (by simp;omega) ?_
 obtain ⟨r2,e2,q2⟩:=qlY (a:=ks) (left:=r1) h1 p1 (by omega)
 refine Ev.bind e2 ?_
 rcases q2 with q2|⟨p2,q2⟩
 ·exact Ev.tt (by simpa using q2) .done
 refine Ev.ff (by simp;omega) ?_
 have w0:qdy b≤1048576:=by omega
 have k0:=qnb h0 w0
 have w1:qa3 ks≤1048576:=by omega
 have k1:=qkT h1 w1
 have w2:qZ used≤1048576:=by unfold qZ;omega
 have k2:=qcb h2 w2
 obtain ⟨⟨R0,R1⟩,hs,hi,v0⟩:=qme (b:=b) (ks:=ks) (used:=used) k0 k1.len k2.len
 have v0:qZ R0≤1048576:=v0
 refine Ev.bind (qi6 w0) ?_
 refine Ev.bind (qf1 w1) ?_
 refine Ev.bind (qcr w2) ?_
 refine Ev.bind hs ?_
 refine Ev.bind (qi6 w0) ?_
 refine Ev.bind (qf1 w1) ?_
 refine Ev.bind (qcr w2) ?_
 refine Ev.bind hi ?_
 refine Ev.bind (b:=false) (Ev.bind (qcm v0) (Ev.ff rfl (Ev.now (by simp)))) (Ev.ff rfl ?_)
 refine Ev.bind (qi6 w0) ?_
 refine Ev.bind (qou w0) (Ev.ff rfl ?_)
 refine Ev.bind (qf1 w1) ?_
 refine Ev.bind (qlN w1) (Ev.ff rfl ?_)
 refine Ev.bind (qcr w2) ?_
 refine Ev.bind (qcm w2) (Ev.ff rfl ?_)
 obtain ⟨m1,⟨x1_0,x1_1,x1_2,x1_3,x1_4⟩,mk1,ml1,mu1⟩:=ql5 (a:=b) (k:=1) (by omega) (by omega) w0
 refine Ev.bind mk1 ?_
 obtain ⟨m2,x2_0,mk2,ml2,mu2⟩:=qjr (a:=ks) (k:=m1) (by omega) (by omega) w1
 refine Ev.bind mk2 ?_
 obtain ⟨m3,x3_0,mk3,ml3,mu3⟩:=qc0 (a:=used) (k:=m2) (by omega) (by omega) w2
 refine Ev.bind mk3 ?_
 refine Ev.bind (b:=false) (Ev.ff (by simp;omega) (Ev.bind (qcm v0) (Ev.ff rfl (Ev.now (by simp))))) (Ev.ff rfl ?_)
 have hh1:=qpg (k:=1) (m:=R0.length) (by omega) (by omega) v0
 refine Ev.bind (qkr (by omega) (by omega) v0) ?_
 refine Ev.bind hh1 (Ev.ff (by simp;omega) (Ev.ff qav ?_))
 refine Ev.bind (qi6 w0) ?_
 refine Ev.bind (qf1 w1) ?_
 refine Ev.bind (qcr w2) ?_
 refine Ev.bind hi ?_
 refine Ev.bind (b:=false) (Ev.bind (qcm v0) (Ev.ff rfl (Ev.now (by simp)))) (Ev.ff rfl ?_)
 refine Ev.bind hh1 (Ev.ff (by simp;omega) (Ev.ff qav ?_))
 exact .done
end Go.Fw


namespace Go.Fw
open Go
end Go.Fw


namespace Go.Fw
open Go
open Go.RowKit (Below)
structure Same where
 w:World
 K:Nat→Prop
instance instSame:GoT Same where
 k:=1
 agg:=false
 zero:=⟨default,fun _=>False⟩
 zc:=[.bool true]
 R w S x cs:=cs=[.bool true]∧∀ b,x.K b→S b∧w.heap[b]?=x.w.heap[b]?
 O w S x cs:=cs=[.bool true]∧∀ b,x.K b→S b∧w.heap[b]?=x.w.heap[b]?
 kpos:=by decide
 noagg _:=rfl
 len h:=by obtain ⟨rfl,_⟩:=h;rfl
 one h:=by obtain ⟨rfl,_⟩:=h;simp [Value.oneCell']
 loc h hs:=⟨h.1,fun b hb=>⟨(h.2 b hb).1,(hs b (h.2 b hb).1).trans (h.2 b hb).2⟩⟩
 mono h hs:=⟨h.1,fun b hb=>⟨hs b (h.2 b hb).1,(h.2 b hb).2⟩⟩
 toR h:=h
 locO h hs:=⟨h.1,fun b hb=>⟨(h.2 b hb).1,(hs b (h.2 b hb).1).trans (h.2 b hb).2⟩⟩
 monoO h hs:=⟨h.1,fun b hb=>⟨hs b (h.2 b hb).1,(h.2 b hb).2⟩⟩
 zO _ _:=⟨rfl,fun _ h=>h.elim⟩
def FS (F:List Ch) (b:Nat):Prop:=∃ d,d ∈ F∧d.S b
abbrev Fr (w0:World) (F:List Ch) (b:Nat):Prop:=FS F b∨old w0 b
abbrev same (w0 w:World) (F:List Ch):Fct:=fct (⟨w,Fr w0 F⟩:Same) [.bool true]
section
variable {P:Program} {T:Tab} {n:Nat} {Q:Exit→Act→World→Prop} {k:List It} {e:Env} {w0 w w':World} {L L' F:List Ch}
theorem SH.frame (L:List Ch) (h:SH w0 w (L++F)):SH w0 w (L++[Ch.grp (Fw.old w0) (FS F) [same w0 w F]]):=by
 have hp:=List.pairwise_append.1 h.apart
 refine ⟨h.below,fun c hc=>?_,fun c hc=>?_,List.pairwise_append.2 ⟨hp.1,List.pairwise_singleton ..,fun c hc d hd b hb=>?_⟩⟩
 ·rcases List.mem_append.1 hc with hc|hc
  ·exact h.holds c (List.mem_append_left _ hc)
  ·obtain rfl:=List.mem_singleton.1 hc
   refine ⟨fun f hf=>?_,fun b hb=>?_⟩
   ·obtain rfl:=List.mem_singleton.1 hf
    exact ⟨rfl,fun b hb=>⟨hb,rfl⟩⟩
   ·obtain ⟨d,hd,hb⟩:=hb
    exact (h.holds d (List.mem_append_right _ hd)).2 b hb
 ·rcases List.mem_append.1 hc with hc|hc
  ·exact h.elder c (List.mem_append_left _ hc)
  ·obtain rfl:=List.mem_singleton.1 hc
   exact fun b hb=>hb
 ·obtain rfl:=List.mem_singleton.1 hd
  rintro ⟨d,hd,hdb⟩
  exact hp.2.2 c hc d hd b hb hdb
variable {α:Type} [GoT α] {x:α} {cs:List Value} {S D:Nat→Prop} {fs:List Fct}
end
section
open Go.ChangeShapes Go.RowKit
variable {H:Type} {enc:TypeId × Value→H} {P:Program} {w:World} {base:Nat} {spare:Nat→Bool} {held:Bool}
end
end Go.Fw
