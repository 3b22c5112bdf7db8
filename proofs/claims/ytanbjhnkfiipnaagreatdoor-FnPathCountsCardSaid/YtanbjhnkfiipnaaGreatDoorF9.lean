/- By a program of mine (gen.py): for each function a plain function and the proof that the code computes it. -/
import Derived.Test.YtanbjhnkfiipnaaGreatDoorE1
import Derived.Test.YtanbjhnkfiipnaaGreatDoorFw38
import Derived.Test.YtanbjhnkfiipnaaGreatDoorG1
open Option renaming bind_some → je
open Nat renaming le_refl → jf, mul_le_mul_right → jr, le_of_ble_eq_true → js, lt_of_lt_of_le → jt, zero_le → jw, succ_mul → jE, le_trans → jJ, add_zero → jN, zero_add → jZ
open List renaming length_append → jg, length_singleton → ji, getElem?_eq_getElem → jm, mem_cons_of_mem → jo, getElem_mem → jp, mem_cons_self → jq, mem_of_getElem? → ju, getElem?_append_left → jv, getD_eq_getElem?_getD → jx, not_mem_nil → jy, eq_nil_of_length_eq_zero → jA, length_map → jB, take_length → jC, take_succ_eq_append_getElem → jF, mem_append_left → jG, getElem?_take → jH, getElem?_toArray → jI, getElem?_append_right → jK, drop_eq_getElem_cons → jM, append_nil → jO, range_succ → jP, mem_cons → jQ, getElem_of_mem → jS, size_toArray → jT, length_filter_le → jU, append_assoc → jV, map_append → jW, all_eq_true → jX, map_cons → jY
open Bool renaming and_eq_true → jh, eq_iff_iff → jk, not_eq_true' → jD, true_and → jL
open Go.Result renaming andThen_ok → jj
open Go.Sem renaming run_bind → jl, run_pure → jn
open Int renaming toNat_natCast → jz
open Array renaming getElem?_append_left → jR

namespace Go.Fw
open Go Go.Proofs
open Go.RowKit (Below)
set_option maxRecDepth 100000
set_option maxHeartbeats 6400000
variable {n:Nat} {w:World} {cs1 cs2 cs3 cs4 cs5 cs6 cs7 cs8 cs9:List Value}
def qb1 (s:(List Int)) (v:Int):Nat→Int→Option (Flow Int Int)
 | 0,_=>none
 | n+1,i1 =>
  bif decide (i1<(s.length:Int)) then
   (idx s i1).bind fun y1 =>
   bif (v==y1) then some (.ret i1) else
   qb1 s v n (W64 (i1+1))
  else
   some (.nxt i1)
def qeV (n:Nat) (s:(List Int)) (v:Int):Option Int :=
 (qb1 s v n 0).bind fun o=>match o with
 | .ret r=>some r
 | .nxt _ =>
  some (-1)
theorem qi7 {s:(List Int)} {v:Int} (ha1:GoT.R w (old w) s cs1) {r:Int} (hF:qeV n s v=some r):RetV Tryz.prog 103 [GoT.v (List Int) cs1,.int .i64 v] w r:=by
 obtain ⟨p1,k1,rfl,s1⟩:=ha1
 refine zV 19 Tryz.func103 rfl fun h=>X0 11 rfl ?_
 obtain ⟨o1,hF,hK1⟩:=qe hF
 refine qt (rL (fun m e w'=>∃ (i1:Int),qb1 s v m i1=some o1∧e=[(0,.slice p1 s.length k1),(1,.int .i64 v),(7,.int .i64 (s.length:Int)),(8,.int .i64 i1)]∧SH w w' []) n ⟨_,hF,rfl,h⟩ rfl ?_)
 rintro m1 e1 w1 ⟨i1,hF,rfl,h⟩
 rcases m1 with _|m1
 ·cases hF
 refine X0 5 rfl (qq rfl hF ?_ ?_)<;>intro hF
 ·refine X0 13 rfl ?_
  obtain ⟨y1,hy1,hF,he1,b1,_,q1,cs2,hp1,hq1,rfl,hc2⟩:=s1.ix hF
  refine zxe hp1 hq1 he1 rfl (zc 0 (hc2.below h.below) rfl (X0 2 rfl (qq rfl hF ?_ ?_)))<;>intro hF
  ·refine X0 5 rfl ?_
   obtain rfl:=qd hF;replace hF:=hK1
   exact ri h hF rfl
  exact X0 6 rfl (rK ⟨_,hF,rfl,h⟩ rfl)
 refine qz rfl ?_
 obtain rfl:=qd hF;replace hF:=hK1
 exact X0 4 rfl (ri h hF rfl)
def qaS (r1:(List Int)):Nat→(List Int)→Int→Option ((List Int) × Int)
 | 0,_,_=>none
 | n+1,x3,i2 =>
  bif decide (i2<(r1.length:Int)) then
   (idx r1 i2).bind fun y2 =>
   (idx x3 y2).bind fun y3 =>
   (idx x3 y2).bind fun _ =>
   qaS r1 n (setS x3 y2 (W64 (y3+1))) (W64 (i2+1))
  else
   some (x3,i2)
def qaP (r3:(List Int)):Nat→(List Int)→Int→Option ((List Int) × Int)
 | 0,_,_=>none
 | n+1,x7,i4 =>
  bif decide (i4<(r3.length:Int)) then
   (idx r3 i4).bind fun y6 =>
   (idx x7 y6).bind fun y7 =>
   (idx x7 y6).bind fun _ =>
   qaP r3 n (setS x7 y6 (W64 (y7-1))) (W64 (i4+1))
  else
   some (x7,i4)
def qan (a_0:(Option Tview)) (x1:(List Int)):Nat→(List Int)→(List Int)→Int→Option (Flow ((List Int) × Bool) ((List Int) × (List Int) × Int))
 | 0,_,_,_=>none
 | n+1,x4,x5,i3 =>
  bif decide (i3<(x1.length:Int)) then
   (qeV n x5 0).bind fun r2 =>
   bif decide (r2<0) then some (.ret ([],false)) else
   (idx x5 r2).bind fun _ =>
   (appS x4 ([r2]:List Int)).bind fun x6 =>
   (qbA n a_0 r2).bind fun r3 =>
   (qaP r3 n (setS x5 r2 (-1)) 0).bind fun o=>match o with
   | (x7,_) =>
    qan a_0 x1 n x6 x7 (W64 (i3+1))
  else
   some (.nxt (x4,x5,i3))
def qaT (a_0:(Option Tview)) (y1:Tview):Nat→(List Int)→Int→Option ((List Int) × Int)
 | 0,_,_=>none
 | n+1,x2,i1 =>
  bif decide (i1<(y1.places.length:Int)) then
   (qbA n a_0 i1).bind fun r1 =>
   (qaS r1 n x2 0).bind fun o=>match o with
   | (x3,_) =>
    qaT a_0 y1 n x3 (W64 (i1+1))
  else
   some (x2,i1)
def qcN (n:Nat) (a_0:(Option Tview)):Option ((List Int) × Bool) :=
 (a_0).bind fun y1 =>
 (mkS (y1.places.length:Int) (0:Int)).bind fun x1 =>
 (qaT a_0 y1 n x1 0).bind fun o=>match o with
 | (x2,_) =>
  (qan a_0 x1 n ([]:List Int) x2 0).bind fun o=>match o with
  | .ret r=>some r
  | .nxt (x4,_,_) =>
   some (x4,true)
theorem qfJ {a_0:(Option Tview)} (ha1:GoT.R w (old w) a_0 cs1) {r:((List Int) × Bool)} (hF:qcN n a_0=some r):RetV Tryz.prog 56 [GoT.v (Option Tview) cs1] w r:=by
 obtain ⟨p1,rfl,s1⟩:=qg3 ha1
 refine zV 74 Tryz.func56 rfl fun h=>X0 8 rfl ?_
 obtain ⟨y1,hy1,hF⟩:=qe hF
 obtain ⟨b1,o_1,cs2,rfl,-,hr1,hc1⟩:=PtR.get s1 hy1
 obtain ⟨p2,k1,p3,k2,p4,k3,p5,k4,p6,k5,p7,k6,p8,k7,p9,k8,p10,k9,p11,k10,rfl,s2,s3,s4,s5,s6,s7,s8,s9,s10,s11⟩:=qg6 hr1
 refine zp2 rfl (zc 5 (hc1.below h.below) rfl (zp1 rfl ?_))
 obtain ⟨x1,hx1,hF⟩:=qe hF
 obtain ⟨g1,g2,hx1⟩:=qeu hx1
 refine qfl qa Int h rfl rfl rfl rfl rfl rfl rfl rfl rfl g1 g2 hx1 rfl fun w1 S1 p12 h=>X0 8 rfl (zc 5 (hc1.below h.below) rfl (X0 3 rfl ?_))
 obtain ⟨o1,hF,hK1⟩:=qe hF
 refine qt (rL (fun m e w'=>∃ (x2:(List Int)) (i1:Int),qaT a_0 y1 m x2 i1=some o1∧e=[(0,.pointer (some ⟨b1,o_1,none⟩)),(4,.slice p12 x1.length x1.length),(22,.int .i64 (y1.places.length:Int)),(23,.int .i64 i1)]∧SH w w' [Ch.own S1 (x2:List Int) [.slice p12 x1.length x1.length]]) n ⟨_,_,hF,rfl,h⟩ rfl ?_)
 rintro m1 e1 w2 ⟨x2,i1,hF,rfl,h⟩
 rcases m1 with _|m1
 ·cases hF
 refine X0 5 rfl (qq rfl hF ?_ ?_)<;>intro hF
 ·refine X0 12 rfl (zcL h hF (qd0 (h.old s1)) rfl fun r1 w3 S2 p13 k11 h hF=>X0 3 rfl ?_)
  obtain ⟨o2,hF,hK2⟩:=qe hF
  refine qt (rL (fun m e w'=>∃ (x3:(List Int)) (i2:Int),qaS r1 m x3 i2=some o2∧e=[(0,.pointer (some ⟨b1,o_1,none⟩)),(4,.slice p12 x1.length x1.length),(22,.int .i64 (y1.places.length:Int)),(23,.int .i64 i1),(28,.slice p13 r1.length k11),(29,.int .i64 (r1.length:Int)),(30,.int .i64 i2)]∧SH w w' [Ch.own S2 (r1:List Int) [.slice p13 r1.length k11],Ch.own S1 (x3:List Int) [.slice p12 x1.length x1.length]]) m1 ⟨_,_,hF,rfl,h⟩ rfl ?_)
  rintro m2 e2 w4 ⟨x3,i2,hF,rfl,h⟩
  rcases m2 with _|m2
  ·cases hF
  refine X0 5 rfl (qq rfl hF ?_ ?_)<;>intro hF
  ·refine zKSBSR ?_
   obtain ⟨y2,hy2,hF,he1,b2,_,q1,cs3,hp1,hq1,rfl,hc4⟩:=(h.sl 0 rfl).1.ix hF
   refine zx hp1 hq1 ⟨he1.1,qF he1.2.1 (h.sl 0 rfl).2⟩ rfl (zc 0 hc4 rfl (X0 5 rfl ?_))
   obtain ⟨y3,hy3,hF,he2,b3,_,q2,cs4,hp2,hq2,rfl,hc5⟩:=(h.sl 1 rfl).1.ix hF
   refine zx hp2 hq2 ⟨he2.1,qF he2.2.1 (h.sl 1 rfl).2⟩ rfl (zc 0 hc5 rfl (zp1 rfl ?_))
   obtain ⟨y4,hy4,hF,he3,b4,_,q3,cs5,hp3,hq3,rfl,hc6⟩:=(h.sl 1 rfl).1.ix hF
   exact zx hp3 hq3 ⟨he3.1,qF he3.2.1 (h.sl 1 rfl).2⟩ rfl (qbn qa 1 0 (W64 (y3+1)) h rfl hy4 hp3 hq3 rfl hc6 rfl rfl rfl rfl rfl rfl rfl fun w5 h=>X0 6 rfl (rK ⟨_,_,hF,rfl,h⟩ rfl))
  refine qz rfl ?_
  obtain rfl:=qd hF;replace hF:=hK2
  refine X0 5 rfl ?_
  replace h:=h.pick [1] rfl
  exact rK ⟨_,_,hF,rfl,h⟩ rfl
 refine qz rfl ?_
 obtain rfl:=qd hF;replace hF:=hK1
 refine X0 11 rfl ?_
 replace h:=h.nil (α:=Int)
 obtain ⟨o3,hF,hK3⟩:=qe hF
 refine qt (rL (fun m e w'=>∃ (S3:Nat→Prop) (p14:Option Addr) (ln1:Nat) (k12:Nat) (x4:(List Int)) (x5:(List Int)) (i3:Int),qan a_0 x1 m x4 x5 i3=some o3∧e=[(0,.pointer (some ⟨b1,o_1,none⟩)),(4,.slice p12 x1.length x1.length),(8,.slice p14 ln1 k12),(43,.int .i64 (x1.length:Int)),(44,.int .i64 i3)]∧SH w w' [Ch.own S3 (x4:List Int) [.slice p14 ln1 k12],Ch.own S1 (x5:List Int) [.slice p12 x1.length x1.length]]) n ⟨_,_,_,_,_,_,_,hF,rfl,h⟩ rfl ?_)
 rintro m3 e3 w6 ⟨S3,p14,ln1,k12,x4,x5,i3,hF,rfl,h⟩
 obtain rfl:=(h.sl 0 rfl).2
 rcases m3 with _|m3
 ·cases hF
 refine X0 5 rfl (qq rfl hF ?_ ?_)<;>intro hF
 ·refine X0 6 rfl (zcI h hF (qi7 (h.own 1 rfl)) rfl fun r2 w7 h hF=>X0 8 rfl (qq rfl hF ?_ ?_))<;>intro hF
  ·refine X0 5 rfl ?_
   obtain rfl:=qd hF;replace hF:=hK3
   obtain rfl:=qd hF
   exact qa0 qa (ρ:=((List Int) × Bool)) [GoT.v (List Int) [.slice none 0 0],GoT.v Bool [.bool false]] h ⟨rfl,rfl,trivial⟩ (PV.done h (qbr h qgV (qbp (qB (S:=fun _=>False) rfl)) (by rfl)))
  refine X0 5 rfl ?_
  obtain ⟨y5,hy5,hF,he4,b5,_,q4,cs6,hp4,hq4,rfl,hc9⟩:=(h.sl 1 rfl).1.ix hF
  refine zx hp4 hq4 ⟨he4.1,qF he4.2.1 (h.sl 1 rfl).2⟩ rfl (qbn qa 1 0 (-1) h rfl hy5 hp4 hq4 rfl hc9 rfl rfl rfl rfl rfl rfl rfl fun w8 h=>X0 5 rfl (qm qa [.tmp 54] _ ([r2]:List Int) h rfl rfl rfl rfl rfl rfl rfl rfl rfl ⟨rfl,trivial⟩ rfl fun w9 p15 S4 h=>?_))
  obtain ⟨x6,hx2,hF⟩:=qe hF
  obtain ⟨g3,hx2⟩:=qy hx2
  refine qaf qa 1 h rfl (h.sl 0 rfl).1 (h.sl 0 rfl).2 rfl rfl rfl rfl rfl rfl rfl rfl rfl g3 hx2 rfl fun w10 p16 k13 S5 h=>X0 6 rfl (zcL h hF (qd0 (h.old s1)) rfl fun r3 w11 S6 p17 k14 h hF=>X0 3 rfl ?_)
  obtain ⟨o4,hF,hK4⟩:=qe hF
  refine qt ?_
  replace h:=h.pick [0,2,3] rfl
  refine rL (fun m e w'=>∃ (x7:(List Int)) (i4:Int),qaP r3 m x7 i4=some o4∧e=[(0,.pointer (some ⟨b1,o_1,none⟩)),(4,.slice p12 x1.length x1.length),(8,.slice p16 x6.length k13),(43,.int .i64 (x1.length:Int)),(44,.int .i64 i3),(59,.slice p17 r3.length k14),(60,.int .i64 (r3.length:Int)),(61,.int .i64 i4)]∧SH w w' [Ch.own S6 (r3:List Int) [.slice p17 r3.length k14],Ch.own S5 (x6:List Int) [.slice p16 x6.length k13],Ch.own S1 (x7:List Int) [.slice p12 x1.length x1.length]]) m3 ⟨_,_,hF,rfl,h⟩ rfl ?_
  rintro m4 e4 w12 ⟨x7,i4,hF,rfl,h⟩
  rcases m4 with _|m4
  ·cases hF
  refine X0 5 rfl (qq rfl hF ?_ ?_)<;>intro hF
  ·refine zKSBSR ?_
   obtain ⟨y6,hy6,hF,he5,b6,_,q5,cs7,hp5,hq5,rfl,hc11⟩:=(h.sl 0 rfl).1.ix hF
   refine zx hp5 hq5 ⟨he5.1,qF he5.2.1 (h.sl 0 rfl).2⟩ rfl (zc 0 hc11 rfl (X0 5 rfl ?_))
   obtain ⟨y7,hy7,hF,he6,b7,_,q6,cs8,hp6,hq6,rfl,hc12⟩:=(h.sl 2 rfl).1.ix hF
   refine zx hp6 hq6 ⟨he6.1,qF he6.2.1 (h.sl 2 rfl).2⟩ rfl (zc 0 hc12 rfl (zp1 rfl ?_))
   obtain ⟨y8,hy8,hF,he7,b8,_,q7,cs9,hp7,hq7,rfl,hc13⟩:=(h.sl 2 rfl).1.ix hF
   exact zx hp7 hq7 ⟨he7.1,qF he7.2.1 (h.sl 2 rfl).2⟩ rfl (qbn qa 2 0 (W64 (y7-1)) h rfl hy8 hp7 hq7 rfl hc13 rfl rfl rfl rfl rfl rfl rfl fun w13 h=>X0 6 rfl (rK ⟨_,_,hF,rfl,h⟩ rfl))
  refine qz rfl ?_
  obtain rfl:=qd hF;replace hF:=hK4
  refine X0 5 rfl ?_
  replace h:=h.pick [1,2] rfl
  exact rK ⟨_,_,_,_,_,_,_,hF,rfl,h⟩ rfl
 refine qz rfl ?_
 obtain rfl:=qd hF;replace hF:=hK3
 refine X0 6 rfl ?_
 obtain rfl:=qd hF
 exact qa0 qa (ρ:=((List Int) × Bool)) [GoT.v (List Int) [.slice p14 x4.length k12],GoT.v Bool [.bool true]] h ⟨rfl,rfl,trivial⟩ (PV.done h (qbr h (qE 0 h rfl) (qbp (qB (S:=fun _=>False) rfl)) (by rfl)))
def qde (n:Nat) (b:qb):Option Bool :=
 (qfM n b).bind fun r1 =>
 bif (!r1) then some false else
 (qfK n b).bind fun r2 =>
 (qcN n r2).bind fun o=>match o with
  | (_,r5) =>
   some r5
theorem qic {b:qb} (ha1:GoT.R w (old w) b cs1) {r:Bool} (hF:qde n b=some r):RetV Tryz.prog 25 [GoT.v qb cs1] w r:=by
 obtain ⟨p1,k1,p2,k2,p3,k3,p4,k4,p5,k5,rfl,s1,s2,s3,s4,s5⟩:=qI ha1
 refine zV 15 Tryz.func25 rfl fun h=>zSR (qV h rfl rfl fun w1 bb1 h=>X1 6 0 h rfl (zcB h hF (qh9 (h.old ha1)) rfl fun r1 w2 h hF=>X0 2 rfl (qq rfl hF ?_ ?_)))<;>intro hF
 ·exact X0 4 rfl (rb h hF rfl)
 refine X1 4 0 h rfl ?_
 have hg1:Rg (old w) w (old w) w:=.start (fun _ h=>h)
 obtain ⟨r2,hr2,hF⟩:=qe hF
 refine qnt r2 hg1 h (cB 35 rfl) (qh6 (hg1.regOld h) (hg1.inR h ha1) hr2) rfl rfl rfl rfl fun w3 us1 B1 hg2 hu1 hz1 hv1=>?_
 have hL1:=h.ext hu1.below
 have hb1:=h.below.trans (hu1.below.mono h.below.size)
 replace h:=hz1
 obtain ⟨cs2,rfl,hr3⟩:=qg0 hv1
 obtain ⟨p6,rfl,s6⟩:=qg3 hr3
 obtain ⟨r3,hr4,hF⟩:=qe hF
 obtain ⟨r4,r5⟩:=r3
 refine qel (r4,r5) h (cB 56 rfl) (qfJ (h.old (GoT.mono s6 hg2.old)) hr4) rfl rfl rfl rfl fun w4 S1 us2 hv2 hr5=>?_
 obtain ⟨S2,S3,p7,k6,us3,rfl,hv3,hr6⟩:=hv2.consL hr5
 obtain ⟨rfl,h⟩:=hv3.lastB hr6
 refine X0 11 rfl ?_
 replace h:=h.unbase hg2.below ⟨fun _ h=>h,trivial⟩
 exact rb h hF rfl
def qgy (b:qb) (list:(List qc)):Nat→Int→Option (Flow Int Int)
 | 0,_=>none
 | n+1,i1 =>
  bif decide (i1<(list.length:Int)) then
   (idx list i1).bind fun y1 =>
   (qhB n b y1).bind fun r2 =>
   bif (!r2) then some (.ret 5) else
   qgy b list n (W64 (i1+1))
  else
   some (.nxt i1)
def qhU (n:Nat) (b:qb) (list:(List qc)):Option Int :=
 (qdG n b).bind fun r1 =>
 bif (!r1) then some 1 else
 bif decide ((list.length:Int) > 6) then some 3 else
 (qgy b list n 0).bind fun o=>match o with
 | .ret r=>some r
 | .nxt _ =>
  some 0
theorem qkh {b:qb} {list:(List qc)} (ha1:GoT.R w (old w) b cs1) (ha2:GoT.R w (old w) list cs2) {r:Int} (hF:qhU n b list=some r):RetV Tryz.prog 47 [GoT.v qb cs1,GoT.v (List qc) cs2] w r:=by
 obtain ⟨p1,k1,p2,k2,p3,k3,p4,k4,p5,k5,rfl,s1,s2,s3,s4,s5⟩:=qI ha1
 obtain ⟨p6,k6,rfl,s6⟩:=ha2
 refine zV 25 Tryz.func47 rfl fun h=>zSR (qV h rfl rfl fun w1 bb1 h=>X1 6 0 h rfl (zcB h hF (qeq (h.old ha1)) rfl fun r1 w2 h hF=>X0 2 rfl (qq rfl hF ?_ ?_)))<;>intro hF
 ·exact X0 4 rfl (ri h hF rfl)
 refine X0 8 rfl (qq rfl hF ?_ ?_)<;>intro hF
 ·exact X0 4 rfl (ri h hF rfl)
 refine X0 6 rfl ?_
 obtain ⟨o1,hF,hK1⟩:=qe hF
 refine qt (rL (fun m e w'=>∃ (i1:Int),qgy b list m i1=some o1∧e=[(1,.slice p6 list.length k6),(2,.pointer (some ⟨bb1,0,none⟩)),(5,.int .i64 i1)]∧SH w w' [Ch.box bb1 (ql b p1 p2 p3 p4 p5 k1 k2 k3 k4 k5) 34]) n ⟨_,hF,rfl,h⟩ rfl ?_)
 rintro m1 e1 w3 ⟨i1,hF,rfl,h⟩
 rcases m1 with _|m1
 ·cases hF
 refine X0 8 rfl (qq rfl hF ?_ ?_)<;>intro hF
 ·refine X0 4 rfl (rD (Y1 1 0 h rfl ?_))
  refine zd2 rfl ?_
  obtain ⟨y1,hy1,hF,he1,b1,_,q1,cs3,hp1,hq1,hr2,hc4⟩:=s6.ix hF
  obtain ⟨p7,k7,p8,k8,p9,k9,rfl,s7,s8,s9⟩:=qcI hr2
  refine zdxe hp1 hq1 he1 rfl (zdc 0 (hc4.below h.below) rfl ?_)
  obtain ⟨r2,hr3,hF⟩:=qe hF
  refine qdl r2 (vsB _) (cB 98 rfl) (fun _ hb=>qi0 ((h.ext hb).old ha1) (qkV y1 ((h.ext hb).oldS s7) ((h.ext hb).oldS s8) ((h.ext hb).oldS s9)) hr3) rfl rfl rfl rfl (zd1 rfl (dN h fun w4 h=>qq rfl hF ?_ ?_))<;>intro hF
  ·refine X0 4 rfl ?_
   obtain rfl:=qd hF;replace hF:=hK1
   exact ri h hF rfl
  exact X0 7 rfl (rK ⟨_,hF,rfl,h⟩ rfl)
 refine qz rfl ?_
 obtain rfl:=qd hF;replace hF:=hK1
 exact X0 4 rfl (ri h hF rfl)
def qfG (n:Nat) (b:qb) (list:(List qc)) (place:Int):Option Int :=
 (qhU n b list).bind fun r1 =>
 bif (r1==0) then
  (qal n b).bind fun r2 =>
  (qae n place 0 (W64 (r2-1))).bind fun r3 =>
  bif (!r3) then some 2 else
  some r1
 else
  some r1
theorem qkk {b:qb} {list:(List qc)} {place:Int} (ha1:GoT.R w (old w) b cs1) (ha2:GoT.R w (old w) list cs2) {r:Int} (hF:qfG n b list place=some r):RetV Tryz.prog 57 [GoT.v qb cs1,GoT.v (List qc) cs2,.int .i64 place] w r:=by
 obtain ⟨p1,k1,p2,k2,p3,k3,p4,k4,p5,k5,rfl,s1,s2,s3,s4,s5⟩:=qI ha1
 obtain ⟨p6,k6,rfl,s6⟩:=ha2
 refine zV 22 Tryz.func57 rfl fun h=>zSR (qV h rfl rfl fun w1 bb1 h=>X1 6 0 h rfl (zcI h hF (qkh (h.old ha1) ⟨_,_,rfl,(h.oldS s6)⟩) rfl fun r1 w2 h hF=>X0 8 rfl (qj (t:=13) hF rfl ?_ ?_)))<;>intro hF
 ·refine X1 5 0 h rfl (zcI h hF (qao (h.old ha1)) rfl fun r2 w3 h hF=>X0 3 rfl (zcB h hF qS rfl fun r3 w4 h hF=>X0 4 rfl (qq rfl hF ?_ ?_)))<;>intro hF
  ·exact X0 4 rfl (ri h hF rfl)
  exact X0 6 rfl (ri h hF rfl)
 exact X0 8 rfl (qdh rfl rfl (X0 6 rfl (ri h hF rfl)))
def qch (r2:(List Int)):Nat→(List Int)→Int→Option ((List Int) × Int)
 | 0,_,_=>none
 | n+1,x3,i2 =>
  bif decide (i2<(r2.length:Int)) then
   (idx r2 i2).bind fun y1 =>
   (idx x3 y1).bind fun y2 =>
   (idx x3 y1).bind fun _ =>
   qch r2 n (setS x3 y1 (W64 (y2+1))) (W64 (i2+1))
  else
   some (x3,i2)
def qbi (r3:(List Int)):Nat→(List Int)→(List Int)→Int→Option ((List Int) × (List Int) × Int)
 | 0,_,_,_=>none
 | n+1,x8,x9,i5 =>
  bif decide (i5<(r3.length:Int)) then
   (idx r3 i5).bind fun y6 =>
   (idx x9 y6).bind fun y7 =>
   (idx x9 y6).bind fun _ =>
   (idx (setS x9 y6 (W64 (y7-1))) y6).bind fun y9 =>
   bif (y9==0) then
    (appS x8 ([y6]:List Int)).bind fun x10 =>
    qbi r3 n x10 (setS x9 y6 (W64 (y7-1))) (W64 (i5+1))
   else
    qbi r3 n x8 (setS x9 y6 (W64 (y7-1))) (W64 (i5+1))
  else
   some (x8,x9,i5)
def qcj (a_0:qb):Nat→(List Int)→(List Int)→Int→Option ((List Int) × (List Int) × Int)
 | 0,_,_,_=>none
 | n+1,x6,x7,i4 =>
  bif decide (i4<(x6.length:Int)) then
   (idx x6 i4).bind fun y5 =>
   (qcW n a_0 y5).bind fun r3 =>
   (qbi r3 n x6 x7 0).bind fun o=>match o with
   | (x8,x9,_) =>
    qcj a_0 n x8 x9 (W64 (i4+1))
  else
   some (x6,x7,i4)
def qbD (r1:Int) (x2:(List Int)):Nat→(List Int)→Int→Option ((List Int) × Int)
 | 0,_,_=>none
 | n+1,x4,i3 =>
  bif decide (i3<r1) then
   (idx x2 i3).bind fun y4 =>
   bif (y4==0) then
    (appS x4 ([i3]:List Int)).bind fun x5 =>
    qbD r1 x2 n x5 (W64 (i3+1))
   else
    qbD r1 x2 n x4 (W64 (i3+1))
  else
   some (x4,i3)
def qcc (a_0:qb) (r1:Int):Nat→(List Int)→Int→Option ((List Int) × Int)
 | 0,_,_=>none
 | n+1,x2,i1 =>
  bif decide (i1<r1) then
   (qcW n a_0 i1).bind fun r2 =>
   (qch r2 n x2 0).bind fun o=>match o with
   | (x3,_) =>
    qcc a_0 r1 n x3 (W64 (i1+1))
  else
   some (x2,i1)
def qge (n:Nat) (a_0:qb):Option ((List Int) × Bool) :=
 (qal n a_0).bind fun r1 =>
 (mkS r1 (0:Int)).bind fun x1 =>
 (qcc a_0 r1 n x1 0).bind fun o=>match o with
 | (x2,_) =>
  (qbD r1 x2 n ([]:List Int) 0).bind fun o=>match o with
  | (x4,_) =>
   (qcj a_0 n x4 x2 0).bind fun o=>match o with
   | (x6,_,_) =>
    some (x6,((x6.length:Int)==r1))
theorem qj0 {a_0:qb} (ha1:GoT.R w (old w) a_0 cs1) {r:((List Int) × Bool)} (hF:qge n a_0=some r):RetV Tryz.prog 58 [GoT.v qb cs1] w r:=by
 obtain ⟨p1,k1,p2,k2,p3,k3,p4,k4,p5,k5,rfl,s1,s2,s3,s4,s5⟩:=qI ha1
 refine zV 101 Tryz.func58 rfl fun h=>zSR (qV h rfl rfl fun w1 bb1 h=>X1 6 0 h rfl (zcI h hF (qao (h.old ha1)) rfl fun r1 w2 h hF=>X0 5 rfl ?_))
 obtain ⟨x1,hx1,hF⟩:=qe hF
 obtain ⟨g1,g2,hx1⟩:=qeu hx1
 refine qfl qa Int h rfl rfl rfl rfl rfl rfl rfl rfl rfl g1 g2 hx1 rfl fun w3 S1 p6 h=>X0 7 rfl ?_
 obtain ⟨o1,hF,hK1⟩:=qe hF
 refine qt (rL (fun m e w'=>∃ (x2:(List Int)) (i1:Int),qcc a_0 r1 m x2 i1=some o1∧e=[(1,.pointer (some ⟨bb1,0,none⟩)),(4,.int .i64 r1),(5,.slice p6 x1.length x1.length),(6,.int .i64 i1)]∧SH w w' [Ch.own S1 (x2:List Int) [.slice p6 x1.length x1.length],Ch.box bb1 (ql a_0 p1 p2 p3 p4 p5 k1 k2 k3 k4 k5) 34]) n ⟨_,_,hF,rfl,h⟩ rfl ?_)
 rintro m1 e1 w4 ⟨x2,i1,hF,rfl,h⟩
 rcases m1 with _|m1
 ·cases hF
 refine X0 7 rfl (qq rfl hF ?_ ?_)<;>intro hF
 ·refine X1 7 1 h rfl (zcL h hF (qd1 (h.old ha1)) rfl fun r2 w5 S2 p7 k6 h hF=>X0 6 rfl ?_)
  obtain ⟨o2,hF,hK2⟩:=qe hF
  refine qt (rL (fun m e w'=>∃ (x3:(List Int)) (i2:Int),qch r2 m x3 i2=some o2∧e=[(1,.pointer (some ⟨bb1,0,none⟩)),(4,.int .i64 r1),(5,.slice p6 x1.length x1.length),(6,.int .i64 i1),(7,.slice p7 r2.length k6),(8,.int .i64 i2)]∧SH w w' [Ch.own S2 (r2:List Int) [.slice p7 r2.length k6],Ch.own S1 (x3:List Int) [.slice p6 x1.length x1.length],Ch.box bb1 (ql a_0 p1 p2 p3 p4 p5 k1 k2 k3 k4 k5) 34]) m1 ⟨_,_,hF,rfl,h⟩ rfl ?_)
  rintro m2 e2 w6 ⟨x3,i2,hF,rfl,h⟩
  rcases m2 with _|m2
  ·cases hF
  refine X0 8 rfl (qq rfl hF ?_ ?_)<;>intro hF
  ·refine X0 7 rfl ?_
   obtain ⟨y1,hy1,hF,he1,b1,_,q1,cs2,hp1,hq1,rfl,hc3⟩:=(h.sl 0 rfl).1.ix hF
   refine zx hp1 hq1 ⟨he1.1,qF he1.2.1 (h.sl 0 rfl).2⟩ rfl (zc 0 hc3 rfl (X0 5 rfl ?_))
   obtain ⟨y2,hy2,hF,he2,b2,_,q2,cs3,hp2,hq2,rfl,hc4⟩:=(h.sl 1 rfl).1.ix hF
   refine zx hp2 hq2 ⟨he2.1,qF he2.2.1 (h.sl 1 rfl).2⟩ rfl (zc 0 hc4 rfl (zp1 rfl ?_))
   obtain ⟨y3,hy3,hF,he3,b3,_,q3,cs4,hp3,hq3,rfl,hc5⟩:=(h.sl 1 rfl).1.ix hF
   exact zx hp3 hq3 ⟨he3.1,qF he3.2.1 (h.sl 1 rfl).2⟩ rfl (qbn qa 1 0 (W64 (y2+1)) h rfl hy3 hp3 hq3 rfl hc5 rfl rfl rfl rfl rfl rfl rfl fun w7 h=>X0 7 rfl (rK ⟨_,_,hF,rfl,h⟩ rfl))
  refine qz rfl ?_
  obtain rfl:=qd hF;replace hF:=hK2
  refine X0 6 rfl ?_
  replace h:=h.pick [1,2] rfl
  exact rK ⟨_,_,hF,rfl,h⟩ rfl
 refine qz rfl ?_
 obtain rfl:=qd hF;replace hF:=hK1
 refine zSR (qm qa [] _ ([]:List Int) h rfl rfl rfl rfl rfl rfl rfl rfl rfl trivial rfl fun w8 p8 S3 h=>X0 7 rfl ?_)
 obtain ⟨o3,hF,hK3⟩:=qe hF
 refine qt (rL (fun m e w'=>∃ (S4:Nat→Prop) (p9:Option Addr) (ln1:Nat) (k7:Nat) (x4:(List Int)) (i3:Int),qbD r1 x2 m x4 i3=some o3∧e=[(1,.pointer (some ⟨bb1,0,none⟩)),(4,.int .i64 r1),(5,.slice p6 x1.length x1.length),(10,.slice p9 ln1 k7),(11,.int .i64 i3)]∧SH w w' [Ch.own S4 (x4:List Int) [.slice p9 ln1 k7],Ch.own S1 (x2:List Int) [.slice p6 x1.length x1.length],Ch.box bb1 (ql a_0 p1 p2 p3 p4 p5 k1 k2 k3 k4 k5) 34]) n ⟨_,_,_,_,_,_,hF,rfl,h⟩ rfl ?_)
 rintro m3 e3 w9 ⟨S4,p9,ln1,k7,x4,i3,hF,rfl,h⟩
 obtain rfl:=(h.sl 0 rfl).2
 rcases m3 with _|m3
 ·cases hF
 refine X0 7 rfl (qq rfl hF ?_ ?_)<;>intro hF
 ·refine X0 7 rfl ?_
  obtain ⟨y4,hy4,hF,he4,b4,_,q4,cs5,hp4,hq4,rfl,hc7⟩:=(h.sl 1 rfl).1.ix hF
  refine zx hp4 hq4 ⟨he4.1,qF he4.2.1 (h.sl 1 rfl).2⟩ rfl (zc 0 hc7 rfl (X0 2 rfl (qq rfl hF ?_ ?_)))<;>intro hF
  ·refine X0 3 rfl (qm qa [.tmp 56] _ ([i3]:List Int) h rfl rfl rfl rfl rfl rfl rfl rfl rfl ⟨rfl,trivial⟩ rfl fun w10 p10 S5 h=>?_)
   obtain ⟨x5,hx2,hF⟩:=qe hF
   obtain ⟨g3,hx2⟩:=qy hx2
   refine qaf qa 1 h rfl (h.sl 0 rfl).1 (h.sl 0 rfl).2 rfl rfl rfl rfl rfl rfl rfl rfl rfl g3 hx2 rfl fun w11 p11 k8 S6 h=>X0 8 rfl ?_
   replace h:=h.pick [1,2,3] rfl
   exact rK ⟨_,_,_,_,_,_,hF,rfl,h⟩ rfl
  exact X0 7 rfl (rK ⟨_,_,_,_,_,_,hF,rfl,h⟩ rfl)
 refine qz rfl ?_
 obtain rfl:=qd hF;replace hF:=hK3
 refine X0 5 rfl ?_
 obtain ⟨o4,hF,hK4⟩:=qe hF
 refine qt (rL (fun m e w'=>∃ (S7:Nat→Prop) (p12:Option Addr) (ln2:Nat) (k9:Nat) (x6:(List Int)) (x7:(List Int)) (i4:Int),qcj a_0 m x6 x7 i4=some o4∧e=[(1,.pointer (some ⟨bb1,0,none⟩)),(4,.int .i64 r1),(5,.slice p6 x1.length x1.length),(10,.slice p12 ln2 k9),(12,.int .i64 i4)]∧SH w w' [Ch.own S7 (x6:List Int) [.slice p12 ln2 k9],Ch.own S1 (x7:List Int) [.slice p6 x1.length x1.length],Ch.box bb1 (ql a_0 p1 p2 p3 p4 p5 k1 k2 k3 k4 k5) 34]) n ⟨_,_,_,_,_,_,_,hF,rfl,h⟩ rfl ?_)
 rintro m4 e4 w12 ⟨S7,p12,ln2,k9,x6,x7,i4,hF,rfl,h⟩
 obtain rfl:=(h.sl 0 rfl).2
 rcases m4 with _|m4
 ·cases hF
 refine X0 8 rfl (qq rfl hF ?_ ?_)<;>intro hF
 ·refine X0 4 rfl (rA [] [0,2] h rfl fun w13 h=>M1 7 [0,1,2] 1 (h.pick [0,2] rfl) rfl ?_)
  obtain ⟨y5,hy5,hF,he5,b5,_,q5,cs6,hp5,hq5,rfl,hc10⟩:=(h.sl 0 rfl).1.ix hF
  refine Ax 3 15 hp5 hq5 ⟨he5.1,qF he5.2.1 (h.sl 0 rfl).2⟩ (h.pick [0,2] rfl) rfl (Aw 4 31 (fun w' hw=>qet qa (qbe (w1:=w) (S1:=fun _=>False) hw 0 rfl hy5 hp5 hq5 rfl) (j:=0) rfl rfl rfl) (h.pick [0,2] rfl) rfl ?_)
  refine Ao 5 63 rfl (zcL h hF (qd1 (h.old ha1)) rfl fun r3 w14 S8 p13 k10 h hF=>G0 127 [6] (h.pick [1,3] rfl) rfl (Ad (X0 4 rfl ?_)))
  obtain ⟨o5,hF,hK5⟩:=qe hF
  refine qt (rL (fun m e w'=>∃ (S9:Nat→Prop) (p14:Option Addr) (ln3:Nat) (k11:Nat) (x8:(List Int)) (x9:(List Int)) (i5:Int),qbi r3 m x8 x9 i5=some o5∧e=[(1,.pointer (some ⟨bb1,0,none⟩)),(4,.int .i64 r1),(5,.slice p6 x1.length x1.length),(10,.slice p14 ln3 k11),(12,.int .i64 i4),(13,.slice p13 r3.length k10),(14,.int .i64 i5)]∧SH w w' [Ch.own S8 (r3:List Int) [.slice p13 r3.length k10],Ch.own S9 (x8:List Int) [.slice p14 ln3 k11],Ch.own S1 (x9:List Int) [.slice p6 x1.length x1.length],Ch.box bb1 (ql a_0 p1 p2 p3 p4 p5 k1 k2 k3 k4 k5) 34]) m4 ⟨_,_,_,_,_,_,_,hF,rfl,h⟩ rfl ?_)
  rintro m5 e5 w15 ⟨S9,p14,ln3,k11,x8,x9,i5,hF,rfl,h⟩
  obtain rfl:=(h.sl 1 rfl).2
  rcases m5 with _|m5
  ·cases hF
  refine X0 8 rfl (qq rfl hF ?_ ?_)<;>intro hF
  ·refine X0 7 rfl ?_
   obtain ⟨y6,hy6,hF,he6,b6,_,q6,cs7,hp6,hq6,rfl,hc12⟩:=(h.sl 0 rfl).1.ix hF
   refine zx hp6 hq6 ⟨he6.1,qF he6.2.1 (h.sl 0 rfl).2⟩ rfl (zc 0 hc12 rfl (X0 6 rfl ?_))
   obtain ⟨y7,hy7,hF,he7,b7,_,q7,cs8,hp7,hq7,rfl,hc13⟩:=(h.sl 2 rfl).1.ix hF
   refine zx hp7 hq7 ⟨he7.1,qF he7.2.1 (h.sl 2 rfl).2⟩ rfl (zc 0 hc13 rfl (zp1 rfl ?_))
   obtain ⟨y8,hy8,hF,he8,b8,_,q8,cs9,hp8,hq8,rfl,hc14⟩:=(h.sl 2 rfl).1.ix hF
   refine zx hp8 hq8 ⟨he8.1,qF he8.2.1 (h.sl 2 rfl).2⟩ rfl (qbn qa 2 0 (W64 (y7-1)) h rfl hy8 hp8 hq8 rfl hc14 rfl rfl rfl rfl rfl rfl rfl fun w16 h=>X0 5 rfl ?_)
   obtain ⟨y9,hy9,hF,he9,b9,_,q9,cs10,hp9,hq9,rfl,hc15⟩:=(h.sl 2 rfl).1.ix hF
   refine zx hp9 hq9 ⟨he9.1,qF he9.2.1 (h.sl 2 rfl).2⟩ rfl (zc 0 hc15 rfl (X0 2 rfl (qq rfl hF ?_ ?_)))<;>intro hF
   ·refine X0 3 rfl (qm qa [.tmp 93] _ ([y6]:List Int) h rfl rfl rfl rfl rfl rfl rfl rfl rfl ⟨rfl,trivial⟩ rfl fun w17 p15 S10 h=>?_)
    obtain ⟨x10,hx3,hF⟩:=qe hF
    obtain ⟨g4,hx3⟩:=qy hx3
    refine qaf qa 2 h rfl (h.sl 0 rfl).1 (h.sl 0 rfl).2 rfl rfl rfl rfl rfl rfl rfl rfl rfl g4 hx3 rfl fun w18 p16 k12 S11 h=>X0 8 rfl ?_
    replace h:=h.pick [1,2,3,4] rfl
    exact rK ⟨_,_,_,_,_,_,_,hF,rfl,h⟩ rfl
   exact X0 7 rfl (rK ⟨_,_,_,_,_,_,_,hF,rfl,h⟩ rfl)
  refine qz rfl ?_
  obtain rfl:=qd hF;replace hF:=hK5
  refine X0 6 rfl ?_
  replace h:=h.pick [1,2,3] rfl
  exact rK ⟨_,_,_,_,_,_,_,hF,rfl,h⟩ rfl
 refine qz rfl ?_
 obtain rfl:=qd hF;replace hF:=hK4
 refine X0 10 rfl ?_
 obtain rfl:=qd hF
 exact qa0 qa (ρ:=((List Int) × Bool)) [GoT.v (List Int) [.slice p12 x6.length k9],GoT.v Bool [.bool ((x6.length:Int)==r1)]] h ⟨rfl,rfl,trivial⟩ (PV.done h (qbr h (qE 0 h rfl) (qbp (qB (S:=fun _=>False) rfl)) (by rfl)))
def qgv (r3:(List Int)) (i2:Int) (r7:(List Int)):Nat→(List Int)→Int→Option ((List Int) × Int)
 | 0,_,_=>none
 | n+1,x4,i3 =>
  bif decide (i3<(r7.length:Int)) then
   (idx r7 i3).bind fun y4 =>
   (idx x4 y4).bind fun y5 =>
   (idx r3 i2).bind fun y6 =>
   (idx x4 y6).bind fun y7 =>
   (idx x4 y4).bind fun _ =>
   qgv r3 i2 r7 n (setS x4 y4 (if (W64 (y5+y7))<1000000 then (W64 (y5+y7)) else 1000000)) (W64 (i3+1))
  else
   some (x4,i3)
def qgt (a_0:qb) (r3:(List Int)):Nat→(List Int)→Int→Option ((List Int) × Int)
 | 0,_,_=>none
 | n+1,x3,i2 =>
  bif decide (i2<(r3.length:Int)) then
   (idx r3 i2).bind fun y3 =>
   (qcW n a_0 y3).bind fun r7 =>
   (qgv r3 i2 r7 n x3 0).bind fun o=>match o with
   | (x4,_) =>
    qgt a_0 r3 n x4 (W64 (i2+1))
  else
   some (x3,i2)
def qgz (r6:(List Int)):Nat→(List Int)→Int→Option ((List Int) × Int)
 | 0,_,_=>none
 | n+1,x2,i1 =>
  bif decide (i1<(r6.length:Int)) then
   (idx r6 i1).bind fun y1 =>
   (idx x2 y1).bind fun _ =>
   qgz r6 n (setS x2 y1 1) (W64 (i1+1))
  else
   some (x2,i1)
def qdD (n:Nat) (a_0:qb) (a_1:Int):Option (Int × Int) :=
 (qfG n a_0 [] a_1).bind fun r1 =>
 bif (r1 != 0) then some (0,r1) else
 (qge n a_0).bind fun o=>match o with
  | (r3,r4) =>
   bif (!r4) then some (0,7) else
   (qal n a_0).bind fun r5 =>
   (mkS r5 (0:Int)).bind fun x1 =>
   (qea n a_0).bind fun r6 =>
   (qgz r6 n x1 0).bind fun o=>match o with
   | (x2,_) =>
    (qgt a_0 r3 n x2 0).bind fun o=>match o with
    | (x3,_) =>
     (idx x3 a_1).bind fun y9 =>
     some (y9,0)
theorem qkj {a_0:qb} {a_1:Int} (ha1:GoT.R w (old w) a_0 cs1) {r:(Int × Int)} (hF:qdD n a_0 a_1=some r):RetV Tryz.prog 21 [GoT.v qb cs1,.int .i64 a_1] w r:=by
 obtain ⟨p1,k1,p2,k2,p3,k3,p4,k4,p5,k5,rfl,s1,s2,s3,s4,s5⟩:=qI ha1
 refine zV 90 Tryz.func21 rfl fun h=>zSR (qV h rfl rfl fun w1 bb1 h=>X1 7 0 h rfl (zcI h hF (qkk (h.old ha1) ⟨_,_,rfl,qkz⟩) rfl fun r1 w2 h hF=>X0 8 rfl (qq rfl hF ?_ ?_)))<;>intro hF
 ·refine X0 6 rfl ?_
  obtain rfl:=qd hF
  exact qa0 qa (ρ:=(Int × Int)) [GoT.v Int [.int .i64 0],GoT.v Int [.int .i64 r1]] h ⟨rfl,rfl,trivial⟩ (PV.done h (qbr h (qB (S:=fun _=>False) rfl) (qbp (qB (S:=fun _=>False) rfl)) (by rfl)))
 refine X1 4 0 h rfl ?_
 obtain ⟨r2,hr2,hF⟩:=qe hF
 obtain ⟨r3,r4⟩:=r2
 refine qel (r3,r4) h (cB 58 rfl) (qj0 (h.old ha1) hr2) rfl rfl rfl rfl fun w3 S1 us1 hv1 hr3=>?_
 obtain ⟨S2,S3,p6,k6,us2,rfl,hv2,hr4⟩:=hv1.consL hr3
 obtain ⟨rfl,h⟩:=hv2.lastB hr4
 refine X0 12 rfl (qq rfl hF ?_ ?_)<;>intro hF
 ·refine X0 5 rfl ?_
  obtain rfl:=qd hF
  exact qa0 qa (ρ:=(Int × Int)) [GoT.v Int [.int .i64 0],GoT.v Int [.int .i64 7]] h ⟨rfl,rfl,trivial⟩ (PV.done h (qbr h (qB (S:=fun _=>False) rfl) (qbp (qB (S:=fun _=>False) rfl)) (by rfl)))
 refine X1 4 1 h rfl (zcI h hF (qao (h.old ha1)) rfl fun r5 w4 h hF=>?_)
 obtain ⟨x1,hx1,hF⟩:=qe hF
 obtain ⟨g1,g2,hx1⟩:=qeu hx1
 refine qfl qa Int h rfl rfl rfl rfl rfl rfl rfl rfl rfl g1 g2 hx1 rfl fun w5 S5 p7 h=>X1 5 2 h rfl (zcL h hF (qfO (h.old ha1)) rfl fun r6 w6 S6 p8 k7 h hF=>X0 7 rfl ?_)
 obtain ⟨o1,hF,hK1⟩:=qe hF
 refine qt (rL (fun m e w'=>∃ (x2:(List Int)) (i1:Int),qgz r6 m x2 i1=some o1∧e=[(1,.int .i64 a_1),(2,.pointer (some ⟨bb1,0,none⟩)),(7,.slice p6 r3.length k6),(9,.slice p7 x1.length x1.length),(10,.slice p8 r6.length k7),(11,.int .i64 i1)]∧SH w w' [Ch.own S6 (r6:List Int) [.slice p8 r6.length k7],Ch.own S5 (x2:List Int) [.slice p7 x1.length x1.length],Ch.own S2 (r3:List Int) [.slice p6 r3.length k6],Ch.box bb1 (ql a_0 p1 p2 p3 p4 p5 k1 k2 k3 k4 k5) 34]) n ⟨_,_,hF,rfl,h⟩ rfl ?_)
 rintro m1 e1 w7 ⟨x2,i1,hF,rfl,h⟩
 rcases m1 with _|m1
 ·cases hF
 refine X0 8 rfl (qq rfl hF ?_ ?_)<;>intro hF
 ·refine X0 7 rfl ?_
  obtain ⟨y1,hy1,hF,he1,b1,_,q1,cs2,hp1,hq1,rfl,hc4⟩:=(h.sl 0 rfl).1.ix hF
  refine zx hp1 hq1 ⟨he1.1,qF he1.2.1 (h.sl 0 rfl).2⟩ rfl (zc 0 hc4 rfl (X0 5 rfl ?_))
  obtain ⟨y2,hy2,hF,he2,b2,_,q2,cs3,hp2,hq2,rfl,hc5⟩:=(h.sl 1 rfl).1.ix hF
  exact zx hp2 hq2 ⟨he2.1,qF he2.2.1 (h.sl 1 rfl).2⟩ rfl (qbn qa 1 0 1 h rfl hy2 hp2 hq2 rfl hc5 rfl rfl rfl rfl rfl rfl rfl fun w8 h=>X0 7 rfl (rK ⟨_,_,hF,rfl,h⟩ rfl))
 refine qz rfl ?_
 obtain rfl:=qd hF;replace hF:=hK1
 refine X0 5 rfl ?_
 obtain ⟨o2,hF,hK2⟩:=qe hF
 refine qt ?_
 replace h:=h.pick [1,2,3] rfl
 refine rL (fun m e w'=>∃ (x3:(List Int)) (i2:Int),qgt a_0 r3 m x3 i2=some o2∧e=[(1,.int .i64 a_1),(2,.pointer (some ⟨bb1,0,none⟩)),(7,.slice p6 r3.length k6),(9,.slice p7 x1.length x1.length),(13,.int .i64 i2)]∧SH w w' [Ch.own S5 (x3:List Int) [.slice p7 x1.length x1.length],Ch.own S2 (r3:List Int) [.slice p6 r3.length k6],Ch.box bb1 (ql a_0 p1 p2 p3 p4 p5 k1 k2 k3 k4 k5) 34]) n ⟨_,_,hF,rfl,h⟩ rfl ?_
 rintro m2 e2 w9 ⟨x3,i2,hF,rfl,h⟩
 rcases m2 with _|m2
 ·cases hF
 refine X0 8 rfl (qq rfl hF ?_ ?_)<;>intro hF
 ·refine X0 4 rfl (rA [] [1,2] h rfl fun w10 h=>M1 7 [0,1,2] 1 (h.pick [1,2] rfl) rfl ?_)
  obtain ⟨y3,hy3,hF,he3,b3,_,q3,cs4,hp3,hq3,rfl,hc7⟩:=(h.sl 1 rfl).1.ix hF
  refine Ax 3 15 hp3 hq3 ⟨he3.1,qF he3.2.1 (h.sl 1 rfl).2⟩ (h.pick [1,2] rfl) rfl (Aw 4 31 (fun w' hw=>qet qa (qbe (w1:=w) (S1:=fun _=>False) hw 0 rfl hy3 hp3 hq3 rfl) (j:=0) rfl rfl rfl) (h.pick [1,2] rfl) rfl ?_)
  refine Ao 5 63 rfl (zcL h hF (qd1 (h.old ha1)) rfl fun r7 w11 S7 p9 k8 h hF=>G0 127 [6] (h.pick [2,3] rfl) rfl (Ad (X0 4 rfl ?_)))
  obtain ⟨o3,hF,hK3⟩:=qe hF
  refine qt (rL (fun m e w'=>∃ (x4:(List Int)) (i3:Int),qgv r3 i2 r7 m x4 i3=some o3∧e=[(1,.int .i64 a_1),(2,.pointer (some ⟨bb1,0,none⟩)),(7,.slice p6 r3.length k6),(9,.slice p7 x1.length x1.length),(13,.int .i64 i2),(14,.slice p9 r7.length k8),(15,.int .i64 i3)]∧SH w w' [Ch.own S7 (r7:List Int) [.slice p9 r7.length k8],Ch.own S5 (x4:List Int) [.slice p7 x1.length x1.length],Ch.own S2 (r3:List Int) [.slice p6 r3.length k6],Ch.box bb1 (ql a_0 p1 p2 p3 p4 p5 k1 k2 k3 k4 k5) 34]) m2 ⟨_,_,hF,rfl,h⟩ rfl ?_)
  rintro m3 e3 w12 ⟨x4,i3,hF,rfl,h⟩
  rcases m3 with _|m3
  ·cases hF
  refine X0 8 rfl (qq rfl hF ?_ ?_)<;>intro hF
  ·refine X0 7 rfl ?_
   obtain ⟨y4,hy4,hF,he4,b4,_,q4,cs5,hp4,hq4,rfl,hc9⟩:=(h.sl 0 rfl).1.ix hF
   refine zx hp4 hq4 ⟨he4.1,qF he4.2.1 (h.sl 0 rfl).2⟩ rfl (zc 0 hc9 rfl (X0 2 rfl (rA [16] [1,2] h rfl fun w13 h=>M0 15 [0,1,2,3] (h.pick [1,2] rfl) rfl ?_)))
   obtain ⟨y5,hy5,hF,he5,b5,_,q5,cs6,hp5,hq5,rfl,hc10⟩:=(h.sl 1 rfl).1.ix hF
   refine Ax 4 31 hp5 hq5 ⟨he5.1,qF he5.2.1 (h.sl 1 rfl).2⟩ (h.pick [1,2] rfl) rfl (Aw 5 63 (fun w' hw=>qet qa (qbe (w1:=w) (S1:=fun _=>False) hw 0 rfl hy5 hp5 hq5 rfl) (j:=0) rfl rfl rfl) (h.pick [1,2] rfl) rfl ?_)
   refine M0 511 [6,7,8] (h.pick [1,2] rfl) rfl ?_
   obtain ⟨y6,hy6,hF,he6,b6,_,q6,cs7,hp6,hq6,rfl,hc11⟩:=(h.sl 2 rfl).1.ix hF
   refine Ax 9 1023 hp6 hq6 ⟨he6.1,qF he6.2.1 (h.sl 2 rfl).2⟩ (h.pick [1,2] rfl) rfl (Aw 10 2047 (fun w' hw=>qet qa (qbe (w1:=w) (S1:=fun _=>False) hw 1 rfl hy6 hp6 hq6 rfl) (j:=0) rfl rfl rfl) (h.pick [1,2] rfl) rfl ?_)
   obtain ⟨y7,hy7,hF,he7,b7,_,q7,cs8,hp7,hq7,rfl,hc12⟩:=(h.sl 1 rfl).1.ix hF
   refine Ax 11 4095 hp7 hq7 ⟨he7.1,qF he7.2.1 (h.sl 1 rfl).2⟩ (h.pick [1,2] rfl) rfl (Aw 12 8191 (fun w' hw=>qet qa (qbe (w1:=w) (S1:=fun _=>False) hw 0 rfl hy7 hp7 hq7 rfl) (j:=0) rfl rfl rfl) (h.pick [1,2] rfl) rfl ?_)
   refine M0 32767 [13,14] (h.pick [1,2] rfl) rfl ?_
   obtain ⟨y8,hy8,hF,he8,b8,_,q8,cs9,hp8,hq8,rfl,hc13⟩:=(h.sl 1 rfl).1.ix hF
   exact Ax 15 65535 hp8 hq8 ⟨he8.1,qF he8.2.1 (h.sl 1 rfl).2⟩ (h.pick [1,2] rfl) rfl (Ao 16 131071 rfl (qbn qa 1 0 (if (W64 (y5+y7))<1000000 then (W64 (y5+y7)) else 1000000) h rfl hy8 hp8 hq8 rfl hc13 rfl rfl rfl rfl rfl rfl rfl fun w14 h=>qdP (fun hs=>absurd (hs 16 (by decide)) (by decide)) (Ad (X0 6 rfl (rK ⟨_,_,hF,rfl,h⟩ rfl)))))
  refine qz rfl ?_
  obtain rfl:=qd hF;replace hF:=hK3
  refine X0 6 rfl ?_
  replace h:=h.pick [1,2,3] rfl
  exact rK ⟨_,_,hF,rfl,h⟩ rfl
 refine qz rfl ?_
 obtain rfl:=qd hF;replace hF:=hK2
 refine X0 4 rfl ?_
 obtain ⟨y9,hy9,hF,he9,b9,_,q9,cs10,hp9,hq9,rfl,hc14⟩:=(h.sl 0 rfl).1.ix hF
 refine zx hp9 hq9 ⟨he9.1,qF he9.2.1 (h.sl 0 rfl).2⟩ rfl (zc 0 hc14 rfl (X0 3 rfl ?_))
 obtain rfl:=qd hF
 exact qa0 qa (ρ:=(Int × Int)) [GoT.v Int [.int .i64 y9],GoT.v Int [.int .i64 0]] h ⟨rfl,rfl,trivial⟩ (PV.done h (qbr h (qB (S:=fun _=>False) rfl) (qbp (qB (S:=fun _=>False) rfl)) (by rfl)))
def qcJ (y2:Int) (r8:(List Int)):Nat→(List Int)→Int→Option ((List Int) × Int)
 | 0,_,_=>none
 | n+1,x4,i2 =>
  bif decide (i2<(r8.length:Int)) then
   (idx r8 i2).bind fun y4 =>
   (idx x4 y4).bind fun y5 =>
   (idx x4 y2).bind fun y6 =>
   (idx x4 y4).bind fun _ =>
   qcJ y2 r8 n (setS x4 y4 (if 1000000<(W64 (y5+y6)) then 1000000 else (W64 (y5+y6)))) (W64 (i2+1))
  else
   some (x4,i2)
def qcF (r2:(Option Tview)) (r5:(List Int)) (y1:Tview):Nat→(List Int)→Int→Option ((List Int) × Int)
 | 0,_,_=>none
 | n+1,x2,i1 =>
  bif decide (i1<(r5.length:Int)) then
   (idx r5 i1).bind fun y2 =>
   (idx y1.places y2).bind fun y3 =>
   (qdz n r2 y3).bind fun r7 =>
   (
    bif r7 then
     (idx x2 y2).bind fun y8 =>
     (idx x2 y2).bind fun _ =>
     some (setS x2 y2 (if 1000000<(W64 (y8+1)) then 1000000 else (W64 (y8+1))))
    else
     some x2).bind fun x3 =>
   (qbA n r2 y2).bind fun r8 =>
   (qcJ y2 r8 n x3 0).bind fun o=>match o with
   | (x4,_) =>
    qcF r2 r5 y1 n x4 (W64 (i1+1))
  else
   some (x2,i1)
def qbs (n:Nat) (a_0:qb) (a_1:Int):Option (Int × Int) :=
 (qfM n a_0).bind fun r1 =>
 bif (!r1) then some (0,1) else
 (qfK n a_0).bind fun r2 =>
 (qcw n r2 a_1).bind fun r3 =>
 bif (!r3) then some (0,2) else
 (qcN n r2).bind fun o=>match o with
  | (r5,r6) =>
   bif (!r6) then some (0,7) else
   (r2).bind fun y1 =>
   (mkS (y1.places.length:Int) (0:Int)).bind fun x1 =>
   (qcF r2 r5 y1 n x1 0).bind fun o=>match o with
   | (x2,_) =>
    (idx x2 a_1).bind fun y10 =>
    some (y10,0)
theorem qh7 {a_0:qb} {a_1:Int} (ha1:GoT.R w (old w) a_0 cs1) {r:(Int × Int)} (hF:qbs n a_0 a_1=some r):RetV Tryz.prog 20 [GoT.v qb cs1,.int .i64 a_1] w r:=by
 obtain ⟨p1,k1,p2,k2,p3,k3,p4,k4,p5,k5,rfl,s1,s2,s3,s4,s5⟩:=qI ha1
 refine zV 87 Tryz.func20 rfl fun h=>zSR (qV h rfl rfl fun w1 bb1 h=>X1 7 0 h rfl (zcB h hF (qh9 (h.old ha1)) rfl fun r1 w2 h hF=>X0 2 rfl (qq rfl hF ?_ ?_)))<;>intro hF
 ·refine X0 5 rfl ?_
  obtain rfl:=qd hF
  exact qa0 qa (ρ:=(Int × Int)) [GoT.v Int [.int .i64 0],GoT.v Int [.int .i64 1]] h ⟨rfl,rfl,trivial⟩ (PV.done h (qbr h (qB (S:=fun _=>False) rfl) (qbp (qB (S:=fun _=>False) rfl)) (by rfl)))
 refine X1 4 0 h rfl ?_
 have hg1:Rg (old w) w (old w) w:=.start (fun _ h=>h)
 obtain ⟨r2,hr2,hF⟩:=qe hF
 refine qnt r2 hg1 h (cB 35 rfl) (qh6 (hg1.regOld h) (hg1.inR h ha1) hr2) rfl rfl rfl rfl fun w3 us1 B1 hg2 hu1 hz1 hv1=>?_
 have hL1:=h.ext hu1.below
 have hb1:=h.below.trans (hu1.below.mono h.below.size)
 replace h:=hz1
 obtain ⟨cs2,rfl,hr3⟩:=qg0 hv1
 obtain ⟨p6,rfl,s6⟩:=qg3 hr3
 refine X0 7 rfl (zcB h hF (qiA (h.old (GoT.mono s6 hg2.old))) rfl fun r3 w4 h hF=>X0 2 rfl (qq rfl hF ?_ ?_))<;>intro hF
 ·refine X0 5 rfl ?_
  replace h:=h.unbase hg2.below (show NoD [] from trivial)
  obtain rfl:=qd hF
  exact qa0 qa (ρ:=(Int × Int)) [GoT.v Int [.int .i64 0],GoT.v Int [.int .i64 2]] h ⟨rfl,rfl,trivial⟩ (PV.done h (qbr h (qB (S:=fun _=>False) rfl) (qbp (qB (S:=fun _=>False) rfl)) (by rfl)))
 refine X0 4 rfl ?_
 obtain ⟨r4,hr5,hF⟩:=qe hF
 obtain ⟨r5,r6⟩:=r4
 refine qel (r5,r6) h (cB 56 rfl) (qfJ (h.old (GoT.mono s6 hg2.old)) hr5) rfl rfl rfl rfl fun w5 S1 us2 hv2 hr6=>?_
 obtain ⟨S2,S3,p7,k6,us3,rfl,hv3,hr7⟩:=hv2.consL hr6
 obtain ⟨rfl,h⟩:=hv3.lastB hr7
 refine X0 12 rfl (qq rfl hF ?_ ?_)<;>intro hF
 ·refine X0 5 rfl ?_
  replace h:=h.unbase hg2.below ⟨fun _ h=>h,trivial⟩
  obtain rfl:=qd hF
  exact qa0 qa (ρ:=(Int × Int)) [GoT.v Int [.int .i64 0],GoT.v Int [.int .i64 7]] h ⟨rfl,rfl,trivial⟩ (PV.done h (qbr h (qB (S:=fun _=>False) rfl) (qbp (qB (S:=fun _=>False) rfl)) (by rfl)))
 refine X0 4 rfl ?_
 obtain ⟨y1,hy1,hF⟩:=qe hF
 obtain ⟨b1,o_1,cs3,rfl,-,hr9,hc4⟩:=PtR.get s6 hy1
 obtain ⟨p8,k7,p9,k8,p10,k9,p11,k10,p12,k11,p13,k12,p14,k13,p15,k14,p16,k15,p17,k16,rfl,s7,s8,s9,s10,s11,s12,s13,s14,s15,s16⟩:=qg6 hr9
 refine zp2 rfl (zc 5 (hc4.below h.below) rfl (zp1 rfl ?_))
 obtain ⟨x1,hx1,hF⟩:=qe hF
 obtain ⟨g1,g2,hx1⟩:=qeu hx1
 refine qfl qa Int h rfl rfl rfl rfl rfl rfl rfl rfl rfl g1 g2 hx1 rfl fun w6 S5 p18 h=>X0 9 rfl ?_
 obtain ⟨o1,hF,hK1⟩:=qe hF
 refine qt (rL (fun m e w'=>∃ (x2:(List Int)) (i1:Int),qcF r2 r5 y1 m x2 i1=some o1∧e=[(1,.int .i64 a_1),(6,.pointer (some ⟨b1,o_1,none⟩)),(9,.slice p18 x1.length x1.length),(36,.slice p7 r5.length k6),(37,.int .i64 (r5.length:Int)),(38,.int .i64 i1)]∧SH w3 w' [Ch.own S5 (x2:List Int) [.slice p18 x1.length x1.length],Ch.own S2 (r5:List Int) [.slice p7 r5.length k6]]) n ⟨_,_,hF,rfl,h⟩ rfl ?_)
 rintro m1 e1 w7 ⟨x2,i1,hF,rfl,h⟩
 rcases m1 with _|m1
 ·cases hF
 refine X0 5 rfl (qq rfl hF ?_ ?_)<;>intro hF
 ·refine zKSBSR ?_
  obtain ⟨y2,hy2,hF,he1,b2,_,q1,cs4,hp1,hq1,rfl,hc6⟩:=(h.sl 1 rfl).1.ix hF
  refine zx hp1 hq1 ⟨he1.1,qF he1.2.1 (h.sl 1 rfl).2⟩ rfl (zc 0 hc6 rfl (X0 9 rfl (zc 5 (hc4.below h.below) rfl (zp1 rfl ?_))))
  obtain ⟨y3,hy3,hF,he2,b3,_,q2,cs5,hp2,hq2,hr11,hc7⟩:=s12.ix hF
  obtain rfl:=qbw hr11
  refine zxe hp2 hq2 he2 rfl (zc 0 (hc7.below h.below) rfl (zcB h hF (qiy (h.old (GoT.mono s6 hg2.old)) (qfr y3)) rfl fun r7 w8 h hF=>qaY ?_))
  obtain ⟨KF1,hKF1,o3,hF,hK3⟩:=bindE hF
  refine qa4 (fun e w'=>∃ (x3:(List Int)),KF1 x3=some o1∧e=[(1,.int .i64 a_1),(6,.pointer (some ⟨b1,o_1,none⟩)),(9,.slice p18 x1.length x1.length),(11,.int .i64 y2),(36,.slice p7 r5.length k6),(37,.int .i64 (r5.length:Int)),(38,.int .i64 i1)]∧SH w3 w' [Ch.own S5 (x3:List Int) [.slice p18 x1.length x1.length],Ch.own S2 (r5:List Int) [.slice p7 r5.length k6]]) ?_ ?_
  ·refine qq rfl hF ?_ ?_<;>intro hF
   ·refine X0 5 rfl ?_
    obtain ⟨y8,hy8,hF,he7,b8,_,q7,cs10,hp7,hq7,rfl,hc14⟩:=(h.sl 0 rfl).1.ix hF
    refine zx hp7 hq7 ⟨he7.1,qF he7.2.1 (h.sl 0 rfl).2⟩ rfl (zc 0 hc14 rfl (zp2 rfl ?_))
    obtain ⟨y9,hy9,hF,he8,b9,_,q8,cs11,hp8,hq8,rfl,hc15⟩:=(h.sl 0 rfl).1.ix hF
    refine zx hp8 hq8 ⟨he8.1,qF he8.2.1 (h.sl 0 rfl).2⟩ rfl (qbn qa 0 0 (if 1000000<(W64 (y8+1)) then 1000000 else (W64 (y8+1))) h rfl hy9 hp8 hq8 rfl hc15 rfl rfl rfl rfl rfl rfl rfl fun w13 h=>qaY ?_)
    obtain rfl:=qd hF
    exact rG ⟨_,hK3,rfl,h⟩ rfl
   refine qdk ?_
   obtain rfl:=qd hF
   exact rG ⟨_,hK3,rfl,h⟩ rfl
  rintro e3 w14 ⟨x3,hF,rfl,h⟩
  subst hKF1
  refine X0 4 rfl (zcL h hF (qd0 (h.old (GoT.mono s6 hg2.old))) rfl fun r8 w9 S6 p19 k17 h hF=>X0 3 rfl ?_)
  obtain ⟨o2,hF,hK2⟩:=qe hF
  refine qt (rL (fun m e w'=>∃ (x4:(List Int)) (i2:Int),qcJ y2 r8 m x4 i2=some o2∧e=[(1,.int .i64 a_1),(6,.pointer (some ⟨b1,o_1,none⟩)),(9,.slice p18 x1.length x1.length),(11,.int .i64 y2),(36,.slice p7 r5.length k6),(37,.int .i64 (r5.length:Int)),(38,.int .i64 i1),(62,.slice p19 r8.length k17),(63,.int .i64 (r8.length:Int)),(64,.int .i64 i2)]∧SH w3 w' [Ch.own S6 (r8:List Int) [.slice p19 r8.length k17],Ch.own S5 (x4:List Int) [.slice p18 x1.length x1.length],Ch.own S2 (r5:List Int) [.slice p7 r5.length k6]]) m1 ⟨_,_,hF,rfl,h⟩ rfl ?_)
  rintro m2 e2 w10 ⟨x4,i2,hF,rfl,h⟩
  rcases m2 with _|m2
  ·cases hF
  refine X0 5 rfl (qq rfl hF ?_ ?_)<;>intro hF
  ·refine zKSBSR ?_
   obtain ⟨y4,hy4,hF,he3,b4,_,q3,cs6,hp3,hq3,rfl,hc9⟩:=(h.sl 0 rfl).1.ix hF
   refine zx hp3 hq3 ⟨he3.1,qF he3.2.1 (h.sl 0 rfl).2⟩ rfl (zc 0 hc9 rfl (X0 2 rfl (rA [13] [1] h rfl fun w11 h=>M0 15 [0,1,2,3] (h.pick [1] rfl) rfl ?_)))
   obtain ⟨y5,hy5,hF,he4,b5,_,q4,cs7,hp4,hq4,rfl,hc10⟩:=(h.sl 1 rfl).1.ix hF
   refine Ax 4 31 hp4 hq4 ⟨he4.1,qF he4.2.1 (h.sl 1 rfl).2⟩ (h.pick [1] rfl) rfl (Aw 5 63 (fun w' hw=>qet qa (qbe (w1:=w) (S1:=fun _=>False) hw 0 rfl hy5 hp4 hq4 rfl) (j:=0) rfl rfl rfl) (h.pick [1] rfl) rfl ?_)
   refine M0 255 [6,7] (h.pick [1] rfl) rfl ?_
   obtain ⟨y6,hy6,hF,he5,b6,_,q5,cs8,hp5,hq5,rfl,hc11⟩:=(h.sl 1 rfl).1.ix hF
   refine Ax 8 511 hp5 hq5 ⟨he5.1,qF he5.2.1 (h.sl 1 rfl).2⟩ (h.pick [1] rfl) rfl (Aw 9 1023 (fun w' hw=>qet qa (qbe (w1:=w) (S1:=fun _=>False) hw 0 rfl hy6 hp5 hq5 rfl) (j:=0) rfl rfl rfl) (h.pick [1] rfl) rfl ?_)
   refine M0 4095 [10,11] (h.pick [1] rfl) rfl ?_
   obtain ⟨y7,hy7,hF,he6,b7,_,q6,cs9,hp6,hq6,rfl,hc12⟩:=(h.sl 1 rfl).1.ix hF
   exact Ax 12 8191 hp6 hq6 ⟨he6.1,qF he6.2.1 (h.sl 1 rfl).2⟩ (h.pick [1] rfl) rfl (Ao 13 16383 rfl (qbn qa 1 0 (if 1000000<(W64 (y5+y6)) then 1000000 else (W64 (y5+y6))) h rfl hy7 hp6 hq6 rfl hc12 rfl rfl rfl rfl rfl rfl rfl fun w12 h=>qdP (fun hs=>absurd (hs 13 (by decide)) (by decide)) (Ad (X0 5 rfl (rK ⟨_,_,hF,rfl,h⟩ rfl)))))
  refine qz rfl ?_
  obtain rfl:=qd hF;replace hF:=hK2
  refine X0 5 rfl ?_
  replace h:=h.pick [1,2] rfl
  exact rK ⟨_,_,hF,rfl,h⟩ rfl
 refine qz rfl ?_
 obtain rfl:=qd hF;replace hF:=hK1
 refine X0 4 rfl ?_
 obtain ⟨y10,hy10,hF,he9,b10,_,q9,cs12,hp9,hq9,rfl,hc16⟩:=(h.sl 0 rfl).1.ix hF
 refine zx hp9 hq9 ⟨he9.1,qF he9.2.1 (h.sl 0 rfl).2⟩ rfl (zc 0 hc16 rfl (X0 3 rfl ?_))
 replace h:=h.unbase hg2.below ⟨fun _ h=>h,⟨fun _ h=>h,trivial⟩⟩
 obtain rfl:=qd hF
 exact qa0 qa (ρ:=(Int × Int)) [GoT.v Int [.int .i64 y10],GoT.v Int [.int .i64 0]] h ⟨rfl,rfl,trivial⟩ (PV.done h (qbr h (qB (S:=fun _=>False) rfl) (qbp (qB (S:=fun _=>False) rfl)) (by rfl)))
end Go.Fw


namespace Go.Fw
open Go
set_option maxRecDepth 100000
theorem qgE {b:qb} (h:blockB b=true):Ev (fun n=>qal n b) ((places b.Aa).length:Int):=by
 unfold qal
 exact Ev.bind (qeS (qA (qK h))) (Ev.now (by rw [jB]))
theorem qlJ {d:qg} {k:Int} {n:Nat}:qjm (sinksL d k n) n:=by
 intro y hy
 unfold sinksL at hy
 obtain ⟨i,hi,rfl⟩:=List.mem_map.1 hy
 exact ⟨i,List.mem_range.1 (List.mem_filter.1 hi).1,rfl⟩
theorem qfv {b:qb} (h:blockB b=true) {j:Nat} (hj:j<(places b.Aa).length):qjm (succL b j) (places b.Aa).length:=by
 have hd:=qK h
 unfold succL
 cases (gt (places b.Aa) j).drives
 ·cases h0:decide ((gt (places b.Aa) j).instance_<0)
  ·cases dataB (cellAt b (gt (places b.Aa) j).instance_) (gt (places b.Aa) j).pin
   ·intro y hy;cases hy
   ·intro y hy
    rcases qee hj with ⟨i,k,hi,hk,ej,e⟩|⟨i,hi,_,e⟩
    ·obtain ⟨⟨c0,c1⟩,hn,hcb⟩:=qf3 hd hi
     rw [e] at hy
     have ec:cellAt b (place1 b.Aa i k).instance_=gt b.Ac.Ai (gt b.Aa.Ab i).Az.toNat:=by
      unfold cellAt place1;rw [jz]
     rw [ec,show (place1 b.Aa i k).pin=(k:Int) from rfl] at hy
     have hy:y=(j:Int)-(k:Int)+(((gt b.Ac.Ai (gt b.Aa.Ab i).Az.toNat).Am.length:Int)-1):=by simpa using hy
     obtain ⟨hp,_⟩:=qhH (k:=(gt b.Aa.Ab i).Aj.length-1) hi (by omega)
     exact ⟨off b.Aa i+((gt b.Aa.Ab i).Aj.length-1),hp,by omega⟩
    ·rw [e] at h0
     exact absurd h0 (by show ¬ decide ((-1:Int)<0)=false;decide)
  ·intro y hy;cases hy
 ·intro y hy
  exact qlJ y ((List.mem_filter.1 hy).1)
abbrev npl (b:qb):Nat:=(places b.Aa).length
theorem inCsmall {b:qb} (h:blockB b=true) {R:List Nat} {k:Nat}:inC (succL b) (npl b) R k≤78*78:=by
 have hl:npl b≤78:=qU (qA (qK h))
 have:∀ m,((List.range m).map fun u=>if u ∈ R then 0 else (succL b u).count (k:Int)).sum≤m*78:=by
  intro m
  induction m with
  | zero=>simp
  | succ m ih =>
   rw [jP,jW,List.sum_append]
   simp only [jY,List.map_nil,List.sum_cons,List.sum_nil,jN]
   have h1:(succL b m).count (k:Int)≤78:=jJ List.count_le_length (qe3 h)
   split<;>omega
 have:=this (npl b)
 unfold inC
 have h3:npl b*78≤78*78:=jr _ hl
 omega
def cnt0 (b:qb) (j:Nat) (k:Nat):Nat:=((List.range j).map fun u=>(succL b u).count (k:Int)).sum
theorem qnu {b:qb} (h:blockB b=true) {j k:Nat} (hj:j≤npl b):cnt0 b j k≤78*78:=by
 have hl:npl b≤78:=qU (qA (qK h))
 have:∀ m,((List.range m).map fun u=>(succL b u).count (k:Int)).sum≤m*78:=by
  intro m
  induction m with
  | zero=>simp
  | succ m ih =>
   rw [qjo]
   have h1:(succL b m).count (k:Int)≤78:=jJ List.count_le_length (qe3 h)
   omega
 have:=this j
 unfold cnt0
 have h3:j*78≤78*78:=jr _ (by omega)
 omega
theorem ql1 {f:Nat→Int} {m k:Nat} {xs:List Int} {j:Nat} {d v:Int} (hx:xs[j]?=some (k:Int)) (hv:v=f k+d*((xs.take j).count (k:Int):Int)+d) :
  setS (vecI (fun i=>f i+d*((xs.take j).count (i:Int):Int)) m) (k:Int) v=vecI (fun i=>f i+d*((xs.take (j+1)).count (i:Int):Int)) m:=by
 rw [qiI]
 refine qdM (fun i _=>?_)
 rw [qkO hx]
 by_cases h:i=k
 ·subst h
  rw [if_pos rfl,if_pos rfl,hv,Int.natCast_add,Int.mul_add]
  show _=f i+(d*_+d*1)
  omega
 ·rw [if_neg h,if_neg h,jN]
theorem qoo {xs:List Int} {m:Nat} {f:Nat→Int} (hx:qjm xs m) (hl:xs.length≤1000) (hf:∀ k,k<m→0≤f k∧f k≤10000) :
  Ev (fun n=>qch xs n (vecI f m) 0) (vecI (fun k=>f k+1*(xs.count (k:Int):Int)) m,(xs.length:Int)):=by
 have:=loopF (Lf:=qch xs) (S:=fun j=>vecI (fun i=>f i+1*((xs.take j).count (i:Int):Int)) m) (len:=xs.length) (fin:=(vecI (fun k=>f k+1*(xs.count (k:Int):Int)) m,(xs.length:Int)))
  (fun n=>by simp only [qch,qr (jf _),cond_false,jC])
  (fun j hj X hX=>by
   obtain ⟨k,hk,e1,e2⟩:=hx.at hj
   have hc:(xs.take j).count (k:Int)≤xs.length:=jJ List.count_le_length (by rw [List.length_take];omega)
   have h1:=hf k hk
   simp only [qch,qp hj,cond_true,e1,je,qeP hk,wS j]
   rw [qaq (by omega) (by omega),ql1 e2 rfl]
   exact hX)
 simpa using this
theorem qoM {xs:List Int} {m:Nat} {f:Nat→Int} (hx:qjm xs m) (hl:xs.length≤1000) (hf:∀ k,k<m→0≤f k∧f k≤10000) :
  Ev (fun n=>qaS xs n (vecI f m) 0) (vecI (fun k=>f k+1*(xs.count (k:Int):Int)) m,(xs.length:Int)):=by
 have:=loopF (Lf:=qaS xs) (S:=fun j=>vecI (fun i=>f i+1*((xs.take j).count (i:Int):Int)) m) (len:=xs.length) (fin:=(vecI (fun k=>f k+1*(xs.count (k:Int):Int)) m,(xs.length:Int)))
  (fun n=>by simp only [qaS,qr (jf _),cond_false,jC])
  (fun j hj X hX=>by
   obtain ⟨k,hk,e1,e2⟩:=hx.at hj
   have hc:(xs.take j).count (k:Int)≤xs.length:=jJ List.count_le_length (by rw [List.length_take];omega)
   have h1:=hf k hk
   simp only [qaS,qp hj,cond_true,e1,je,qeP hk,wS j]
   rw [qaq (by omega) (by omega),ql1 e2 rfl]
   exact hX)
 simpa using this
theorem qoq {xs:List Int} {m:Nat} {f:Nat→Int} (hx:qjm xs m) (hl:xs.length≤1000) (hf:∀ k,k<m→-1≤f k∧f k≤10000) :
  Ev (fun n=>qaP xs n (vecI f m) 0) (vecI (fun k=>f k+(-1)*(xs.count (k:Int):Int)) m,(xs.length:Int)):=by
 have:=loopF (Lf:=qaP xs) (S:=fun j=>vecI (fun i=>f i+(-1)*((xs.take j).count (i:Int):Int)) m) (len:=xs.length) (fin:=(vecI (fun k=>f k+(-1)*(xs.count (k:Int):Int)) m,(xs.length:Int)))
  (fun n=>by simp only [qaP,qr (jf _),cond_false,jC])
  (fun j hj X hX=>by
   obtain ⟨k,hk,e1,e2⟩:=hx.at hj
   have hc:(xs.take j).count (k:Int)≤xs.length:=jJ List.count_le_length (by rw [List.length_take];omega)
   have h1:=hf k hk
   simp only [qaP,qp hj,cond_true,e1,je,qeP hk,wS j]
   rw [qaq (by omega) (by omega),ql1 e2 (by omega)]
   exact hX)
 simpa using this
theorem qlo {b:qb} {j:Nat}:(fun k=>(cnt0 b j k:Int)+1*((succL b j).count (k:Int):Int))=fun k=>(cnt0 b (j+1) k:Int):=by
 funext k
 unfold cnt0
 rw [qjo]
 omega
theorem qn2 {b:qb} (hok:qcb b) (h:blockB b=true):Ev (fun n=>qcc b (npl b:Int) n (vecI (fun k=>(cnt0 b 0 k:Int)) (npl b)) 0) (vecI (fun k=>(inC (succL b) (npl b) [] k:Int)) (npl b),(npl b:Int)):=by
 have hl:npl b≤78:=qU (qA (qK h))
 refine loopF (Lf:=qcc b (npl b:Int)) (S:=fun j=>vecI (fun k=>(cnt0 b j k:Int)) (npl b)) (len:=npl b) (fun n=>?_) (fun j hj X hX=>?_)
 ·simp only [qcc,qr (jf _),cond_false]
  congr 2
 ·simp only [qcc,qp hj,cond_true,wS j]
  refine Ev.bind (qho hok h hj) (Ev.bind (qoo (qfv h hj) (by have:=qe3 h (j:=j);omega) (fun k hk=>by have:=qnu h (k:=k) (Nat.le_of_lt hj);omega)) ?_)
  rw [qlo]
  exact hX
theorem qn1 {b:qb} {V:Tview} (h:blockB b=true) (hV:V.Bf=b) (hP:V.places=places b.Aa):Ev (fun n=>qaT (some V) V n (vecI (fun k=>(cnt0 b 0 k:Int)) (npl b)) 0) (vecI (fun k=>(inC (succL b) (npl b) [] k:Int)) (npl b),(npl b:Int)):=by
 have hl:npl b≤78:=qU (qA (qK h))
 refine loopF (Lf:=qaT (some V) V) (S:=fun j=>vecI (fun k=>(cnt0 b j k:Int)) (npl b)) (len:=npl b) (fun n=>?_) (fun j hj X hX=>?_)
 ·simp only [qaT,hP,qr (jf _),cond_false]
  congr 2
 ·simp only [qaT,hP,qp hj,cond_true,wS j]
  refine Ev.bind (qhr h hV hP hj) (Ev.bind (qoM (qfv h hj) (by have:=qe3 h (j:=j);omega) (fun k hk=>by have:=qnu h (k:=k) (Nat.le_of_lt hj);omega)) ?_)
  rw [qlo]
  exact hX
def zerosL (b:qb) (j:Nat):List Nat:=(List.range j).filter fun k=>decide (inC (succL b) (npl b) [] k=0)
theorem qmm {b:qb} {j:Nat}:zerosL b (j+1)=zerosL b j++(if inC (succL b) (npl b) [] j=0 then [j] else []):=by
 unfold zerosL
 rw [jP,List.filter_append]
 by_cases h:inC (succL b) (npl b) [] j=0
 ·rw [List.filter_cons_of_pos (by simpa using h),List.filter_nil,if_pos h]
 ·rw [List.filter_cons_of_neg (by simpa using h),List.filter_nil,if_neg h]
theorem qnO {b:qb} (h:blockB b=true):Ev (fun n=>qbD (npl b:Int) (vecI (fun k=>(inC (succL b) (npl b) [] k:Int)) (npl b)) n ([]:List Int) 0) (ints (zerosL b (npl b)),(npl b:Int)):=by
 have hl:npl b≤78:=qU (qA (qK h))
 refine loopF (Lf:=qbD (npl b:Int) (vecI (fun k=>(inC (succL b) (npl b) [] k:Int)) (npl b))) (S:=fun j=>ints (zerosL b j)) (len:=npl b) (fun n=>?_) (fun j hj X hX=>?_)
 ·simp only [qbD,qr (jf _),cond_false]
 ·simp only [qbD,qp hj,cond_true,qeP hj,je,wS j]
  rw [qmm] at hX
  by_cases hc:inC (succL b) (npl b) [] j=0
  ·rw [if_pos hc,qhL] at hX
   refine Ev.tt (by rw [hc];rfl) ?_
   have:(zerosL b j).length≤j:=by have:=jU (fun k=>decide (inC (succL b) (npl b) [] k=0)) (List.range j);simpa [zerosL] using this
   rw [qbG (by rw [qeO,ji];omega)]
   exact hX
  ·rw [if_neg hc,jO] at hX
   exact Ev.ff (by rw [Bool.eq_false_iff,Ne,beq_iff_eq];omega) hX
structure Mid (b:qb) (k i:Nat) (c:Nat) (out:List Nat):Prop where
 topo:Topo (succL b) (npl b) out
 klt:k<out.length
 cur:out[k]?=some c
 zero:∀ j,j<npl b→(j ∈ out↔inC (succL b) (npl b) (out.take (k+1)) j+((succL b c).drop i).count (j:Int)=0)
def midC (b:qb) (k i c:Nat) (out:List Nat) (j:Nat):Int:=((inC (succL b) (npl b) (out.take (k+1)) j+((succL b c).drop i).count (j:Int):Nat):Int)
theorem qm0 {xs:List Int} {j k i:Nat} (hj:xs[j]?=some (k:Int)):(xs.drop j).count (i:Int)=(xs.drop (j+1)).count (i:Int)+(if i=k then 1 else 0):=by
 obtain ⟨h1,h2⟩:=List.getElem?_eq_some_iff.1 hj
 rw [jM h1,h2,List.count_cons]
 congr 1
 by_cases h:i=k
 ·subst h;simp
 ·have:¬ (k:Int)=(i:Int):=by omega
  simp [h,this]
theorem qnF {b:qb} (h:blockB b=true) {k c:Nat} {out:List Nat} (h0:Mid b k 0 c out):∃ out',Mid b k (succL b c).length c out' ∧
  Ev (fun n=>qbi (succL b c) n (ints out) (vecI (midC b k 0 c out) (npl b)) 0) (ints out',vecI (midC b k (succL b c).length c out') (npl b),((succL b c).length:Int)):=by
 have hl:npl b≤78:=qU (qA (qK h))
 have hcm:c<npl b:=h0.topo.lt c (ju h0.cur)
 have hS:=qe3 h (j:=c)
 obtain ⟨t,⟨out',hm,rfl⟩,he⟩:=loopE (Lf:=fun n (t:List Int × List Int) i=>qbi (succL b c) n t.1 t.2 i) (fin:=fun t=>(t.1,t.2,((succL b c).length:Int))) (len:=(succL b c).length)
  (fun i t=>∃ out,Mid b k i c out∧t=(ints out,vecI (midC b k i c out) (npl b)))
  (fun n t=>by simp only [qbi,qr (jf _),cond_false])
  (fun i t hi ⟨out,hm,ht⟩=>by
   subst ht
   obtain ⟨to,hto,e1,e2⟩:=(qfv h hcm).at hi
   have hdc:=fun j=>qm0 (i:=j) e2
   have hb1:=inCsmall h (R:=out.take (k+1)) (k:=to)
   have hb2:((succL b c).drop i).count (to:Int)≤78:=jJ List.count_le_length (by rw [List.length_drop];omega)
   have hpos:midC b k i c out to=((inC (succL b) (npl b) (out.take (k+1)) to+((succL b c).drop (i+1)).count (to:Int):Nat):Int)+1:=by
    unfold midC;rw [hdc,if_pos rfl];omega
   have hset:setS (vecI (midC b k i c out) (npl b)) (to:Int) (midC b k i c out to-1)=vecI (midC b k (i+1) c out) (npl b):=by
    rw [qiI]
    refine qdM (fun j _=>?_)
    by_cases hj:j=to
    ·subst hj
     rw [if_pos rfl,hpos]
     show _=((inC (succL b) (npl b) (out.take (k+1)) j+((succL b c).drop (i+1)).count (j:Int):Nat):Int)
     omega
    ·rw [if_neg hj]
     unfold midC
     simp only [hdc,if_neg hj,jN]
   have hnot:to ∉ out:=fun hin=>by
    have:=(hm.zero to hto).1 hin
    rw [hdc,if_pos rfl] at this
    omega
   have hw:W64 (midC b k i c out to-1)=midC b k i c out to-1:=qaq (by omega) (by unfold midC;omega)
   by_cases hz:inC (succL b) (npl b) (out.take (k+1)) to+((succL b c).drop (i+1)).count (to:Int)=0
   ·have htk:(out++[to]).take (k+1)=out.take (k+1):=List.take_append_of_le_length hm.klt
    have hm':Mid b k (i+1) c (out++[to]):=by
     refine ⟨.snoc hm.topo hto hnot (fun u hu he=>?_),by have:=hm.klt;rw [jg];omega,by rw [jv hm.klt];exact hm.cur,fun j hj=>?_⟩
     ·exact List.mem_of_mem_take (qhE.1 (show inC (succL b) (npl b) (out.take (k+1)) to=0 by omega) u hu he)
     ·rw [htk]
      by_cases hjt:j=to
      ·subst hjt;exact ⟨fun _=>hz,fun _=>by simp⟩
      ·have:=hm.zero j hj
       simp only [hdc,if_neg hjt,jN] at this
       rw [←this]
       simp [hjt]
    refine ⟨(ints (out++[to]),vecI (midC b k (i+1) c (out++[to])) (npl b)),⟨_,hm',rfl⟩,fun X hX=>?_⟩
    simp only [qbi,qp hi,cond_true,e1,je,qeP hto,wS i,hw,hset]
    refine Ev.tt (by rw [beq_iff_eq];unfold midC;omega) ?_
    have hlen:=hm.topo.len
    rw [qbG (by rw [qeO,ji];omega)]
    have:midC b k (i+1) c out=midC b k (i+1) c (out++[to]):=by funext j;unfold midC;rw [htk]
    rw [this]
    rw [qhL] at hX
    exact hX
   ·have hm':Mid b k (i+1) c out:=by
     refine ⟨hm.topo,hm.klt,hm.cur,fun j hj=>?_⟩
     by_cases hjt:j=to
     ·subst hjt;exact ⟨fun hin=>absurd hin hnot,fun h0=>absurd h0 hz⟩
     ·have:=hm.zero j hj
      simp only [hdc,if_neg hjt,jN] at this
      exact this
    refine ⟨(ints out,vecI (midC b k (i+1) c out) (npl b)),⟨_,hm',rfl⟩,fun X hX=>?_⟩
    simp only [qbi,qp hi,cond_true,e1,je,qeP hto,wS i,hw,hset]
    exact Ev.ff (by rw [Bool.eq_false_iff,Ne,beq_iff_eq];unfold midC;omega) hX)
  0 (jw _) _ ⟨out,h0,rfl⟩
 exact ⟨out',hm,he⟩
theorem qn6 {b:qb} (hok:qcb b) (h:blockB b=true):∀ d k out,Topo (succL b) (npl b) out→k≤out.length→npl b-k=d→(∀ j,j<npl b→(j ∈ out↔inC (succL b) (npl b) (out.take k) j=0)) →
  ∃ out' v i,Topo (succL b) (npl b) out'∧Stuck (succL b) (npl b) out'∧Ev (fun n=>qcj b n (ints out) (vecI (fun j=>(inC (succL b) (npl b) (out.take k) j:Int)) (npl b)) (k:Int)) (ints out',v,i):=by
 have hl:npl b≤78:=qU (qA (qK h))
 intro d
 induction d with
 | zero =>
  intro k out ht hk hd hz
  have h1:=ht.len
  obtain rfl:k=out.length:=by omega
  refine ⟨out,vecI (fun j=>(inC (succL b) (npl b) (out.take out.length) j:Int)) (npl b),(out.length:Int),ht,ht.stuck_full (ht.full (by omega)),Ev.succ ?_⟩
  simp only [qcj,qeO,qr (jf _),cond_false]
  exact .done
 | succ d ih =>
  intro k out ht hk hd hz
  by_cases hlt:k<out.length
  ·have hc:=jm hlt
   have hcm:out[k]<npl b:=ht.lt _ (jp hlt)
   have hnk:out[k] ∉ out.take k:=by
    have hsp:out=out.take k++out[k]::out.drop (k+1):=by rw [←jM hlt,List.take_append_drop]
    have ht':=ht
    rw [hsp] at ht'
    have:=ht'.at.2.1
    simpa using this
   have hin:∀ j,inC (succL b) (npl b) (out.take k) j=inC (succL b) (npl b) (out.take (k+1)) j+(succL b out[k]).count (j:Int):=fun j=>by
    rw [qmt hcm hnk,jF hlt]
   obtain ⟨out',hm,he⟩:=qnF h (k:=k) (c:=out[k]) (out:=out) ⟨ht,hlt,hc,fun j hj=>by rw [hz j hj,hin,List.drop_zero]⟩
   have hz':∀ j,j<npl b→(j ∈ out'↔inC (succL b) (npl b) (out'.take (k+1)) j=0):=fun j hj=>by
    have:=hm.zero j hj
    rwa [List.drop_eq_nil_of_le (jf _),List.count_nil,jN] at this
   obtain ⟨o2,v,i,h1,h2,h3⟩:=ih (k+1) out' hm.topo hm.klt (by omega) hz'
   refine ⟨o2,v,i,h1,h2,Ev.succ ?_⟩
   have hlen:=ht.len
   simp only [qcj,qeO,qp hlt,cond_true,qno hlt,je,wS k]
   refine Ev.bind (qho hok h hcm) ?_
   have e0:vecI (fun j=>(inC (succL b) (npl b) (out.take k) j:Int)) (npl b)=vecI (midC b k 0 out[k] out) (npl b):=qdM (fun j _=>by rw [hin];unfold midC;rw [List.drop_zero])
   rw [e0]
   refine Ev.bind he ?_
   have e1:vecI (midC b k (succL b out[k]).length out[k] out') (npl b)=vecI (fun j=>(inC (succL b) (npl b) (out'.take (k+1)) j:Int)) (npl b):=qdM (fun j _=>by unfold midC;rw [List.drop_eq_nil_of_le (jf _),List.count_nil,jN])
   rw [e1]
   exact h3
  ·obtain rfl:k=out.length:=by omega
   refine ⟨out,vecI (fun j=>(inC (succL b) (npl b) (out.take out.length) j:Int)) (npl b),(out.length:Int),ht,fun j hj hn=>?_,Ev.succ ?_⟩
   ·have:=(not_congr (hz j hj)).1 hn
    rw [jC,qhE] at this
    by_cases hex:∃ u,u<npl b∧(j:Int) ∈ succL b u∧u ∉ out
    ·exact hex
    ·exact absurd (fun u hu he=>Classical.byContradiction fun hc=>hex ⟨u,hu,he,hc⟩) this
   ·simp only [qcj,qeO,qr (jf _),cond_false]
    exact .done
theorem qn5 {b:qb} (hok:qcb b) (h:blockB b=true):∃ out,Topo (succL b) (npl b) out∧Stuck (succL b) (npl b) out∧Ev (fun n=>qge n b) (ints out,decide (out.length=npl b)):=by
 have hl:npl b≤78:=qU (qA (qK h))
 obtain ⟨out,v,i,h1,h2,h3⟩:=qn6 hok h (npl b) 0 (zerosL b (npl b)) (Topo.zeros (jf _)) (jw _) rfl (fun j hj=>by
  unfold zerosL
  rw [List.take_zero,List.mem_filter]
  simp [hj])
 refine ⟨out,h1,h2,?_⟩
 unfold qge
 refine Ev.bind (qgE h) (Ev.bindN (qjT (show npl b≤2147483648 by omega)) ?_)
 refine Ev.bind ((qn2 hok h).cast rfl) (Ev.bind (qnO h) (Ev.bind h3 ?_))
 refine Ev.now ?_
 show some (ints out,((ints out).length:Int)==(npl b:Int))=_
 rw [qeO,show ((out.length:Int)==(npl b:Int))=decide (out.length=npl b) by rw [jk];simp;omega]
theorem qjy {xs:List Int} (hl:xs.length≤1000000):Ev (fun n=>qeV n xs 0) (ixL (fun y=>(0:Int)==y) xs) :=
 qep (fin:=(xs.length:Int)) (Lf:=qb1 xs 0) (pf:=fun _ y=>some ((0:Int)==y)) (fun _ _=>.done)
  (fun n=>by simp only [qb1,qr (jf _),cond_false])
  (fun n j x hx=>by
   have hj:=(List.getElem?_eq_some_iff.1 hx).1
   simp only [qb1,qp hj,cond_true,qf5 hx,je,wS j])
  (fun n=>by unfold qeV;congr 1;funext o;cases o<;>rfl)
def openC (b:qb) (R:List Nat) (k:Nat):Int:=if k ∈ R then -1 else (inC (succL b) (npl b) R k:Int)
theorem qop {α:Type} {p:α→Bool} {xs:List α} (h:¬ ixL p xs<0):∃ j,∃ hj:j<xs.length,ixL p xs=(j:Int)∧p xs[j]=true:=by
 unfold ixL at h ⊢
 cases hf:xs.findIdx? p with
 | none=>rw [hf] at h;exact absurd (by decide:(-1:Int)<0) h
 | some j =>
  obtain ⟨hj,hp,_⟩:=List.findIdx?_eq_some_iff_getElem.1 hf
  exact ⟨j,hj,rfl,hp⟩
theorem qoF {α:Type} {p:α→Bool} {xs:List α} (h:ixL p xs<0):∀ x,x ∈ xs→p x=false:=by
 unfold ixL at h
 cases hf:xs.findIdx? p with
 | none=>intro x hx;have:=List.findIdx?_eq_none_iff.1 hf x hx;simpa using this
 | some j=>rw [hf] at h;exact absurd h (by show ¬ (j:Int)<0;omega)
theorem qnw {b:qb} {V:Tview} (h:blockB b=true) (hV:V.Bf=b) (hP:V.places=places b.Aa) :
  EvQ (fun n=>qcN n (some V)) fun r=>∃ R,Topo (succL b) (npl b) R∧((r=(ints R,true)∧R.length=npl b)∨(r=([],false)∧R.length<npl b∧Stuck (succL b) (npl b) R)):=by
 have hl:npl b≤78:=qU (qA (qK h))
 have hL:EvQ (fun n=>qan (some V) (vecI (fun _=>0) (npl b)) n ([]:List Int) (vecI (fun k=>(inC (succL b) (npl b) [] k:Int)) (npl b)) 0)
   fun r=>∃ R,Topo (succL b) (npl b) R∧((∃ v i,r=.nxt (ints R,v,i)∧R.length=npl b)∨(r=.ret ([],false)∧R.length<npl b∧Stuck (succL b) (npl b) R)):=by
  refine loopR (Lf:=fun n (t:List Int × List Int) i=>qan (some V) (vecI (fun _=>0) (npl b)) n t.1 t.2 i) (len:=npl b)
   (fun j t=>∃ R,Topo (succL b) (npl b) R∧R.length=j∧t=(ints R,vecI (openC b R) (npl b))) _ (fun t ⟨R,h1,h2,ht⟩=>?_) (fun j t hj ⟨R,h1,h2,ht⟩=>?_) 0 (jw _) (([]:List Int),vecI (fun k=>(inC (succL b) (npl b) [] k:Int)) (npl b)) ⟨[],.nil,rfl,?_⟩
  ·subst ht
   simp only [qan,qgW,qr (jf _),cond_false]
   exact EvQ.done ⟨R,h1,.inl ⟨_,_,rfl,h2⟩⟩
  ·subst ht
   by_cases hneg:ixL (fun y=>(0:Int)==y) (vecI (openC b R) (npl b))<0
   ·refine .inl (EvQ.succ ?_)
    simp only [qan,qgW,qp hj,cond_true]
    refine EvQ.bindE (qjy (by rw [qgW];omega)) (EvQ.tt (by simpa using hneg) (EvQ.done ⟨R,h1,.inr ⟨rfl,by omega,fun k hk hn=>?_⟩⟩))
    have:=qoF hneg (openC b R k) (by unfold vecI;exact List.mem_map.2 ⟨k,List.mem_range.2 hk,rfl⟩)
    unfold openC at this
    rw [if_neg hn] at this
    have hne:inC (succL b) (npl b) R k ≠ 0:=by
     intro e;rw [e] at this;exact absurd this (by decide)
    rw [Ne,qhE] at hne
    by_cases hex:∃ u,u<npl b∧(k:Int) ∈ succL b u∧u ∉ R
    ·exact hex
    ·exact absurd (fun u hu he=>Classical.byContradiction fun hc=>hex ⟨u,hu,he,hc⟩) hne
   ·obtain ⟨k,hk,e,hp⟩:=qop hneg
    rw [qgW] at hk
    have hp:openC b R k=0:=by
     have:(0:Int)==openC b R k:=by simpa [vecI] using hp
     exact (beq_iff_eq.1 this).symm
    have hn:k ∉ R:=fun hin=>by unfold openC at hp;rw [if_pos hin] at hp;exact absurd hp (by decide)
    have hz:inC (succL b) (npl b) R k=0:=by unfold openC at hp;rw [if_neg hn] at hp;omega
    have ht:Topo (succL b) (npl b) (R++[k]):=.snoc h1 hk hn (qhE.1 hz)
    refine .inr ⟨(ints (R++[k]),vecI (openC b (R++[k])) (npl b)),⟨_,ht,by rw [jg,ji,h2],rfl⟩,fun X hX=>?_⟩
    have hX:Ev (fun n=>qan (some V) (vecI (fun _=>0) (npl b)) n (ints (R++[k])) (vecI (openC b (R++[k])) (npl b)) ((j+1:Nat):Int)) X:=hX
    simp only [qan,qgW,qp hj,cond_true,wS j]
    refine Ev.bind (qjy (by rw [qgW];omega)) (Ev.ff (by simpa using hneg) ?_)
    rw [e]
    have happ:appS (ints R) [(k:Int)]=some (ints R++[(k:Int)]):=qbG (by rw [qeO,ji];omega)
    simp only [qeP hk,je,happ]
    refine Ev.bind (qhr h hV hP hk) ?_
    rw [qiI]
    refine Ev.bind (qoq (qfv h hk) (by have:=qe3 h (j:=k);omega) (fun i hi=>?_)) ?_
    ·by_cases hik:i=k
     ·rw [if_pos hik];omega
     ·rw [if_neg hik]
      unfold openC
      have:=inCsmall h (R:=R) (k:=i)
      split<;>omega
    ·have e2:vecI (fun i=>(if i=k then -1 else openC b R i)+(-1)*((succL b k).count (i:Int):Int)) (npl b)=vecI (openC b (R++[k])) (npl b):=by
      refine qdM (fun i _=>?_)
      unfold openC
      by_cases hik:i=k
      ·subst hik
       have h0:(succL b i).count (i:Int)=0:=List.count_eq_zero.2 (fun he=>hn (qhE.1 hz i hk he))
       rw [if_pos rfl,if_pos (by simp),h0];rfl
      ·rw [if_neg hik]
       by_cases hiR:i ∈ R
       ·have h0:=h1.no_back hk hn hiR
        rw [if_pos hiR,if_pos (jG _ hiR),h0];rfl
       ·rw [if_neg hiR,if_neg (by simp [hiR,hik]),qmt hk hn]
        omega
     rw [e2,←qhL]
     exact hX
  ·exact congrArg (fun v=>(([]:List Int),v)) (qdM (fun k _=>by unfold openC;simp))
 unfold qcN
 refine EvQ.bindN rfl ?_
 rw [hP]
 refine EvQ.bindN (qjT (show npl b≤2147483648 by omega)) (EvQ.bindE ((qn1 h hV hP).cast rfl) (EvQ.bind hL fun r hr=>?_))
 obtain ⟨R,h1,hr⟩:=hr
 rcases hr with ⟨v,i,rfl,h2⟩|⟨rfl,h2,h3⟩
 ·exact EvQ.done ⟨R,h1,.inl ⟨rfl,h2⟩⟩
 ·exact EvQ.done ⟨R,h1,.inr ⟨rfl,h2,h3⟩⟩
theorem qnz {b:qb} {R out:List Nat} (h1:Topo (succL b) (npl b) R) (h2:Topo (succL b) (npl b) out) (hs:Stuck (succL b) (npl b) out) :
  (R.length=npl b→out.length=npl b)∧(R.length<npl b→Stuck (succL b) (npl b) R→out.length<npl b):=by
 refine ⟨fun h=>?_,fun h hR=>?_⟩
 ·have:=qjr h1.nodup (h1.sub hs)
  have:=h2.len
  omega
 ·have:=qjr h2.nodup (h2.sub hR)
  omega
end Go.Fw


namespace Go.Fw
open Go
set_option maxRecDepth 100000
def startB (b:qb) (p:Tplace):Bool:=bif decide (p.instance_<0) then p.drives || clkB b p else clkB b p
def startN (b:qb) (j:Nat):List Nat:=selN (fun i=>startB b (gt (places b.Aa) i)) j
def stC (b:qb) (k:Nat):Nat:=if startB b (gt (places b.Aa) k)=true then 1 else 0
theorem qkU {b:qb} (hok:qcb b) (h:blockB b=true):Ev (fun n=>qea n b) (ints (startN b (npl b))):=by
 have hl:npl b≤78:=qU (qA (qK h))
 have hL:Ev (fun n=>qbm b n ([]:List Int) 0) (ints (startN b (npl b)),(npl b:Int)):=by
  refine qnB (Lf:=qbm b) (q:=fun i=>startB b (gt (places b.Aa) i)) (len:=npl b) (by omega) (Ev.succ ?_) (fun j hj t ht X h1 h2=>?_)
  ·simp only [qbm]
   exact Ev.bind (qgE h) (Ev.ff (qr (jf _)) .done)
  ·simp only [qbm,wS j,ht,je]
   refine Ev.bind (qgE h) (Ev.tt (qp hj) (Ev.bind (qjp hok h hj) ?_))
   refine Ev.bind (b:=startB b (gt (places b.Aa) j)) ?_ ?_
   ·unfold startB
    refine Ev.iff (fun h0=>?_) (fun _=>Ev.last (qiq hok h hj))
    rcases qee hj with ⟨i,k,hi,hk,ej,e⟩|⟨i,hi,_,e⟩
    ·rw [e] at h0
     exact absurd h0 (by show ¬ decide ((i:Int)<0)=true;simp)
    ·have hc:=qiq hok h hj
     rw [e] at hc ⊢
     rw [show (toSp (place2 b.Aa i)).pin=(i:Int) from rfl,qZ hi]
     simp only [je]
     rw [show (place2 b.Aa i).drives=((gt b.Aa.Af i).Bl==1) from rfl]
     cases ((gt b.Aa.Af i).Bl==1)
     ·exact Ev.last hc
     ·exact .done
   ·cases hq:startB b (gt (places b.Aa) j)
    ·exact h2 hq
    ·exact h1 hq
 unfold qea
 exact Ev.bind hL .done
theorem qmQ {b:qb} {V:Tview} {j:Nat} (h:blockB b=true) (hV:V.Bf=b) (hj:j<npl b):Ev (fun n=>qdz n (some V) (gt (places b.Aa) j)) (startB b (gt (places b.Aa) j)):=by
 refine ⟨0,fun n _=>?_⟩
 show qdz n (some V) _=some _
 unfold qdz startB
 rw [qjb (V:=V) h hV hj]
 cases decide ((gt (places b.Aa) j).instance_<0)<;>cases (gt (places b.Aa) j).drives<;>rfl
def handC (b:qb) (u:Nat) (c:Nat→Nat) (t j:Nat):Nat:=min 1000000 (c j+((succL b u).take t).count (j:Int)*c u)
theorem qmJ {b:qb} {u t k:Nat} {c:Nat→Nat} (hx:(succL b u)[t]?=some (k:Int)):setS (vecI (fun j=>(handC b u c t j:Int)) (npl b)) (k:Int) ((min 1000000 (handC b u c t k+c u):Nat):Int)=vecI (fun j=>(handC b u c (t+1) j:Int)) (npl b):=by
 rw [qiI]
 refine qdM (fun j _=>?_)
 unfold handC
 rw [qkO hx]
 by_cases h:j=k
 ·subst h
  rw [if_pos rfl,if_pos rfl,Nat.add_mul]
  omega
 ·rw [if_neg h,if_neg h,jN]
theorem qmX {b:qb} {u t:Nat} {c:Nat→Nat} (hn:(succL b u).count (u:Int)=0) (hc:c u≤1000000):handC b u c t u=c u:=by
 unfold handC
 have:((succL b u).take t).count (u:Int)=0:=by have:=qoO (xs:=succL b u) (j:=t) (i:=u);omega
 rw [this];omega
theorem qnd {b:qb} {u:Nat} {c:Nat→Nat} (hc:∀ j,j<npl b→c j≤1000000):vecI (fun j=>(handC b u c 0 j:Int)) (npl b)=vecI (fun j=>(c j:Int)) (npl b):=by
 refine qdM (fun j hj=>?_)
 have:=hc j hj
 unfold handC
 rw [List.take_zero,List.count_nil,Nat.zero_mul];omega
theorem qoI {b:qb} (h:blockB b=true) {u:Nat} {c:Nat→Nat} (hu:u<npl b) (hn:(succL b u).count (u:Int)=0) (hc:∀ j,j<npl b→c j≤1000000) :
  Ev (fun n=>qcJ (u:Int) (succL b u) n (vecI (fun j=>(c j:Int)) (npl b)) 0) (vecI (fun j=>(handC b u c (succL b u).length j:Int)) (npl b),((succL b u).length:Int)):=by
 rw [←qnd (u:=u) hc]
 have hS:=qe3 h (j:=u)
 refine loopF (Lf:=qcJ (u:Int) (succL b u)) (S:=fun t=>vecI (fun j=>(handC b u c t j:Int)) (npl b)) (len:=(succL b u).length) (fun n=>?_) (fun t ht X hX=>?_)
 ·simp only [qcJ,qr (jf _),cond_false]
 ·obtain ⟨k,hk,e1,e2⟩:=(qfv h hu).at ht
  have hle:handC b u c t k≤1000000:=by unfold handC;omega
  have hcu:=hc _ hu
  simp only [qcJ,qp ht,cond_true,e1,je,qeP hk,qeP hu,qmX hn hcu,wS t]
  rw [qaq (by omega) (by omega)]
  have e3:(if 1000000<(handC b u c t k:Int)+(c u:Int) then 1000000 else (handC b u c t k:Int)+(c u:Int))=((min 1000000 (handC b u c t k+c u):Nat):Int):=by
   split<;>omega
  rw [e3,qmJ e2]
  exact hX
theorem qnZ {b:qb} {out:List Nat} {i:Nat} (h:Topo (succL b) (npl b) out) (hi:i<out.length):out[i]<npl b∧out[i] ∉ out.take i∧(∀ u,u<npl b→(out[i]:Int) ∈ succL b u→u ∈ out.take i)∧(succL b out[i]).count (out[i]:Int)=0∧Topo (succL b) (npl b) (out.take i):=by
 have hsp:out=out.take i++out[i]::out.drop (i+1):=by rw [←jM hi,List.take_append_drop]
 have ht:=h
 rw [hsp] at ht
 obtain ⟨h1,h2,h3⟩:=ht.at
 exact ⟨h1,h2,h3,List.count_eq_zero.2 (fun he=>h2 (h3 _ h1 he)),ht.pre⟩
theorem qnX {b:qb} {V:Tview} (h:blockB b=true) (hV:V.Bf=b) (hP:V.places=places b.Aa) {out:List Nat} (ht:Topo (succL b) (npl b) out) (hfull:∀ j,j<npl b→j ∈ out):∃ c:Nat→Nat,(∀ j,j<npl b→PathEq (succL b) 1000000 (stC b) out c j) ∧
  Ev (fun n=>qcF (some V) (ints out) V n (vecI (fun _=>0) (npl b)) 0) (vecI (fun j=>(c j:Int)) (npl b),(out.length:Int)):=by
 have hl:npl b≤78:=qU (qA (qK h))
 have hlen:=ht.len
 obtain ⟨t,⟨c,hc,rfl⟩,he⟩:=loopE (Lf:=qcF (some V) (ints out) V) (fin:=fun t=>(t,(out.length:Int))) (len:=out.length)
  (fun i t=>∃ c:Nat→Nat,(∀ j,j<npl b→c j=min 1000000 ((if j ∈ out.take i then stC b j else 0)+sumP (succL b) c (out.take i) j))∧t=vecI (fun j=>(c j:Int)) (npl b))
  (fun n t=>by simp only [qcF,qeO,qr (jf _),cond_false])
  (fun i t hi ⟨c,hc,e⟩=>by
   subst e
   obtain ⟨h1,h2,h3,h4,h5⟩:=qnZ ht hi
   have hle:∀ j,j<npl b→c j≤1000000:=fun j hj=>by rw [hc j hj];omega
   have hle1:=hle _ h1
   generalize hu:out[i]=u at h1 h2 h3 h4 hle1
   have hst:stC b u≤1:=by unfold stC;split<;>omega
   let c1:Nat→Nat:=fun j=>if j=u then min 1000000 (c u+stC b u) else c j
   have hc1u:c1 u=min 1000000 (c u+stC b u):=if_pos rfl
   have hc1:∀ j,j ≠ u→c1 j=c j:=fun j hj=>if_neg hj
   have hle2:∀ j,j<npl b→c1 j≤1000000:=fun j hj=>by
    by_cases e:j=u
    ·subst e;rw [hc1u];omega
    ·rw [hc1 j e];exact hle j hj
   have hsum:∀ j,sumP (succL b) c1 (out.take i) j=sumP (succL b) c (out.take i) j:=fun j=>qkG (fun v hv _=>hc1 v (fun e=>h2 (by rw [←e];exact hv)))
   have hin:∀ j,j<npl b→c1 j=min 1000000 ((if j ∈ out.take (i+1) then stC b j else 0)+sumP (succL b) c1 (out.take i) j):=fun j hj=>by
    rw [hsum,jF hi,hu]
    by_cases e:j=u
    ·subst e
     rw [hc1u,if_pos (by simp)]
     have:=hc j hj
     rw [if_neg h2] at this
     omega
    ·rw [hc1 j e,hc j hj]
     by_cases h6:j ∈ out.take i
     ·rw [if_pos h6,if_pos (jG _ h6)]
     ·rw [if_neg h6,if_neg (by simp [h6,e])]
   refine ⟨vecI (fun j=>(handC b u c1 (succL b u).length j:Int)) (npl b),⟨_,fun j hj=>?_,rfl⟩,fun X hX=>?_⟩
   ·have:=qnA h5 h1 h2 h3 (c':=handC b u c1 (succL b u).length) (s:=if j ∈ out.take (i+1) then stC b j else 0) (fun j _=>by unfold handC;rw [jC]) hle2 hj (hin j hj)
    rw [this]
    congr 2
    rw [jF hi,hu]
   ·simp only [qcF,qeO,qp hi,cond_true,qno hi,hu,hP,qZ h1,je,qeP h1,wS i]
    refine Ev.bind (qmQ h hV h1) ?_
    refine Ev.bind (b:=vecI (fun j=>(c1 j:Int)) (npl b)) ?_ (Ev.bind (qhr h hV hP h1) (Ev.bind (qoI h h1 h4 hle2) hX))
    refine Ev.bif (fun hs=>Ev.now ?_) (fun hs=>Ev.now ?_)
    ·rw [qaq (by omega) (by omega),qiI]
     congr 1
     refine qdM (fun j _=>?_)
     by_cases e:j=u
     ·subst e
      have:stC b j=1:=if_pos hs
      rw [if_pos rfl,hc1u,this]
      split<;>omega
     ·rw [if_neg e,hc1 j e]
    ·congr 1
     refine qdM (fun j _=>?_)
     by_cases e:j=u
     ·subst e
      have:stC b j=0:=if_neg (by rw [hs];decide)
      rw [hc1u,this];omega
     ·rw [hc1 j e])
  0 (jw _) (vecI (fun _=>0) (npl b)) ⟨fun _=>0,fun j _=>by rw [List.take_zero,if_neg (by simp)];rfl,rfl⟩
 refine ⟨c,fun j hj=>?_,he⟩
 have:=hc j hj
 rw [jC,if_pos (hfull j hj)] at this
 exact this
theorem qj4 {b:qb} {p:Int} (hok:qcb b):Ev (fun n=>qfG n b [] p) (bif blockB b then (bif inPl b p then 0 else 2) else 1):=by
 unfold qfG qhU
 cases h:blockB b with
 | false=>exact Ev.bind (b:=1) (Ev.bind (qgg hok) (Ev.tt (by rw [h];rfl) .done)) .done
 | true =>
  have hl:npl b≤78:=qU (qA (qK h))
  refine Ev.bind (b:=0) (Ev.bind (qgg hok) (Ev.ff (by rw [h];rfl) (Ev.ff rfl (Ev.bind (b:=.nxt 0) (Ev.succ .done) .done)))) ?_
  refine Ev.tt rfl (Ev.bind (qgE h) ?_)
  simp only [qdH,je,qbK (show (places b.Aa).length≤9223372036854775807 from by have:(places b.Aa).length≤78:=hl;omega)]
  show Ev _ (bif inI p 0 (((places b.Aa).length:Int)-1) then 0 else 2)
  cases inI p 0 (((places b.Aa).length:Int)-1)<;>exact .done
end Go.Fw


namespace Go.Fw
open Go
set_option maxRecDepth 100000
section
variable {code:List (IntK .u8)} {a s:Int}
def PlI (b:qb) (p:Int):Prop:=0≤p∧p<((places b.Aa).length:Int)
theorem qoB {b:qb} (h:blockB b=true) {j:Nat} (hj:j<(places b.Aa).length):∀ y,y ∈ succL b j→PlI b y:=by
 intro y hy
 obtain ⟨k,hk,e⟩:=qfv h hj y hy
 unfold PlI;omega
theorem qoJ {b:qb} (hok:qcb b) (h:blockB b=true) (h0:1≤(places b.Aa).length) (hc:CodeOk code) (hs:SrcI code a s) :
  EvQ (fun n=>qd9 n ⟨code,a,s⟩ b) (fun o=>((1≤o.1.length∧o.1.length≤20)∧∀ y,y ∈ o.1→PlI b y)∧SrcI code o.2.1 o.2.2):=by
 have hpl:=qU (qA (qK h))
 have main:∀ (r:Nat) (x:List Int) (a' s' p:Int),SrcI code a' s'→(1≤x.length∧x.length+r≤20)→(∀ y,y ∈ x→PlI b y)→PlI b p →
   EvQ (fun n=>qb0 ⟨code,a,s⟩ b n x a' s' p (r:Int)) (fun o=>((1≤o.1.length∧o.1.length≤20)∧∀ y,y ∈ o.1→PlI b y)∧SrcI code o.2.1 o.2.2):=by
  intro r
  induction r with
  | zero =>
   intro x a' s' p hs hl hx hp
   refine EvQ.succ ?_
   simp only [qb0]
   exact EvQ.ff rfl (EvQ.done ⟨⟨⟨hl.1,by dsimp only;omega⟩,hx⟩,hs⟩)
  | succ r ih =>
   intro x a' s' p hs hl hx hp
   refine EvQ.succ ?_
   simp only [qb0]
   obtain ⟨j,rfl⟩:∃ j:Nat,p=(j:Int):=⟨p.toNat,by have:=hp.1;omega⟩
   have hj:j<(places b.Aa).length:=by have:=hp.2;omega
   have hsl:=qe3 h (j:=j)
   refine EvQ.tt (by simp) (EvQ.bindE (qho hok h hj) (EvQ.bif (fun _=>EvQ.done ⟨⟨⟨hl.1,by dsimp only;omega⟩,hx⟩,hs⟩) (fun h1=>?_)))
   have h1:1≤(succL b j).length:=by cases hq:succL b j with
    | nil=>rw [hq] at h1;simp at h1
    | cons y ys=>exact Nat.succ_le_succ (jw _)
   refine EvQ.bind (qad _ hc hs) ?_
   rintro ⟨i22,i23,i24⟩ ⟨⟨⟨q0,q1⟩,_⟩,hs⟩
   dsimp only at q0 q1 hs ⊢
   have q2:=q1 (by omega)
   obtain ⟨k,rfl⟩:∃ k:Nat,i22=(k:Int):=⟨i22.toNat,by omega⟩
   have hk:k<(succL b j).length:=by omega
   have e:W64 (((r+1:Nat):Int)-1)=(r:Int):=by rw [qaq (by omega) (by omega)];omega
   have hpk:=qoB h hj _ (jp hk)
   rw [e]
   exact EvQ.bindN (qay hk) (EvQ.bindN (qbH (by omega)) (ih _ _ _ _ hs ⟨by rw [jg,ji];omega,by rw [jg,ji];omega⟩ (qa3 hx hpk) hpk))
 unfold qd9
 refine EvQ.bindE (qkU hok h) (EvQ.bindE (qef h) (EvQ.bind (qad _ hc hs) ?_))
 rintro ⟨i1,i2,i3⟩ ⟨⟨⟨q0,q1⟩,_⟩,hs⟩
 dsimp only at q0 q1 hs ⊢
 have p1:PlI b i1:=by
  refine ⟨q0,?_⟩
  by_cases h2:((places b.Aa).length:Int) > 1
  ·rw [if_pos h2] at q1
   exact q1 (by omega)
  ·rw [if_neg h2] at q1
   have:=q1 (by decide)
   omega
 have st:∀ y,y ∈ ints (startN b (npl b))→PlI b y:=by
  intro y hy
  unfold ints startN selN at hy
  obtain ⟨k,hk,rfl⟩:=List.mem_map.1 hy
  have:=List.mem_range.1 (List.mem_filter.1 hk).1
  unfold npl at this
  unfold PlI
  omega
 refine EvQ.bind (R:=fun o:Int × Int × Bool=>SrcI code o.1 o.2.1∧(o.2.2=true→1≤(ints (startN b (npl b))).length)) (EvQ.bif (fun h1=>EvQ.bind (qad 6 hc hs) ?_) (fun _=>EvQ.done ⟨hs,fun h=>by cases h⟩)) ?_
 ·rintro ⟨i28,i29,i30⟩ ⟨_,hs⟩
  exact EvQ.done ⟨hs,fun _=>by have:=of_decide_eq_true h1;omega⟩
 rintro ⟨i4,i5,b1⟩ ⟨hs,hb1⟩
 dsimp only at hs hb1 ⊢
 refine EvQ.bind (R:=fun o:Int × Int × Int=>SrcI code o.1 o.2.1∧PlI b o.2.2) (EvQ.bif (fun h1=>EvQ.bind (qad _ hc hs) ?_) (fun _=>EvQ.done ⟨hs,p1⟩)) ?_
 ·rintro ⟨i25,i26,i27⟩ ⟨⟨⟨t0,t1⟩,_⟩,hs⟩
  dsimp only at t0 t1 hs ⊢
  have hn:=hb1 h1
  have t2:=t1 (by omega)
  obtain ⟨k,rfl⟩:∃ k:Nat,i25=(k:Int):=⟨i25.toNat,by omega⟩
  have hk:k<(ints (startN b (npl b))).length:=by omega
  exact EvQ.bindN (qay hk) (EvQ.done ⟨hs,st _ (jp hk)⟩)
 rintro ⟨i6,i7,i8⟩ ⟨hs,hp⟩
 dsimp only at hs hp ⊢
 refine EvQ.bind (qad 10 hc hs) ?_
 rintro ⟨i9,i10,i11⟩ ⟨⟨⟨t0,t1⟩,_⟩,hs⟩
 dsimp only at t0 t1 hs ⊢
 have t2:=t1 (by decide)
 obtain ⟨m,hm⟩:∃ m:Nat,2+i9=(m:Int):=⟨(2+i9).toNat,by omega⟩
 rw [wO (2+i9),hm]
 refine EvQ.bind (main m [i8] i10 i11 i8 hs (by simp;omega) (fun y hy=>by obtain rfl:=List.mem_singleton.1 hy;exact hp) hp) ?_
 rintro ⟨x2,i16,i17⟩ h2
 exact EvQ.done h2
theorem PlI.ok {b:qb} (h:blockB b=true) {p:Int} (hp:PlI b p):okI p:=by
 have hpl:=qU (qA (qK h))
 unfold PlI at hp
 exact qX (by omega) (by omega)
theorem qp2 {b:qb} {path:List Int} (h:blockB b=true) (h0:1≤(places b.Aa).length) (hl:1≤path.length∧path.length≤20) (hp:∀ y,y ∈ path→PlI b y) (hc:CodeOk code) (hs:SrcI code a s) :
  EvQ (fun n=>qdj n ⟨code,a,s⟩ b path) (fun o=>qcU o.1∧SrcI code o.2.1 o.2.2):=by
 have hpl:=qU (qA (qK h))
 have one:∀ {x:Int},okI x→okL okI [x]:=fun hx=>⟨by simp,fun y hy=>by obtain rfl:=List.mem_singleton.1 hy;exact hx⟩
 have none_:okL okI ([]:List Int):=⟨jw _,fun _ h=>by cases h⟩
 have main:∀ (d j:Nat) (x:List Int) (a' s':Int),SrcI code a' s'→j+d=path.length→x.length≤j→(∀ y,y ∈ x→okI y) →
   EvQ (fun n=>qaB ⟨code,a,s⟩ path n x a' s' (j:Int)) (fun o=>okL okI o.1∧SrcI code o.2.1 o.2.2.1):=by
  intro d
  induction d with
  | zero =>
   intro j x a' s' hs hj hx hok
   refine EvQ.succ ?_
   simp only [qaB]
   exact EvQ.ff (qr (by omega)) (EvQ.done ⟨⟨by dsimp only;omega,hok⟩,hs⟩)
  | succ d ih =>
   intro j x a' s' hs hj hx hok
   have hjl:j<path.length:=by omega
   refine EvQ.succ ?_
   simp only [qaB,wS j]
   refine EvQ.tt (qp hjl) (EvQ.bind (R:=fun o:Int × Int × Bool=>SrcI code o.1 o.2.1) (EvQ.bif (fun _=>EvQ.bind (qad 5 hc hs) ?_) (fun _=>EvQ.done hs)) ?_)
   ·rintro ⟨i18,i19,i20⟩ ⟨_,hs⟩
    exact EvQ.done hs
   ·rintro ⟨i16,i17,b1⟩ hs
    dsimp only at hs ⊢
    refine EvQ.bif (fun _=>?_) (fun _=>ih (j+1) x _ _ hs (by omega) (by omega) hok)
    have hl1:(x++[path[j]]).length≤j+1:=by rw [jg,ji];omega
    exact EvQ.bindN (qay hjl) (EvQ.bindN (qbH (by omega)) (EvQ.bindN (qh0 (by omega)) (ih (j+1) _ _ _ hs (by omega) hl1 (qa3 hok ((hp _ (jp hjl)).ok h)))))
 have cnt:∀ {a' s':Int},SrcI code a' s'→EvQ (fun n=>qk n ⟨code,a',s'⟩ ((places b.Aa).length:Int)) (fun o=>okI o.1∧SrcI code o.2.1 o.2.2):=fun {a' s'} hs=>(qad _ hc hs).mono (fun o ho=>⟨by have h1:=ho.1.1.1;have h2:=ho.1.1.2 (by omega);exact qX (by omega) (by omega),ho.2⟩)
 unfold qdj
 refine EvQ.bind (qad 4 hc hs) ?_
 rintro ⟨i1,i2,i3⟩ ⟨_,hs⟩
 dsimp only at hs ⊢
 refine EvQ.bind (R:=fun o:Int × Int × Int=>SrcI code o.1 o.2.1∧okI o.2.2) ?_ ?_
 ·have z0:okI 0:=qX (by decide) (by decide)
  refine EvQ.bif (fun _=>EvQ.bind (qad 4 hc hs) ?_) (fun _=>EvQ.bif (fun _=>EvQ.bif (fun _=>EvQ.bind (qad 40 hc hs) ?_) (fun _=>EvQ.done ⟨hs,z0⟩)) (fun _=>EvQ.bif (fun _=>EvQ.bind (qad 40 hc hs) ?_) (fun _=>EvQ.done ⟨hs,z0⟩)))
  all_goals
   rintro ⟨j1,j2,j3⟩ ⟨_,hs⟩
   exact EvQ.done ⟨hs,qcn _⟩
 rintro ⟨i4,i5,i6⟩ ⟨hs,hi6⟩
 dsimp only at hs hi6 ⊢
 refine EvQ.bind (qad 2 hc hs) ?_
 rintro ⟨i7,i8,i9⟩ ⟨_,hs⟩
 dsimp only at hs ⊢
 refine EvQ.bind (R:=fun o:List Int=>okL okI o) (EvQ.bif (fun _=>EvQ.bindN (qay (j:=0) (show 0<path.length by omega)) (EvQ.done (one ((hp _ (jp _)).ok h)))) (fun _=>EvQ.done none_)) (fun x1 hx1=>?_)
 refine EvQ.bind (qad 2 hc hs) ?_
 rintro ⟨i10,i11,i12⟩ ⟨_,hs⟩
 dsimp only at hs ⊢
 have e:W64 ((path.length:Int)-1)=((path.length-1:Nat):Int):=by rw [qaq (by omega) (by omega)];omega
 rw [e]
 refine EvQ.bind (R:=fun o:List Int=>okL okI o) (EvQ.bif (fun _=>EvQ.bindN (qay (show path.length-1<path.length by omega)) (EvQ.done (one ((hp _ (jp _)).ok h)))) (fun _=>EvQ.done none_)) (fun x2 hx2=>?_)
 refine EvQ.bind (main path.length 0 [] i11 i12 hs (by omega) (jw _) (fun _ h=>by cases h)) ?_
 rintro ⟨x3,i13,i14,i15⟩ ⟨hx3,hs⟩
 dsimp only at hx3 hs ⊢
 refine EvQ.bind (qad 12 hc hs) ?_
 rintro ⟨i21,i22,i23⟩ ⟨_,hs⟩
 dsimp only at hs ⊢
 refine EvQ.bif (fun _=>EvQ.bindE (qef h) (EvQ.bind (cnt hs) ?_)) (fun _=>EvQ.bif (fun _=>EvQ.bindE (qef h) (EvQ.bind (cnt hs) ?_)) (fun _=>EvQ.bif (fun _=>EvQ.bindE (qef h) (EvQ.bind (cnt hs) ?_)) (fun _=>EvQ.done ⟨⟨qcn _,hi6,hx1,hx3,hx2⟩,hs⟩)))
 ·rintro ⟨j1,j2,j3⟩ ⟨hj,hs⟩
  exact EvQ.done ⟨⟨qcn _,hi6,one hj,hx3,hx2⟩,hs⟩
 ·rintro ⟨j1,j2,j3⟩ ⟨hj,hs⟩
  exact EvQ.done ⟨⟨qcn _,hi6,hx1,hx3,one hj⟩,hs⟩
 ·rintro ⟨j1,j2,j3⟩ ⟨hj,hs⟩
  exact EvQ.done ⟨⟨qcn _,hi6,hx1,one hj,hx2⟩,hs⟩
theorem qpW {b:qb} {path:List Int} (h:blockB b=true) (h0:1≤(places b.Aa).length) (hl:1≤path.length∧path.length≤20) (hp:∀ y,y ∈ path→PlI b y) (hc:CodeOk code) (hs:SrcI code a s) :
  EvQ (fun n=>qe4 n ⟨code,a,s⟩ b path) (fun o=>okL qcU o.1∧SrcI code o.2.1 o.2.2):=by
 have hpl:=qU (qA (qK h))
 have main:∀ (r:Nat) (x:List qc) (a' s':Int),SrcI code a' s'→x.length+r≤10→(∀ y,y ∈ x→qcU y) →
   EvQ (fun n=>qbZ ⟨code,a,s⟩ b path n x a' s' (r:Int)) (fun o=>(o.1.length≤10∧∀ y,y ∈ o.1→qcU y)∧SrcI code o.2.1 o.2.2.1):=by
  intro r
  induction r with
  | zero =>
   intro x a' s' hs hx hok
   refine EvQ.succ ?_
   simp only [qbZ]
   exact EvQ.ff rfl (EvQ.done ⟨⟨by dsimp only;omega,hok⟩,hs⟩)
  | succ r ih =>
   intro x a' s' hs hx hok
   have e:W64 (((r+1:Nat):Int)-1)=(r:Int):=by rw [qaq (by omega) (by omega)];omega
   refine EvQ.succ ?_
   simp only [qbZ,e]
   refine EvQ.tt (by simp) (EvQ.bind (qp2 h h0 hl hp hc hs) ?_)
   rintro ⟨r1,i7,i8⟩ ⟨h1,hs⟩
   exact EvQ.bindN (qbH (by omega)) (ih _ _ _ hs (by rw [jg,ji];omega) (qa3 hok h1))
 have grow:∀ (d:Nat) (x:List qc),x.length+d=11→1≤x.length→(∀ y,y ∈ x→qcU y)→EvQ (fun n=>qbX n x) (fun o=>o.length≤11∧∀ y,y ∈ o→qcU y):=by
  intro d
  induction d with
  | zero =>
   intro x hx h1 hok
   refine EvQ.succ ?_
   simp only [qbX]
   exact EvQ.ff (by simp;omega) (EvQ.done ⟨by omega,hok⟩)
  | succ d ih =>
   intro x hx h1 hok
   refine EvQ.succ ?_
   simp only [qbX]
   refine EvQ.bif (fun _=>EvQ.bindN (qay (j:=0) (show 0<x.length by omega)) (EvQ.bindN (qbH (by omega)) (ih _ (by rw [jg,ji];omega) (by rw [jg,ji];omega) (qa3 hok (hok _ (jp _)))))) (fun _=>EvQ.done ⟨by omega,hok⟩)
 unfold qe4
 refine EvQ.bind (qad 5 hc hs) ?_
 rintro ⟨i1,i2,i3⟩ ⟨⟨⟨q0,q1⟩,_⟩,hs⟩
 dsimp only at q0 q1 hs ⊢
 have q2:=q1 (by decide)
 obtain ⟨m,rfl⟩:∃ m:Nat,i1=(m:Int):=⟨i1.toNat,by omega⟩
 refine EvQ.bind (main m [] i2 i3 hs (by simp;omega) (fun _ h=>by cases h)) ?_
 rintro ⟨x1,i4,i5,i6⟩ ⟨⟨l1,h1⟩,hs⟩
 dsimp only at l1 h1 hs ⊢
 refine EvQ.bind (R:=fun o:Int × Int × Bool=>SrcI code o.1 o.2.1∧(o.2.2=true→1≤x1.length)) (EvQ.bif (fun hp=>EvQ.bind (qad 16 hc hs) ?_) (fun _=>EvQ.done ⟨hs,fun h=>by cases h⟩)) ?_
 ·rintro ⟨j1,j2,j3⟩ ⟨_,hs⟩
  exact EvQ.done ⟨hs,fun _=>by have:=of_decide_eq_true hp;omega⟩
 rintro ⟨i9,i10,b1⟩ ⟨hs,hb⟩
 dsimp only at hs hb ⊢
 refine EvQ.bif (fun hb1=>?_) (fun _=>EvQ.done ⟨⟨by dsimp only;omega,h1⟩,hs⟩)
 have hn:=hb hb1
 have h00:0<x1.length:=by omega
 have hx0:=h1 _ (jp h00)
 have set0:∀ {y:qc},qcU y→okL qcU (setS x1 0 y):=fun {y} hy=>⟨by rw [qcq];omega,qfT h1 hy⟩
 refine EvQ.bind (qad 4 hc hs) ?_
 rintro ⟨i11,i12,i13⟩ ⟨_,hs⟩
 dsimp only at hs ⊢
 refine EvQ.bif (fun _=>EvQ.bind (qad 2 hc hs) ?_) (fun _=>EvQ.bif (fun _=>?_) (fun _=>EvQ.bif (fun _=>?_) (fun _=>?_)))
 ·rintro ⟨i14,i15,i16⟩ ⟨_,hs⟩
  exact EvQ.bindN (qay (j:=0) h00) (EvQ.done ⟨set0 ⟨qcn _,hx0.Bh,hx0.Av,hx0.Ay,hx0.To⟩,hs⟩)
 ·exact EvQ.bindN (qay (j:=0) h00) (EvQ.done ⟨set0 ⟨hx0.Aq,qX (x:=-1) (by decide) (by decide),hx0.Av,hx0.Ay,hx0.To⟩,hs⟩)
 ·exact EvQ.bindE (qef h) (EvQ.bindN (qay (j:=0) h00) (EvQ.done ⟨set0 ⟨hx0.Aq,hx0.Bh,hx0.Av,hx0.Ay,⟨by simp,fun y hy=>by obtain rfl:=List.mem_singleton.1 hy;exact qX (by omega) (by omega)⟩⟩,hs⟩))
 ·refine EvQ.bind (grow (11-x1.length) x1 (by omega) hn h1) (fun x3 hx3=>EvQ.done ⟨⟨by dsimp only;omega,hx3.2⟩,hs⟩)
structure CaseI (b:qb) (es:List qc) (path:List Int):Prop where
 blk:BlkO b
 es:okL qcU es
 l1:1≤path.length
 l2:path.length≤30
 pk:∀ y,y ∈ path→okI y
theorem qpD (hc:CodeOk code):EvQ (fun n=>qe5 n code) (fun o=>CaseI o.1 o.2.1 o.2.2):=by
 obtain ⟨s,h1,hs⟩:=qnk hc
 unfold qe5
 refine EvQ.bindE h1 (EvQ.bind (qpL hc hs) ?_)
 rintro ⟨b,i2,i3⟩ ⟨hb,hs⟩
 dsimp only at hb hs ⊢
 have bad:CaseI b [] [0]:=⟨hb,⟨jw _,fun _ h=>by cases h⟩,by simp,by simp,fun y hy=>by obtain rfl:=List.mem_singleton.1 hy;exact qX (by decide) (by decide)⟩
 refine EvQ.bind (R:=fun o:Bool=>o=true∨(blockB b=true∧1≤(places b.Aa).length)) ?_ ?_
 ·refine EvQ.bindE (qgg hb.ok) ?_
  cases h:blockB b
  ·exact EvQ.tt rfl (EvQ.done (.inl rfl))
  ·refine EvQ.ff rfl (EvQ.bindE (qef h) (EvQ.done ?_))
   rcases Nat.eq_zero_or_pos (places b.Aa).length with h0|h0
   ·exact .inl (by rw [h0];rfl)
   ·exact .inr ⟨rfl,h0⟩
 intro b1 hb1
 refine EvQ.bif (fun _=>EvQ.done bad) (fun hf=>?_)
 obtain ⟨h,h0⟩:blockB b=true∧1≤(places b.Aa).length:=by
  rcases hb1 with rfl|h
  ·cases hf
  ·exact h
 have hpl:=qU (qA (qK h))
 refine EvQ.bind (qoJ hb.ok h h0 hc hs) ?_
 rintro ⟨r3,i4,i5⟩ ⟨⟨l3,h3⟩,hs⟩
 refine EvQ.bind (qpW h h0 l3 h3 hc hs) ?_
 rintro ⟨r4,i6,i7⟩ ⟨h4,hs⟩
 refine EvQ.bind (qad 3 hc hs) ?_
 rintro ⟨i8,i9,i10⟩ ⟨_,hs⟩
 dsimp only at l3 h3 h4 hs ⊢
 refine EvQ.bind (R:=fun o:List Int × Int × Int=>((1≤o.1.length∧o.1.length≤20)∧∀ y,y ∈ o.1→PlI b y)∧SrcI code o.2.1 o.2.2) (EvQ.bif (fun _=>EvQ.bind (qoJ hb.ok h h0 hc hs) ?_) (fun _=>EvQ.done ⟨⟨l3,h3⟩,hs⟩)) ?_
 ·rintro ⟨r6,i19,i20⟩ h6
  exact EvQ.done h6
 rintro ⟨x1,i11,i12⟩ ⟨⟨lx,hx⟩,hs⟩
 dsimp only at lx hx hs ⊢
 refine EvQ.bind (qad 14 hc hs) ?_
 rintro ⟨i13,i14,i15⟩ ⟨_,hs⟩
 dsimp only at hs ⊢
 refine EvQ.bif (fun _=>EvQ.bindE (qef h) (EvQ.bind (qad _ hc hs) ?_)) (fun _=>EvQ.done ⟨hb,h4,lx.1,by dsimp only;omega,fun y hy=>(hx y hy).ok h⟩)
 rintro ⟨i16,i17,i18⟩ ⟨⟨⟨t0,t1⟩,_⟩,hs⟩
 dsimp only at t0 t1
 have t2:=t1 (by omega)
 exact EvQ.bindN (qbH (by omega)) (EvQ.done ⟨hb,h4,by show 1≤(_++_:List Int).length;rw [jg,ji];omega,by show (_++_:List Int).length≤_;rw [jg,ji];omega,qa3 (fun y hy=>(hx y hy).ok h) (qX (by omega) (by omega))⟩)
theorem qoA (hc:CodeOk code) (hl:code.length+1≤1048576):EvQ (fun n=>qeI n code) (fun o=>BlkO o.1∧okI o.2.2):=by
 unfold qeI
 refine EvQ.bind (qpD hc) ?_
 rintro ⟨b,es,p⟩ h
 dsimp only at h ⊢
 have hc3:CodeOk ([(⟨3⟩:IntK .u8)]++code):=⟨by rw [jg,ji];omega,fun x hx=>by
  rcases List.mem_append.1 hx with hx|hx
  ·obtain rfl:=List.mem_singleton.1 hx
   exact ⟨by decide,by decide⟩
  ·exact hc.2 x hx⟩
 refine EvQ.bindN (qbG (by rw [ji];omega)) ?_
 obtain ⟨s,h1,hs⟩:=qnk hc3
 refine EvQ.bindE h1 (EvQ.bind (qad 6 hc3 hs) ?_)
 rintro ⟨i2,i3,i4⟩ ⟨_,hs⟩
 dsimp only at hs ⊢
 have hl1:=h.l1
 have hl2:=h.l2
 have e:W64 ((p.length:Int)-1)=((p.length-1:Nat):Int):=by rw [qaq (by omega) (by omega)];omega
 rw [e]
 refine EvQ.bif (fun _=>EvQ.bindE (qeS h.blk.sm) (EvQ.bind (qad _ hc3 hs) ?_)) (fun _=>EvQ.bindN (qay (show p.length-1<p.length by omega)) (EvQ.done ⟨h.blk,h.pk _ (jp _)⟩))
 rintro ⟨i5,i6,i7⟩ _
 exact EvQ.done ⟨h.blk,qcn _⟩
theorem qoL (hc:CodeOk code) (hl:code.length+1≤1048576):EvQ (fun n=>qbg n code) (fun o=>BlkO o.1∧okI o.2):=by
 unfold qbg
 refine EvQ.bind (qoA hc hl) ?_
 rintro ⟨b,es,p⟩ h
 exact EvQ.done h
end
end Go.Fw


namespace Go.Fw
open Go
set_option maxRecDepth 100000
def selL (q:Nat→Bool) (m:Nat):List Int:=((List.range m).filter q).map fun (i:Nat)=>(i:Int)
theorem qom {q:Nat→Bool} {j:Nat}:(selL q j).length≤j:=by
 unfold selL
 rw [jB]
 exact jJ (jU _ _) (by rw [List.length_range];exact jf _)
def startsL (b:qb):List Int:=selL (fun i=>startB b (gt (places b.Aa) i)) (places b.Aa).length
def startsR (b:qb):List Int × Int:=bif blockB b then (startsL b,0) else ([],1)
theorem qkr {b:qb} (hok:qcb b):Ev (fun n=>qd8 n b) (startsR b):=by
 unfold qd8 startsR
 exact Ev.chk1 (qgg hok) fun h=>Ev.bind (qkU hok h) .done
end Go.Fw


namespace Go.Fw
open Go
set_option maxRecDepth 100000
end Go.Fw


namespace Go.Fw
open Go
set_option maxRecDepth 100000
def hasI (xs:List Int) (y:Int):Bool:=xs.any fun x=>x==y
instance:Inhabited qc:=⟨⟨0,0,[],[],[]⟩⟩
end Go.Fw


namespace Go.Fw
open Go Go.Proofs
open Go.RowKit (Below)
set_option maxRecDepth 100000
set_option maxHeartbeats 6400000
variable {n:Nat} {w:World} {cs1 cs2 cs3 cs4 cs5 cs6 cs7 cs8 cs9:List Value}
end Go.Fw


namespace Go.Fw
open Go Go.Proofs
open Go.RowKit (Below)
set_option maxRecDepth 100000
set_option maxHeartbeats 6400000
variable {n:Nat} {w:World} {cs1 cs2 cs3 cs4 cs5 cs6 cs7 cs8 cs9:List Value}
def qkJ (_:Nat) (code:(List (IntK .u8))):Option Bool :=
 some (decide ((code.length:Int) > 4096))
theorem qmy {code:(List (IntK .u8))} (ha1:GoT.R w (old w) code cs1) {r:Bool} (hF:qkJ n code=some r):RetV Tryz.prog 7 [GoT.v (List (IntK .u8)) cs1] w r:=by
 obtain ⟨p1,k1,rfl,s1⟩:=ha1
 exact zV 6 Tryz.func7 rfl fun h=>X0 11 rfl (rb h hF rfl)
def qdW (list:(List Int)) (x:Int):Nat→Int→Option (Flow Bool Int)
 | 0,_=>none
 | n+1,i1 =>
  bif decide (i1<(list.length:Int)) then
   (idx list i1).bind fun y1 =>
   bif (y1==x) then some (.ret true) else
   qdW list x n (W64 (i1+1))
  else
   some (.nxt i1)
def qfy (n:Nat) (list:(List Int)) (x:Int):Option Bool :=
 (qdW list x n 0).bind fun o=>match o with
 | .ret r=>some r
 | .nxt _ =>
  some false
theorem qix {list:(List Int)} {x:Int} (ha1:GoT.R w (old w) list cs1) {r:Bool} (hF:qfy n list x=some r):RetV Tryz.prog 23 [GoT.v (List Int) cs1,.int .i64 x] w r:=by
 obtain ⟨p1,k1,rfl,s1⟩:=ha1
 refine zV 18 Tryz.func23 rfl fun h=>X0 9 rfl ?_
 obtain ⟨o1,hF,hK1⟩:=qe hF
 refine qt (rL (fun m e w'=>∃ (i1:Int),qdW list x m i1=some o1∧e=[(0,.slice p1 list.length k1),(1,.int .i64 x),(5,.int .i64 i1)]∧SH w w' []) n ⟨_,hF,rfl,h⟩ rfl ?_)
 rintro m1 e1 w1 ⟨i1,hF,rfl,h⟩
 rcases m1 with _|m1
 ·cases hF
 refine X0 8 rfl (qq rfl hF ?_ ?_)<;>intro hF
 ·refine X0 7 rfl ?_
  obtain ⟨y1,hy1,hF,he1,b1,_,q1,cs2,hp1,hq1,rfl,hc2⟩:=s1.ix hF
  refine zxe hp1 hq1 he1 rfl (zc 0 (hc2.below h.below) rfl (X0 3 rfl (qq rfl hF ?_ ?_)))<;>intro hF
  ·refine X0 4 rfl ?_
   obtain rfl:=qd hF;replace hF:=hK1
   exact rb h hF rfl
  exact X0 7 rfl (rK ⟨_,hF,rfl,h⟩ rfl)
 refine qz rfl ?_
 obtain rfl:=qd hF;replace hF:=hK1
 exact X0 4 rfl (rb h hF rfl)
def qfm (n:Nat) (l:qn) (d:qg):Option Int :=
 (qex n l d).bind fun r1 =>
 bif (!r1) then some (-1) else
 (qbq n d).bind fun r2 =>
 some (r2.length:Int)
theorem qjh {l:qn} {d:qg} (ha1:GoT.R w (old w) l cs1) (ha2:GoT.R w (old w) d cs2) {r:Int} (hF:qfm n l d=some r):RetV Tryz.prog 24 [GoT.v qn cs1,GoT.v qg cs2] w r:=by
 obtain ⟨p1,k1,rfl,s1⟩:=qbd ha1
 obtain ⟨p2,k2,p3,k3,p4,k4,rfl,s2,s3,s4⟩:=qai ha2
 refine zV 12 Tryz.func24 rfl fun h=>zSR (qV h rfl rfl fun w1 bb1 h=>qV h rfl rfl fun w2 bb2 h=>X2 7 1 0 h rfl (zcB h hF (qf1 (h.old ha1) (h.old ha2)) rfl fun r1 w3 h hF=>X0 2 rfl (qq rfl hF ?_ ?_)))<;>intro hF
 ·exact X0 4 rfl (ri h hF rfl)
 exact X1 4 0 h rfl (zcL h hF (qbN (h.old ha2)) rfl fun r2 w4 S1 p5 k5 h hF=>X0 3 rfl (ri h hF rfl))
def qaA (a_0:(List (IntK .u8))):Nat→qb→Int→Int→Int→Option (Flow Bool (qb × Int × Int × Int))
 | 0,_,_,_,_=>none
 | n+1,r18,i2,i3,i4 =>
  (qfm n (⟨r18.Ac.Ai⟩:qn) (⟨r18.Aa.Ab,r18.Aa.Aj,r18.Aa.Af⟩:qg)).bind fun r19 =>
  bif decide (i4<r19) then
   (qdU n r18 i4).bind fun o=>match o with
    | (r21,_) =>
     (qfy n r21 i2).bind fun r23 =>
     bif (!r23) then qaA a_0 n r18 i2 i3 (W64 (i4+1)) else
     (qbs n r18 i4).bind fun o=>match o with
      | (r25,r26) =>
       (qbg n a_0).bind fun o=>match o with
        | (r28,r29) =>
         bif (r26 != 0) then some (.ret false) else
         qaA a_0 n r28 r29 (W64 (i3+r25)) (W64 (i4+1))
  else
   some (.nxt (r18,i2,i3,i4))
def qfH (n:Nat) (a_0:(List (IntK .u8))):Option Bool :=
 (qkJ n a_0).bind fun r1 =>
 bif r1 then some true else
 (qbg n a_0).bind fun o=>match o with
  | (r3,r4) =>
   (qbs n r3 r4).bind fun o=>match o with
    | (r6,r7) =>
     (qbg n a_0).bind fun o=>match o with
      | (r9,r10) =>
       bif (r7 != 0) then
        (qdD n r9 r10).bind fun o=>match o with
         | (_,r13) =>
          (
           bif (r7==r13) then some (r6==0) else
           some false).bind fun b1 =>
          some b1
       else
        bif decide (r6 ≥ 1000000) then some (r6==1000000) else
        (qd8 n r9).bind fun o=>match o with
         | (r15,_) =>
          (qfy n r15 r10).bind fun r17 =>
          (
           bif r17 then some 1 else
           some 0).bind fun i1 =>
          (qaA a_0 n r9 r10 i1 0).bind fun o=>match o with
          | .ret r=>some r
          | .nxt (r18,_,i3,_) =>
           bif (i3==r6) then
            (qde n r18).bind fun r30 =>
            some r30
           else
            some false
theorem qiD {a_0:(List (IntK .u8))} (ha1:GoT.R w (old w) a_0 cs1) {r:Bool} (hF:qfH n a_0=some r):RetV Tryz.prog 5 [GoT.v (List (IntK .u8)) cs1] w r:=by
 obtain ⟨p1,k1,rfl,s1⟩:=ha1
 refine zV 104 Tryz.func5 rfl fun h=>X0 8 rfl (zcB h hF (qmy ⟨_,_,rfl,(h.oldS s1)⟩) rfl fun r1 w1 h hF=>qaY (qq rfl hF ?_ ?_))<;>intro hF
 ·exact X0 4 rfl (rb h hF rfl)
 refine X0 4 rfl ?_
 have hg1:Rg (old w) w (old w) w:=.start (fun _ h=>h)
 obtain ⟨r2,hr2,hF⟩:=qe hF
 obtain ⟨r3,r4⟩:=r2
 refine qgP (r3,r4) hg1 h (cB 19 rfl) (qfc (hg1.atB h) ⟨_,_,rfl,(hg1.inBS h s1)⟩ hr2) rfl rfl rfl rfl fun w2 us1 S1 h hv1=>?_
 obtain ⟨cs2,us2,rfl,hr3,hv2⟩:=qh4 hv1
 have hr4:=hr3
 obtain ⟨p2,k2,p3,k3,p4,k4,p5,k5,p6,k6,rfl,s2,s3,s4,s5,s6⟩:=qI hr3
 replace h:=h.grpAdd 0 rfl hr4
 obtain ⟨cs3,rfl,hr5⟩:=qg0 hv2
 have hr6:=hr5
 obtain rfl:=hr5
 refine zp3 rfl (qC qa h rfl rfl rfl fun w3 bb1 h=>zs 0 h rfl fun w4 h=>X1 6 0 h rfl ?_)
 obtain ⟨r5,hr7,hF⟩:=qe hF
 obtain ⟨r6,r7⟩:=r5
 refine qel (r6,r7) h (cB 20 rfl) (qh7 (h.grp 1 0 rfl rfl) hr7) rfl rfl rfl rfl fun w5 S2 us3 hv3 hr8=>?_
 obtain ⟨S3,us4,rfl,hv4,hr9⟩:=hv3.consI hr8
 obtain ⟨rfl,h⟩:=hv4.lastI hr9
 refine X0 9 rfl ?_
 obtain ⟨r8,hr11,hF⟩:=qe hF
 obtain ⟨r9,r10⟩:=r8
 refine qgP (r9,r10) hg1 h (cB 19 rfl) (qfc (hg1.atB h) ⟨_,_,rfl,(hg1.inBS h s1)⟩ hr11) rfl rfl rfl rfl fun w6 us5 S5 h hv6=>?_
 obtain ⟨cs4,us6,rfl,hr12,hv7⟩:=qh4 hv6
 have hr13:=hr12
 obtain ⟨p7,k7,p8,k8,p9,k9,p10,k10,p11,k11,rfl,s7,s8,s9,s10,s11⟩:=qI hr12
 replace h:=h.grpAdd 0 rfl hr13
 obtain ⟨cs5,rfl,hr14⟩:=qg0 hv7
 have hr15:=hr14
 obtain rfl:=hr14
 refine zp3 rfl (zs 1 h rfl fun w7 h=>X0 8 rfl (qq rfl hF ?_ ?_))<;>intro hF
 ·refine X1 4 1 h rfl ?_
  obtain ⟨r11,hr16,hF⟩:=qe hF
  obtain ⟨r12,r13⟩:=r11
  refine qel (r12,r13) h (cB 21 rfl) (qkj (h.grp 0 0 rfl rfl) hr16) rfl rfl rfl rfl fun w8 S6 us7 hv8 hr17=>?_
  obtain ⟨S7,us8,rfl,hv9,hr18⟩:=hv8.consI hr17
  obtain ⟨rfl,h⟩:=hv9.lastI hr18
  refine X0 7 rfl ?_
  obtain ⟨KF1,hKF1,o1,hF,hK1⟩:=bindE hF
  refine qa4 (fun e w'=>∃ (b1:Bool),KF1 b1=some r∧e=[(2,.bool b1)]∧SH w w' []) ?_ ?_
  ·refine X0 5 rfl (qj (t:=46) hF rfl ?_ ?_)<;>intro hF
   ·refine X0 7 rfl ?_
    replace h:=h.pick [0,1] rfl
    replace h:=h.pick [] rfl
    obtain rfl:=qd hF
    exact rG ⟨_,hK1,rfl,h⟩ rfl
   refine X0 5 rfl ?_
   replace h:=h.pick [0,1] rfl
   replace h:=h.pick [] rfl
   obtain rfl:=qd hF
   exact rG ⟨_,hK1,rfl,h⟩ rfl
  rintro e1 w9 ⟨b1,hF,rfl,h⟩
  subst hKF1
  exact rb h hF rfl
 refine X0 7 rfl (qq rfl hF ?_ ?_)<;>intro hF
 ·refine X0 6 rfl ?_
  replace h:=h.pick [1] rfl
  exact rb h hF rfl
 refine X1 8 1 h rfl ?_
 obtain ⟨r14,hr20,hF⟩:=qe hF
 obtain ⟨r15,r16⟩:=r14
 refine qel (r15,r16) h (cB 22 rfl) (qi9 (h.grp 0 0 rfl rfl) hr20) rfl rfl rfl rfl fun w10 S9 us9 hv11 hr21=>?_
 obtain ⟨S10,S11,p12,k12,us10,rfl,hv12,hr22⟩:=hv11.consL hr21
 obtain ⟨rfl,h⟩:=hv12.lastI hr22
 refine X0 11 rfl (zcB h hF (qix (h.own 0 rfl)) rfl fun r17 w11 h hF=>qaY ?_)
 obtain ⟨KF2,hKF2,o3,hF,hK3⟩:=bindE hF
 refine qa4 (fun e w'=>∃ (i1:Int),KF2 i1=some r∧e=[(0,.slice p1 a_0.length k1),(3,.pointer (some ⟨bb1,0,none⟩)),(4,.int .i64 r10),(5,.int .i64 r6),(9,.int .i64 i1)]∧SH w w' [Ch.grp (old w) S5 [fct (r9:qb) [.slice p7 r9.Ac.Ai.length k7,.slice p8 r9.Aa.Ab.length k8,.slice p9 r9.Aa.Aj.length k9,.slice p10 r9.Aa.Af.length k10,.slice p11 r9.Ah.length k11]],Ch.box bb1 (ql r9 p7 p8 p9 p10 p11 k7 k8 k9 k10 k11) 34]) ?_ ?_
 ·refine qq rfl hF ?_ ?_<;>intro hF
  ·refine X0 3 rfl ?_
   replace h:=h.pick [0,1,2] rfl
   replace h:=h.pick [1,2] rfl
   obtain rfl:=qd hF
   exact rG ⟨_,hK3,rfl,h⟩ rfl
  refine qdk ?_
  replace h:=h.pick [0,1,2] rfl
  replace h:=h.pick [1,2] rfl
  obtain rfl:=qd hF
  exact rG ⟨_,hK3,rfl,h⟩ rfl
 rintro e3 w20 ⟨i1,hF,rfl,h⟩
 subst hKF2
 refine X0 5 rfl ?_
 obtain ⟨o2,hF,hK2⟩:=qe hF
 refine qt (rL (fun m e w'=>∃ (S13:Nat→Prop) (r18:qb) (p13:Option Addr) (k13:Nat) (p14:Option Addr) (k14:Nat) (p15:Option Addr) (k15:Nat) (p16:Option Addr) (k16:Nat) (p17:Option Addr) (k17:Nat) (i2:Int) (i3:Int) (i4:Int),qaA a_0 m r18 i2 i3 i4=some o2∧e=[(0,.slice p1 a_0.length k1),(3,.pointer (some ⟨bb1,0,none⟩)),(4,.int .i64 i2),(5,.int .i64 r6),(9,.int .i64 i3),(12,.int .i64 i4)]∧SH w w' [Ch.grp (old w) S13 [fct (r18:qb) [.slice p13 r18.Ac.Ai.length k13,.slice p14 r18.Aa.Ab.length k14,.slice p15 r18.Aa.Aj.length k15,.slice p16 r18.Aa.Af.length k16,.slice p17 r18.Ah.length k17]],Ch.box bb1 (ql r18 p13 p14 p15 p16 p17 k13 k14 k15 k16 k17) 34]) n ⟨_,_,_,_,_,_,_,_,_,_,_,_,_,_,_,hF,rfl,h⟩ rfl ?_)
 rintro m1 e2 w12 ⟨S13,r18,p13,k13,p14,k14,p15,k15,p16,k16,p17,k17,i2,i3,i4,hF,rfl,h⟩
 rcases m1 with _|m1
 ·cases hF
 refine X2 8 1 1 h rfl (zcI h hF (qjh ⟨_,_,rfl,(qbL (h.grp 0 0 rfl rfl)).1.1⟩ ⟨[.slice p14 r18.Aa.Ab.length k14],[.slice p15 r18.Aa.Aj.length k15,.slice p16 r18.Aa.Af.length k16],rfl,⟨_,_,rfl,(qbL (h.grp 0 0 rfl rfl)).2.1.1⟩,⟨[.slice p15 r18.Aa.Aj.length k15],[.slice p16 r18.Aa.Af.length k16],rfl,⟨_,_,rfl,(qbL (h.grp 0 0 rfl rfl)).2.2.1.1⟩,⟨_,_,rfl,(qbL (h.grp 0 0 rfl rfl)).2.2.2.1.1⟩⟩⟩) rfl fun r19 w13 h hF=>X0 2 rfl (qq rfl hF ?_ ?_))<;>intro hF
 ·refine X1 7 1 h rfl ?_
  obtain ⟨r20,hr26,hF⟩:=qe hF
  obtain ⟨r21,r22⟩:=r20
  refine qel (r21,r22) h (cB 10 rfl) (qhP (h.grp 0 0 rfl rfl) hr26) rfl rfl rfl rfl fun w14 S14 us11 hv14 hr27=>?_
  obtain ⟨S15,S16,p18,k18,us12,rfl,hv15,hr28⟩:=hv14.consL hr27
  obtain ⟨rfl,h⟩:=hv15.lastI hr28
  refine X0 11 rfl (zcB h hF (qix (h.own 0 rfl)) rfl fun r23 w15 h hF=>X0 2 rfl (qq rfl hF ?_ ?_))<;>intro hF
  ·refine qz rfl (X0 5 rfl ?_)
   replace h:=h.pick [1,2] rfl
   exact rK ⟨_,_,_,_,_,_,_,_,_,_,_,_,_,_,_,hF,rfl,h⟩ rfl
  refine X1 5 2 h rfl ?_
  obtain ⟨r24,hr31,hF⟩:=qe hF
  obtain ⟨r25,r26⟩:=r24
  refine qel (r25,r26) h (cB 20 rfl) (qh7 (h.grp 1 0 rfl rfl) hr31) rfl rfl rfl rfl fun w16 S18 us13 hv17 hr32=>?_
  obtain ⟨S19,us14,rfl,hv18,hr33⟩:=hv17.consI hr32
  obtain ⟨rfl,h⟩:=hv18.lastI hr33
  refine X0 9 rfl ?_
  obtain ⟨r27,hr35,hF⟩:=qe hF
  obtain ⟨r28,r29⟩:=r27
  refine qgP (r28,r29) hg1 h (cB 19 rfl) (qfc (hg1.atB h) ⟨_,_,rfl,(hg1.inBS h s1)⟩ hr35) rfl rfl rfl rfl fun w17 us15 S21 h hv20=>?_
  obtain ⟨cs6,us16,rfl,hr36,hv21⟩:=qh4 hv20
  have hr37:=hr36
  obtain ⟨p19,k19,p20,k20,p21,k21,p22,k22,p23,k23,rfl,s12,s13,s14,s15,s16⟩:=qI hr36
  replace h:=h.grpAdd 0 rfl hr37
  obtain ⟨cs7,rfl,hr38⟩:=qg0 hv21
  have hr39:=hr38
  obtain rfl:=hr38
  refine zp3 rfl (zs 3 h rfl fun w18 h=>X0 8 rfl (qq rfl hF ?_ ?_))<;>intro hF
  ·refine X0 4 rfl ?_
   replace h:=h.pick [1,3] rfl
   obtain rfl:=qd hF;replace hF:=hK2
   exact rb h hF rfl
  refine X0 13 rfl ?_
  replace h:=h.pick [0,1,3] rfl
  replace h:=h.pick [0,2] rfl
  exact rK ⟨_,_,_,_,_,_,_,_,_,_,_,_,_,_,_,hF,rfl,h⟩ rfl
 refine qz rfl ?_
 obtain rfl:=qd hF;replace hF:=hK2
 refine X0 6 rfl (qj (t:=100) hF rfl ?_ ?_)<;>intro hF
 ·refine X1 3 1 h rfl (zcB h hF (qic (h.grp 0 0 rfl rfl)) rfl fun r30 w19 h hF=>X0 3 rfl ?_)
  replace h:=h.pick [1] rfl
  exact rb h hF rfl
 refine X0 5 rfl ?_
 replace h:=h.pick [1] rfl
 exact rb h hF rfl
end Go.Fw


namespace Go.Fw
open Go
set_option maxRecDepth 100000
theorem qlO {b:qb} {j:Nat}:(succL b j).Pairwise (·<·):=by
 unfold succL
 cases (gt (places b.Aa) j).drives
 ·cases decide ((gt (places b.Aa) j).instance_<0)
  ·cases dataB (cellAt b (gt (places b.Aa) j).instance_) (gt (places b.Aa) j).pin
   ·exact List.Pairwise.nil
   ·exact List.pairwise_singleton _ _
  ·exact List.Pairwise.nil
 ·refine List.Pairwise.filter _ ?_
  unfold sinksL
  rw [List.pairwise_map]
  exact (List.Pairwise.filter _ (List.pairwise_lt_range (n:=(places b.Aa).length))).imp (fun h=>by omega)
theorem PlI.in {b:qb} {p:Int} (h:PlI b p):inPl b p=true:=by
 unfold inPl
 rw [qbl]
 unfold PlI at h
 omega
section
variable {code:List (IntK .u8)}
end
end Go.Fw


namespace Go.Fw
open Go
set_option maxRecDepth 100000
theorem qox {b:qb} (hok:qcb b) (h:blockB b=true) :
  (∀ k,k<npl b→Ev (fun n=>qdD n b (k:Int)) (0,7)∧Ev (fun n=>qbs n b (k:Int)) (0,7)) ∨
  (∃ R,∃ d:Nat→Nat,Topo (succL b) (npl b) R∧R.length=npl b∧(∀ j,j<npl b→PathEq (succL b) 1000000 (stC b) R d j)∧(∀ k,k<npl b→Ev (fun n=>qbs n b (k:Int)) ((d k:Int),0))∧Ev (fun n=>qde n b) true):=by
 have hl:npl b≤78:=qU (qA (qK h))
 obtain ⟨ls,lo,de,ev⟩:=qkP h
 have hpl:∀ {p:Int},Ev (fun n=>qcw n (some ⟨b,places b.Aa,ls,lo,de,[]⟩) p) (inPl b p):=fun {p}=>by
  simp only [qcw,qcS,qcZ,je,qbK (show (places b.Aa).length≤9223372036854775807 from by have:(places b.Aa).length≤78:=hl;omega)]
  exact .done
 have hin:∀ {k:Nat},k<npl b→inPl b (k:Int)=true:=fun {k} hk=>by
  unfold inPl
  rw [qbl]
  unfold npl at hk
  omega
 obtain ⟨out,h1,h2,h3⟩:=qn5 hok h
 obtain ⟨r,h4,R,h5,h6⟩:=qnw (V:=⟨b,places b.Aa,ls,lo,de,[]⟩) h rfl rfl
 obtain ⟨k1,k2⟩:=qnz h5 h1 h2
 rcases h6 with ⟨rfl,h7⟩|⟨rfl,h7,h8⟩
 ·obtain ⟨d,d1,d2⟩:=qnX (V:=⟨b,places b.Aa,ls,lo,de,[]⟩) h rfl rfl h5 (h5.full h7)
  refine .inr ⟨R,d,h5,h7,d1,fun k hk=>?_,?_⟩
  ·unfold qbs
   have hp:=hpl (p:=(k:Int))
   rw [hin hk] at hp
   refine Ev.bind (qg4 hok) (Ev.ff (by rw [h];rfl) (Ev.bind ev (Ev.bind hp (Ev.ff rfl (Ev.bind h4 (Ev.ff rfl (Ev.bindN rfl (Ev.bindN (qjT (show npl b≤2147483648 by omega)) (Ev.bind d2 ?_)))))))))
   exact Ev.bindN (qeP hk) .done
  ·unfold qde
   exact Ev.bind (qg4 hok) (Ev.ff (by rw [h];rfl) (Ev.bind ev (Ev.bind h4 .done)))
 ·have hout:=k2 h7 h8
  refine .inl fun k hk=>⟨?_,?_⟩
  ·have hsc:Ev (fun n=>qfG n b [] (k:Int)) 0:=(qj4 hok).cast (by rw [h,hin hk];rfl)
   unfold qdD
   exact Ev.bind hsc (Ev.ff rfl (Ev.bind h3 (Ev.tt (by rw [decide_eq_false (by omega)];rfl) .done)))
  ·have hp:=hpl (p:=(k:Int))
   rw [hin hk] at hp
   unfold qbs
   exact Ev.bind (qg4 hok) (Ev.ff (by rw [h];rfl) (Ev.bind ev (Ev.bind hp (Ev.ff rfl (Ev.bind h4 (Ev.tt rfl .done))))))
theorem qkc {b:qb} {j k:Nat}:(succL b j).count (k:Int)=if hasI (succL b j) (k:Int)=true then 1 else 0:=by
 have hn:(succL b j).Nodup:=(qlO (b:=b) (j:=j)).imp (fun h=>by omega)
 by_cases hm:(k:Int) ∈ succL b j
 ·have e:hasI (succL b j) (k:Int)=true:=by unfold hasI;exact List.any_eq_true.2 ⟨_,hm,by simp⟩
  rw [if_pos e]
  have h1:=List.nodup_iff_count.1 hn (k:Int)
  have h2:=List.count_pos_iff.2 hm
  omega
 ·rw [if_neg (fun he=>by
   obtain ⟨x,hx,e⟩:=List.any_eq_true.1 he
   rw [beq_iff_eq] at e
   exact hm (e ▸ hx)),List.count_eq_zero.2 hm]
theorem qnq {xs:List Int} {x:Int} (hl:xs.length≤1048576):Ev (fun n=>qfy n xs x) (hasI xs x):=by
 have hL:Ev (fun n=>qdW xs x n 0) (bif xs.all (fun y=>!(y==x)) then .nxt (xs.length:Int) else .ret true) :=
  qhv (fun n=>by simp only [qdW,qr (jf _),cond_false]) (fun j hj X hX=>by
   simp only [qdW,qp hj,cond_true,qay hj,je,wS j]
   cases xs[j]==x
   ·exact hX
   ·exact .done)
 have e:hasI xs x = !(xs.all fun y=>!(y==x)):=by
  unfold hasI
  rw [jk]
  simp
 rw [e]
 unfold qfy
 refine Ev.bind hL ?_
 cases (xs.all fun y=>!(y==x))<;>exact .done
section
variable {code:List (IntK .u8)}
def sumU (b:qb) (d:Nat→Nat) (k j:Nat):Nat:=sumP (succL b) d (List.range j) k
theorem qlk {b:qb} {d:Nat→Nat} {k j:Nat}:sumU b d k (j+1)=sumU b d k j+(succL b j).count (k:Int)*d j:=by
 unfold sumU
 rw [jP,qlA]
theorem qoX {b:qb} {d:Nat→Nat} {k j:Nat} (hd:∀ i,i<j→d i≤1000000):sumU b d k j≤j*1000000:=by
 induction j with
 | zero=>exact jf _
 | succ j ih =>
  rw [qlk,qkc]
  have:=ih fun i hi=>hd i (by omega)
  have:=hd j (by omega)
  split<;>omega
theorem qpF {b:qb} {k:Nat} {d:Nat→Nat} {st:Nat} (hok:qcb b) (h:blockB b=true) (hst:st≤1) (hdl:∀ j,j<npl b→d j≤1000000) (hp:∀ j,j<npl b→Ev (fun n=>qbs n b (j:Int)) ((d j:Int),0)) (hd:Ev (fun n=>qbg n code) (b,(k:Int))) :
  Ev (fun n=>qaA code n b (k:Int) (st:Int) 0) (.nxt (b,(k:Int),((st+sumU b d k (npl b):Nat):Int),(npl b:Int))):=by
 have hl:npl b≤78:=qU (qA (qK h))
 have pc:Ev (fun n=>qfm n (⟨b.Ac.Ai⟩:qn) (⟨b.Aa.Ab,b.Aa.Aj,b.Aa.Af⟩:qg)) (npl b:Int):=by
  unfold qfm
  have hde:=qhV hok.Ac hok.Aa
  rw [qK h] at hde
  exact Ev.bind hde (Ev.ff rfl (Ev.bind (qeS (qA (qK h))) (Ev.now (by rw [jB]))))
 refine qpK (τ:=Int) (len:=npl b) (Lf:=fun n t i=>qaA code n b (k:Int) t i) (st:=fun j=>((st+sumU b d k j:Nat):Int)) (Ev.succ ?_) (fun j hj X hX=>Ev.succ ?_)
 ·simp only [qaA]
  exact Ev.bind pc (Ev.ff (qr (jf _)) .done)
 ·simp only [qaA,wS j]
  have sD:=qjf (b:=b) (p:=(j:Int)) hok
  have hin:inPl b (j:Int)=true:=by
   unfold inPl
   rw [qbl]
   unfold npl at hj
   omega
  have e:dsR b (j:Int)=(succL b j,0):=by unfold dsR;rw [h,hin];rfl
  rw [e] at sD
  have hsl:=qe3 h (j:=j)
  have hc:=qkc (b:=b) (j:=j) (k:=k)
  have hsu:=qlk (b:=b) (d:=d) (k:=k) (j:=j)
  have hle:=qoX (b:=b) (d:=d) (k:=k) (j:=j) (fun i hi=>hdl i (by omega))
  have hdj:=hdl j hj
  refine Ev.bind pc (Ev.tt (qp hj) (Ev.bind sD (Ev.bind (qnq (xs:=succL b j) (by omega)) ?_)))
  cases hh:hasI (succL b j) (k:Int)
  ·rw [hh,if_neg (by decide)] at hc
   rw [hc,Nat.zero_mul,jN] at hsu
   rw [hsu] at hX
   exact Ev.tt rfl hX
  ·rw [hh,if_pos rfl] at hc
   rw [hc,Nat.one_mul] at hsu
   have ew:W64 (((st+sumU b d k j:Nat):Int)+(d j:Int))=((st+sumU b d k (j+1):Nat):Int):=by
    rw [hsu,qaq (by omega) (by omega)];omega
   refine Ev.ff rfl (Ev.bind (hp j hj) (Ev.bind hd (Ev.ff rfl ?_)))
   dsimp only
   rw [ew]
   exact hX
theorem qof {q:Nat→Bool} {m k:Nat} (hk:k<m):hasI (selL q m) (k:Int)=q k:=by
 unfold hasI
 rw [jk,List.any_eq_true]
 constructor
 ·rintro ⟨x,hx,e⟩
  rw [beq_iff_eq] at e
  subst e
  unfold selL at hx
  obtain ⟨j,hj,ej⟩:=List.mem_map.1 hx
  have:j=k:=by omega
  subst this
  exact (List.mem_filter.1 hj).2
 ·intro hq
  exact ⟨(k:Int),List.mem_map.2 ⟨k,List.mem_filter.2 ⟨List.mem_range.2 hk,hq⟩,rfl⟩,by simp⟩
theorem qjU (hk:rngL rng8 code):Ev (fun n=>qfH n code) true:=by
 unfold qfH qkJ
 refine Ev.bindN rfl (Ev.bif (fun _=>.done) (fun hl=>?_))
 have hl:code.length≤4096:=by have:=of_decide_eq_false hl;omega
 obtain ⟨⟨b,p⟩,hd,hb,hp⟩:=qoL (code:=code) ⟨by omega,hk.2⟩ (by omega)
 dsimp only at hb
 have hok:=hb.ok
 have bad:∀ {c:Int},(c != 0)=true→Ev (fun n=>qdD n b p) (0,c)→Ev (fun n=>qbs n b p) (0,c)→Ev (fun n=>(qbg n code).bind fun o=>match o with
   | (r3,r4)=>(qbs n r3 r4).bind fun o=>match o with
    | (r6,r7)=>(qbg n code).bind fun o=>match o with
     | (r9,r10)=>bif (r7 != 0) then (qdD n r9 r10).bind fun o=>match o with
        | (_,r13)=>(bif (r7==r13) then some (r6==0) else some false).bind fun b1=>some b1
       else bif decide (r6 ≥ 1000000) then some (r6==1000000) else
        (qd8 n r9).bind fun o=>match o with
         | (r15,_)=>(qfy n r15 r10).bind fun r17=>(bif r17 then some 1 else some 0).bind fun i1=>(qaA code n r9 r10 i1 0).bind fun o=>match o with
          | .ret r=>some r
          | .nxt (r18,_,i3,_)=>bif (i3==r6) then (qde n r18).bind fun r30=>some r30 else some false) true :=
  fun {c} hc hs hi=>Ev.bind hd (Ev.bind hi (Ev.bind hd (Ev.tt hc (Ev.bind hs (Ev.bind (b:=true) (Ev.tt (by simp) (Ev.now rfl)) .done)))))
 cases h:blockB b
 ·refine bad (c:=1) rfl ?_ ?_
  ·unfold qdD
   exact Ev.bind (qj4 hok) (by rw [h];exact Ev.tt rfl .done)
  ·unfold qbs
   exact Ev.bind (qg4 hok) (Ev.tt (by rw [h];rfl) .done)
 have hl78:npl b≤78:=qU (qA (qK h))
 cases hin:inPl b p
 ·obtain ⟨ls,lo,de,ev⟩:=qkP h
  have hpl:Ev (fun n=>qcw n (some ⟨b,places b.Aa,ls,lo,de,[]⟩) p) (inPl b p):=by
   simp only [qcw,qcS,qcZ,je,qbK (show (places b.Aa).length≤9223372036854775807 from by have:(places b.Aa).length≤78:=hl78;omega)]
   exact .done
  refine bad (c:=2) rfl ?_ ?_
  ·unfold qdD
   exact Ev.bind (qj4 hok) (by rw [h,hin];exact Ev.tt rfl .done)
  ·unfold qbs
   exact Ev.bind (qg4 hok) (Ev.ff (by rw [h];rfl) (Ev.bind ev (Ev.bind hpl (Ev.tt (by rw [hin];rfl) .done))))
 obtain ⟨k,hkn,rfl⟩:∃ k:Nat,k<npl b∧p=(k:Int):=by
  unfold inPl at hin
  rw [qbl] at hin
  have:((places b.Aa).length:Int)=(npl b:Int):=rfl
  exact ⟨p.toNat,by omega,by omega⟩
 rcases qox hok h with herr|⟨R,d,ht,hR,hpe,hpp,hac⟩
 ·exact bad (c:=7) rfl (herr k hkn).1 (herr k hkn).2
 ·have hdl:∀ j,j<npl b→d j≤1000000:=fun j hj=>by have:=hpe j hj;unfold PathEq at this;omega
  refine Ev.bind hd (Ev.bind (hpp k hkn) (Ev.bind hd (Ev.ff rfl (Ev.bif (fun hbig=>Ev.now ?_) (fun hsm=>?_)))))
  ·have h1:=of_decide_eq_true hbig
   have h2:=hdl k hkn
   have:d k=1000000:=by omega
   rw [this];rfl
  ·have h1:d k<1000000:=by have:=of_decide_eq_false hsm;omega
   have sS:=qkr hok
   have eS:startsR b=(startsL b,0):=by unfold startsR;rw [h];rfl
   rw [eS] at sS
   have hsl:(startsL b).length≤npl b:=qom
   have hh:hasI (startsL b) (k:Int)=startB b (gt (places b.Aa) k):=qof hkn
   have e1:Ev (fun _=>bif hasI (startsL b) (k:Int) then some (1:Int) else some 0) (stC b k:Int):=by
    rw [hh]
    unfold stC
    cases startB b (gt (places b.Aa) k)
    ·exact .done
    ·exact .done
   have hst:stC b k≤1:=by unfold stC;split<;>omega
   have hpm:(List.range (npl b)).Perm R:=qm4 List.nodup_range ht.nodup (fun i=>⟨fun hi=>ht.full hR i (List.mem_range.1 hi),fun hi=>List.mem_range.2 (ht.lt i hi)⟩)
   have hsum:d k=stC b k+sumU b d k (npl b):=by
    have:=hpe k hkn
    unfold PathEq at this
    unfold sumU
    rw [qnI hpm]
    omega
   refine Ev.bind sS (Ev.bind (qnq (by omega)) (Ev.bind e1 (Ev.bind (qpF hok h hst hdl hpp hd) (Ev.tt ?_ (Ev.bind hac .done)))))
   rw [←hsum]
   simp
end
end Go.Fw
