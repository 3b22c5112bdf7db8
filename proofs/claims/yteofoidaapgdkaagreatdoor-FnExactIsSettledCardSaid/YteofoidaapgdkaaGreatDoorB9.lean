/- By a program of mine (gen.py): for each function a plain function and the proof that the code computes it. -/
import Derived.Test.YteofoidaapgdkaaGreatDoorA2
import Derived.Test.YteofoidaapgdkaaGreatDoorFw30
open Option renaming bind_some → jd
open Nat renaming le_refl → je, mul_le_mul_right → jq, le_of_ble_eq_true → jt, lt_of_lt_of_le → jw, succ_mul → jI, zero_add → jZ, le_trans → Jc
open Bool renaming and_eq_true → jf, eq_iff_iff → jj, true_and → jx, not_eq_true' → jC, not_true → Ja
open Go.Result renaming andThen_ok → jg
open List renaming length_append → jh, getElem?_eq_getElem → ji, mem_cons_of_mem → jo, getElem_mem → jp, length_singleton → jr, append_assoc → js, getElem?_append_left → ju, length_map → jv, mem_cons_self → jy, getElem?_take → jz, getElem?_append_right → jA, getD_eq_getElem?_getD → jB, take_succ_eq_append_getElem → jD, getElem?_toArray → jE, eq_nil_of_length_eq_zero → jG, take_length → jH, length_replicate → jJ, all_eq_true → jK, drop_eq_getElem_cons → jM, not_mem_nil → jN, size_toArray → jO, mem_append_left → jP, getElem_of_mem → jR, map_append → jS, mem_of_getElem? → jT, mem_cons → jV, length_take → jX, ext_getElem → jY
open Go.Sem renaming run_bind → jk, run_pure → jm
open Int renaming toNat_natCast → jn, tdiv_eq_ediv_of_nonneg → jF, mul_nonneg → jQ, mul_assoc → jU, mul_le_mul → jW, le_refl → Jb, add_zero → Jd
open Array renaming getElem?_append_left → jL

namespace Go.Fw
open Go Go.Proofs
open Go.RowKit (Below)
set_option maxRecDepth 100000
set_option maxHeartbeats 1600000
variable {n:Nat} {w:World} {cs1 cs2 cs3 cs4 cs5 cs6 cs7 cs8 cs9:List Value}
def qdy (l:qv) (i1:Int):Nat→Int→Option (Flow Bool Int)
 | 0,_=>none
 | n+1,i2 =>
  bif decide (i2<i1) then
   (idx l.Ap i2).bind fun y2 =>
   (idx l.Ap i1).bind fun y3 =>
   bif (y2.Az.toList==y3.Az.toList) then some (.ret false) else
   qdy l i1 n (W64 (i2+1))
  else
   some (.nxt i2)
def qdz (l:qv):Nat→Int→Option (Flow Bool Int)
 | 0,_=>none
 | n+1,i1 =>
  bif decide (i1<(l.Ap.length:Int)) then
   (idx l.Ap i1).bind fun y1 =>
   (qlt n y1).bind fun r1 =>
   bif (!r1) then some (.ret false) else
   (qdy l i1 n 0).bind fun o=>match o with
   | .ret r=>some (.ret r)
   | .nxt _ =>
    qdz l n (W64 (i1+1))
  else
   some (.nxt i1)
def qid (n:Nat) (l:qv):Option Bool :=
 (qdz l n 0).bind fun o=>match o with
 | .ret r=>some r
 | .nxt _ =>
  some (decide ((l.Ap.length:Int)≤8))
theorem qoT {l:qv} (ha1:GoT.R w (old w) l cs1) {r:Bool} (hF:qid n l=some r):RetV Tryz.prog 215 [GoT.v qv cs1] w r:=by
 obtain ⟨p1,k1,rfl,s1⟩:=qbF ha1
 refine zV 41 Tryz.func215 rfl fun h=>zSR (qt h rfl rfl fun w1 bb1 h=>X0 7 rfl ?_)
 obtain ⟨o1,hF,hK1⟩:=qc hF
 refine qm (rL (fun m e w'=>∃ (i1:Int),qdz l m i1=some o1∧e=[(1,.pointer (some ⟨bb1,0,none⟩)),(3,.int .i64 i1)]∧SH w w' [Ch.box bb1 [.slice p1 l.Ap.length k1] 46]) n ⟨_,hF,rfl,h⟩ rfl ?_)
 rintro m1 e1 w2 ⟨i1,hF,rfl,h⟩
 rcases m1 with _|m1
 ·cases hF
 refine X1 9 0 h rfl (qi rfl hF ?_ ?_)<;>intro hF
 ·refine X1 9 0 h rfl ?_
  obtain ⟨y1,hy1,hF,he1,b1,_,q1,cs2,hp1,hq1,hr1,hc2⟩:=s1.ix hF
  obtain ⟨p2,k2,p3,k3,p4,k4,rfl,s2,s3,s4⟩:=qaf hr1
  refine zxe hp1 hq1 he1 rfl (zc 0 (hc2.below h.below) rfl (zcB h hF (qqR (qkr y1 (h.oldS s2) (h.oldS s3) (h.oldS s4))) rfl fun r1 w3 h hF=>X0 2 rfl (qi rfl hF ?_ ?_)))<;>intro hF
  ·refine X0 4 rfl ?_
   obtain rfl:=qb hF;replace hF:=hK1
   exact rb h hF rfl
  refine X0 5 rfl ?_
  obtain ⟨o2,hF,hK2⟩:=qc hF
  refine qm (rL (fun m e w'=>∃ (i2:Int),qdy l i1 m i2=some o2∧e=[(1,.pointer (some ⟨bb1,0,none⟩)),(3,.int .i64 i1),(4,.int .i64 i2)]∧SH w w' [Ch.box bb1 [.slice p1 l.Ap.length k1] 46]) m1 ⟨_,hF,rfl,h⟩ rfl ?_)
  rintro m2 e2 w4 ⟨i2,hF,rfl,h⟩
  rcases m2 with _|m2
  ·cases hF
  refine X0 7 rfl (qi rfl hF ?_ ?_)<;>intro hF
  ·refine X0 4 rfl (rD (Y1 2 0 h rfl ?_))
   refine zd1 rfl ?_
   obtain ⟨y2,hy2,hF,he2,b2,_,q2,cs3,hp2,hq2,hr3,hc5⟩:=s1.ix hF
   obtain ⟨p5,k5,p6,k6,p7,k7,rfl,s5,s6,s7⟩:=qaf hr3
   refine zdxe hp2 hq2 he2 rfl (zd1 rfl (zdc 0 (hc5.below h.below) rfl (Y1 2 0 h rfl ?_)))
   refine zd1 rfl ?_
   obtain ⟨y3,hy3,hF,he3,b3,_,q3,cs4,hp3,hq3,hr4,hc6⟩:=s1.ix hF
   obtain ⟨p8,k8,p9,k9,p10,k10,rfl,s8,s9,s10⟩:=qaf hr4
   refine zdxe hp3 hq3 he3 rfl (zd1 rfl (zdc 0 (hc6.below h.below) rfl (zd1 rfl (dN h fun w5 h=>qi rfl hF ?_ ?_))))<;>intro hF
   ·refine X0 4 rfl ?_
    obtain rfl:=qb hF;replace hF:=hK2
    obtain rfl:=qb hF;replace hF:=hK1
    exact rb h hF rfl
   exact X0 7 rfl (rK ⟨_,hF,rfl,h⟩ rfl)
  refine qr rfl ?_
  obtain rfl:=qb hF;replace hF:=hK2
  exact X0 6 rfl (rK ⟨_,hF,rfl,h⟩ rfl)
 refine qr rfl ?_
 obtain rfl:=qb hF;replace hF:=hK1
 exact X1 8 0 h rfl (rb h hF rfl)
def qea (a_1:qf) (y1:qp):Nat→Int→Option (Flow Bool Int)
 | 0,_=>none
 | n+1,i2 =>
  bif decide (i2<(y1.Ai.length:Int)) then
   (idx y1.Ai i2).bind fun y2 =>
   (qao n y2 0 (W64 ((a_1.Ai.length:Int)-1))).bind fun r1 =>
   bif (!r1) then some (.ret false) else
   qea a_1 y1 n (W64 (i2+1))
  else
   some (.nxt i2)
def qd8 (a_1:qf):Nat→Int→Option (Flow Bool Int)
 | 0,_=>none
 | n+1,i3 =>
  bif decide (i3<(a_1.Ah.length:Int)) then
   (idx a_1.Ah i3).bind fun y4 =>
   (qao n y4.Bs 1 2).bind fun r3 =>
   bif (!r3) then some (.ret false) else
   (idx a_1.Ah i3).bind fun y5 =>
   (qao n y5.Bu 0 (W64 ((a_1.Ai.length:Int)-1))).bind fun r4 =>
   bif (!r4) then some (.ret false) else
   qd8 a_1 n (W64 (i3+1))
  else
   some (.nxt i3)
def qd6 (a_0:qv) (a_1:qf):Nat→Int→Option (Flow Bool Int)
 | 0,_=>none
 | n+1,i1 =>
  bif decide (i1<(a_1.Ab.length:Int)) then
   (idx a_1.Ab i1).bind fun y1 =>
   (
    (qao n y1.Bp 0 (W64 ((a_0.Ap.length:Int)-1))).bind fun r2 =>
    bif (!r2) then some true else
    (idx a_0.Ap y1.Bp).bind fun y3 =>
    some ((y1.Ai.length:Int) != (y3.Ay.length:Int))).bind fun b2 =>
   bif b2 then some (.ret false) else
   (qea a_1 y1 n 0).bind fun o=>match o with
   | .ret r=>some (.ret r)
   | .nxt _ =>
    qd6 a_0 a_1 n (W64 (i1+1))
  else
   some (.nxt i1)
def qjg (n:Nat) (a_0:qv) (a_1:qf):Option Bool :=
 (qd6 a_0 a_1 n 0).bind fun o=>match o with
 | .ret r=>some r
 | .nxt _ =>
  (qd8 a_1 n 0).bind fun o=>match o with
  | .ret r=>some r
  | .nxt _ =>
   some true
theorem qpk {a_0:qv} {a_1:qf} (ha1:GoT.R w (old w) a_0 cs1) (ha2:GoT.R w (old w) a_1 cs2) {r:Bool} (hF:qjg n a_0 a_1=some r):RetV Tryz.prog 216 [GoT.v qv cs1,GoT.v qf cs2] w r:=by
 obtain ⟨p1,k1,rfl,s1⟩:=qbF ha1
 obtain ⟨p2,k2,p3,k3,p4,k4,rfl,s2,s3,s4⟩:=qaA ha2
 refine zV 90 Tryz.func216 rfl fun h=>zSR (qt h rfl rfl fun w1 bb1 h=>qt h rfl rfl fun w2 bb2 h=>X1 14 0 h rfl ?_)
 obtain ⟨o1,hF,hK1⟩:=qc hF
 refine qm (rL (fun m e w'=>∃ (i1:Int),qd6 a_0 a_1 m i1=some o1∧e=[(2,.pointer (some ⟨bb1,0,none⟩)),(3,.pointer (some ⟨bb2,0,none⟩)),(5,.int .i64 (a_1.Ai.length:Int)),(6,.int .i64 i1)]∧SH w w' [Ch.box bb2 (qaM a_1 p2 p3 p4 k2 k3 k4) 50,Ch.box bb1 [.slice p1 a_0.Ap.length k1] 46]) n ⟨_,hF,rfl,h⟩ rfl ?_)
 rintro m1 e1 w3 ⟨i1,hF,rfl,h⟩
 rcases m1 with _|m1
 ·cases hF
 refine X1 9 0 h rfl (qi rfl hF ?_ ?_)<;>intro hF
 ·refine X1 8 0 h rfl ?_
  obtain ⟨y1,hy1,hF,he1,b1,_,q1,cs3,hp1,hq1,hr1,hc2⟩:=s2.ix hF
  obtain ⟨p5,k5,rfl,s5⟩:=qR hr1
  refine zxe hp1 hq1 he1 rfl (zc 0 (hc2.below h.below) rfl (qn qa h rfl rfl rfl fun w4 bb3 h=>zs 0 h rfl fun w5 h=>zNSS ?_))
  obtain ⟨KF1,hKF1,o3,hF,hK3⟩:=bindE hF
  refine qa0 (fun e w'=>∃ (b2:Bool),KF1 b2=some o1∧e=[(2,.pointer (some ⟨bb1,0,none⟩)),(3,.pointer (some ⟨bb2,0,none⟩)),(5,.int .i64 (a_1.Ai.length:Int)),(6,.int .i64 i1),(7,.pointer (some ⟨bb3,0,none⟩)),(46,.bool b2)]∧SH w w' [Ch.box bb3 (qjz y1 p5 k5) 174,Ch.box bb2 (qaM a_1 p2 p3 p4 k2 k3 k4) 50,Ch.box bb1 [.slice p1 a_0.Ap.length k1] 46]) ?_ ?_
  ·refine rD (Y1 2 0 h rfl ?_)
   refine Y1 2 2 h rfl ?_
   refine zd2 rfl ?_
   obtain ⟨r2,hr4,hF⟩:=qc hF
   refine qbj r2 (vsB _) (cB 84 rfl) (fun _ hb=>qX  hr4) rfl rfl rfl rfl (zd2 rfl (qaO (t:=33) hF rfl ?_ ?_))<;>intro hF
   ·refine Y0 13 rfl (dN h fun w8 h=>?_)
    obtain rfl:=qb hF
    exact rG ⟨_,hK3,rfl,h⟩ rfl
   refine Y1 4 0 h rfl ?_
   refine Y1 6 2 h rfl ?_
   refine Y1 4 0 h rfl ?_
   refine Y0 1 rfl ?_
   obtain ⟨y3,hy3,hF,he3,b4,_,q3,cs5,hp3,hq3,hr5,hc7⟩:=s1.ix hF
   obtain ⟨p6,k6,p7,k7,p8,k8,rfl,s6,s7,s8⟩:=qaf hr5
   refine zdxe hp3 hq3 he3 rfl (Y0 3 rfl (zdc 2 (hc7.below h.below) rfl (Y0 5 rfl (dN h fun w9 h=>?_))))
   obtain rfl:=qb hF
   exact rG ⟨_,hK3,rfl,h⟩ rfl
  rintro e3 w10 ⟨b2,hF,rfl,h⟩
  subst hKF1
  refine qi rfl hF ?_ ?_<;>intro hF
  ·refine X0 4 rfl ?_
   obtain rfl:=qb hF;replace hF:=hK1
   exact rb h hF rfl
  refine X0 5 rfl ?_
  obtain ⟨o2,hF,hK2⟩:=qc hF
  refine qm (rL (fun m e w'=>∃ (i2:Int),qea a_1 y1 m i2=some o2∧e=[(2,.pointer (some ⟨bb1,0,none⟩)),(3,.pointer (some ⟨bb2,0,none⟩)),(5,.int .i64 (a_1.Ai.length:Int)),(6,.int .i64 i1),(7,.pointer (some ⟨bb3,0,none⟩)),(8,.int .i64 i2)]∧SH w w' [Ch.box bb3 (qjz y1 p5 k5) 174,Ch.box bb2 (qaM a_1 p2 p3 p4 k2 k3 k4) 50,Ch.box bb1 [.slice p1 a_0.Ap.length k1] 46]) m1 ⟨_,hF,rfl,h⟩ rfl ?_)
  rintro m2 e2 w6 ⟨i2,hF,rfl,h⟩
  rcases m2 with _|m2
  ·cases hF
  refine X1 9 0 h rfl (qi rfl hF ?_ ?_)<;>intro hF
  ·refine X1 8 0 h rfl ?_
   obtain ⟨y2,hy2,hF,he2,b3,_,q2,cs4,hp2,hq2,rfl,hc5⟩:=s5.ix hF
   refine zxe hp2 hq2 he2 rfl (zc 0 (hc5.below h.below) rfl (zp2 rfl (zcB h hF qX rfl fun r1 w7 h hF=>X0 2 rfl (qi rfl hF ?_ ?_))))<;>intro hF
   ·refine X0 4 rfl ?_
    obtain rfl:=qb hF;replace hF:=hK2
    obtain rfl:=qb hF;replace hF:=hK1
    exact rb h hF rfl
   exact X0 7 rfl (rK ⟨_,hF,rfl,h⟩ rfl)
  refine qr rfl ?_
  obtain rfl:=qb hF;replace hF:=hK2
  refine X0 6 rfl ?_
  replace h:=h.pick [1,2] rfl
  exact rK ⟨_,hF,rfl,h⟩ rfl
 refine qr rfl ?_
 obtain rfl:=qb hF;replace hF:=hK1
 refine X0 5 rfl ?_
 obtain ⟨o4,hF,hK4⟩:=qc hF
 refine qm ?_
 replace h:=h.pick [0] rfl
 refine rL (fun m e w'=>∃ (i3:Int),qd8 a_1 m i3=some o4∧e=[(3,.pointer (some ⟨bb2,0,none⟩)),(5,.int .i64 (a_1.Ai.length:Int)),(9,.int .i64 i3)]∧SH w w' [Ch.box bb2 (qaM a_1 p2 p3 p4 k2 k3 k4) 50]) n ⟨_,hF,rfl,h⟩ rfl ?_
 rintro m3 e4 w11 ⟨i3,hF,rfl,h⟩
 rcases m3 with _|m3
 ·cases hF
 refine X1 9 0 h rfl (qi rfl hF ?_ ?_)<;>intro hF
 ·refine X1 8 0 h rfl ?_
  obtain ⟨y4,hy4,hF,he4,b5,_,q4,cs6,hp4,hq4,hr6,hc9⟩:=s4.ix hF
  obtain rfl:=qbh hr6
  refine zxe hp4 hq4 he4 rfl (zp1 rfl (zc 1 (hc9.below h.below) rfl (zcB h hF qX rfl fun r3 w12 h hF=>zp2 rfl (qh (t:=78) hF rfl ?_ ?_))))<;>intro hF
  ·refine X0 12 rfl (qbV rfl rfl (X0 4 rfl ?_))
   obtain rfl:=qb hF;replace hF:=hK4
   exact rb h hF rfl
  refine X1 7 0 h rfl ?_
  obtain ⟨y5,hy5,hF,he5,b6,_,q5,cs7,hp5,hq5,hr8,hc10⟩:=s4.ix hF
  obtain rfl:=qbh hr8
  refine zxe hp5 hq5 he5 rfl (X0 3 rfl (zc 2 (hc10.below h.below) rfl (X0 5 rfl (zcB h hF qX rfl fun r4 w13 h hF=>X0 4 rfl (qi rfl hF ?_ ?_)))))<;>intro hF
  ·refine X0 4 rfl ?_
   obtain rfl:=qb hF;replace hF:=hK4
   exact rb h hF rfl
  exact X0 7 rfl (rK ⟨_,hF,rfl,h⟩ rfl)
 refine qr rfl ?_
 obtain rfl:=qb hF;replace hF:=hK4
 exact X0 4 rfl (rb h hF rfl)
def qed (list:(List ByteArray)) (i1:Int):Nat→Int→Option (Flow Bool Int)
 | 0,_=>none
 | n+1,i2 =>
  bif decide (i2<i1) then
   (idx list i2).bind fun y2 =>
   (idx list i1).bind fun y3 =>
   bif (y2.toList==y3.toList) then some (.ret false) else
   qed list i1 n (W64 (i2+1))
  else
   some (.nxt i2)
def qd5 (list:(List ByteArray)):Nat→Int→Option (Flow Bool Int)
 | 0,_=>none
 | n+1,i1 =>
  bif decide (i1<(list.length:Int)) then
   (idx list i1).bind fun y1 =>
   (qfO n y1).bind fun r1 =>
   bif (!r1) then some (.ret false) else
   (qed list i1 n 0).bind fun o=>match o with
   | .ret r=>some (.ret r)
   | .nxt _ =>
    qd5 list n (W64 (i1+1))
  else
   some (.nxt i1)
def qgm (n:Nat) (list:(List ByteArray)):Option Bool :=
 (qd5 list n 0).bind fun o=>match o with
 | .ret r=>some r
 | .nxt _ =>
  some true
theorem qi6 {list:(List ByteArray)} (ha1:GoT.R w (old w) list cs1) {r:Bool} (hF:qgm n list=some r):RetV Tryz.prog 217 [GoT.v (List ByteArray) cs1] w r:=by
 obtain ⟨p1,k1,rfl,s1⟩:=ha1
 refine zV 31 Tryz.func217 rfl fun h=>X0 9 rfl ?_
 obtain ⟨o1,hF,hK1⟩:=qc hF
 refine qm (rL (fun m e w'=>∃ (i1:Int),qd5 list m i1=some o1∧e=[(0,.slice p1 list.length k1),(3,.int .i64 i1)]∧SH w w' []) n ⟨_,hF,rfl,h⟩ rfl ?_)
 rintro m1 e1 w1 ⟨i1,hF,rfl,h⟩
 rcases m1 with _|m1
 ·cases hF
 refine X0 8 rfl (qi rfl hF ?_ ?_)<;>intro hF
 ·refine X0 8 rfl ?_
  obtain ⟨y1,hy1,hF,he1,b1,_,q1,cs2,hp1,hq1,rfl,hc2⟩:=s1.ix hF
  refine zxe hp1 hq1 he1 rfl (zc 0 (hc2.below h.below) rfl (zcB h hF qhQ rfl fun r1 w2 h hF=>X0 2 rfl (qi rfl hF ?_ ?_)))<;>intro hF
  ·refine X0 4 rfl ?_
   obtain rfl:=qb hF;replace hF:=hK1
   exact rb h hF rfl
  refine X0 5 rfl ?_
  obtain ⟨o2,hF,hK2⟩:=qc hF
  refine qm (rL (fun m e w'=>∃ (i2:Int),qed list i1 m i2=some o2∧e=[(0,.slice p1 list.length k1),(3,.int .i64 i1),(4,.int .i64 i2)]∧SH w w' []) m1 ⟨_,hF,rfl,h⟩ rfl ?_)
  rintro m2 e2 w3 ⟨i2,hF,rfl,h⟩
  rcases m2 with _|m2
  ·cases hF
  refine X0 7 rfl (qi rfl hF ?_ ?_)<;>intro hF
  ·refine X0 4 rfl (rD (zd2 rfl ?_))
   obtain ⟨y2,hy2,hF,he2,b2,_,q2,cs3,hp2,hq2,rfl,hc5⟩:=s1.ix hF
   refine zdxe hp2 hq2 he2 rfl (zdc 0 (hc5.below h.below) rfl (zd2 rfl ?_))
   obtain ⟨y3,hy3,hF,he3,b3,_,q3,cs4,hp3,hq3,rfl,hc6⟩:=s1.ix hF
   refine zdxe hp3 hq3 he3 rfl (zdc 0 (hc6.below h.below) rfl (zd1 rfl (dN h fun w4 h=>qi rfl hF ?_ ?_)))<;>intro hF
   ·refine X0 4 rfl ?_
    obtain rfl:=qb hF;replace hF:=hK2
    obtain rfl:=qb hF;replace hF:=hK1
    exact rb h hF rfl
   exact X0 7 rfl (rK ⟨_,hF,rfl,h⟩ rfl)
  refine qr rfl ?_
  obtain rfl:=qb hF;replace hF:=hK2
  exact X0 6 rfl (rK ⟨_,hF,rfl,h⟩ rfl)
 refine qr rfl ?_
 obtain rfl:=qb hF;replace hF:=hK1
 exact X0 4 rfl (rb h hF rfl)
def qd9 (x5:(List Int)) (x7:(List Int)):Nat→Int→Option (Flow Bool Int)
 | 0,_=>none
 | n+1,i5 =>
  bif decide (i5<(x5.length:Int)) then
   (idx x7 i5).bind fun y11 =>
   bif (y11 != 1) then some (.ret false) else
   qd9 x5 x7 n (W64 (i5+1))
  else
   some (.nxt i5)
def qct (a_1:qf):Nat→(List Int)→Int→Option ((List Int) × Int)
 | 0,_,_=>none
 | n+1,x7,i4 =>
  bif decide (i4<(a_1.Ah.length:Int)) then
   (idx a_1.Ah i4).bind fun y7 =>
   bif (y7.Bs==1) then
    (idx a_1.Ah i4).bind fun y8 =>
    (idx x7 y8.Bu).bind fun y9 =>
    (idx x7 y8.Bu).bind fun _ =>
    qct a_1 n (setS x7 y8.Bu (W64 (y9+1))) (W64 (i4+1))
   else
    qct a_1 n x7 (W64 (i4+1))
  else
   some (x7,i4)
def qc5 (a_1:qf):Nat→(List Int)→Int→Option ((List Int) × Int)
 | 0,_,_=>none
 | n+1,x6,i3 =>
  bif decide (i3<(a_1.Ab.length:Int)) then
   (idx a_1.Ab i3).bind fun y3 =>
   (idx y3.Ai (W64 ((y3.Ai.length:Int)-1))).bind fun y4 =>
   (idx x6 y4).bind fun y5 =>
   (idx x6 y4).bind fun _ =>
   qc5 a_1 n (setS x6 y4 (W64 (y5+1))) (W64 (i3+1))
  else
   some (x6,i3)
def qc3 (a_1:qf):Nat→(List ByteArray)→Int→Option ((List ByteArray) × Int)
 | 0,_,_=>none
 | n+1,x3,i2 =>
  bif decide (i2<(a_1.Ah.length:Int)) then
   (idx a_1.Ah i2).bind fun y2 =>
   (appS x3 ([y2.Az]:List ByteArray)).bind fun x4 =>
   qc3 a_1 n x4 (W64 (i2+1))
  else
   some (x3,i2)
def qdd (a_1:qf):Nat→(List ByteArray)→Int→Option ((List ByteArray) × Int)
 | 0,_,_=>none
 | n+1,x1,i1 =>
  bif decide (i1<(a_1.Ab.length:Int)) then
   (idx a_1.Ab i1).bind fun y1 =>
   (appS x1 ([y1.Az]:List ByteArray)).bind fun x2 =>
   qdd a_1 n x2 (W64 (i1+1))
  else
   some (x1,i1)
def qjm (n:Nat) (a_0:qv) (a_1:qf):Option Bool :=
 (
  (qid n a_0).bind fun r4 =>
  bif (!r4) then some true else
  bif decide ((a_1.Ab.length:Int) > 14) then some true else
  bif decide ((a_1.Ai.length:Int) > 30) then some true else
  bif decide ((a_1.Ah.length:Int) > 8) then some true else
  (qjg n a_0 a_1).bind fun r5 =>
  some (!r5)).bind fun b1 =>
 bif b1 then some false else
 (qdd a_1 n ([]:List ByteArray) 0).bind fun o=>match o with
 | (x1,_) =>
  (qc3 a_1 n ([]:List ByteArray) 0).bind fun o=>match o with
  | (x3,_) =>
   (
    (qgm n x1).bind fun r1 =>
    bif (!r1) then some true else
    (qgm n x3).bind fun r2 =>
    bif (!r2) then some true else
    (qgm n a_1.Ai).bind fun r3 =>
    some (!r3)).bind fun b4 =>
   bif b4 then some false else
   (mkS (a_1.Ai.length:Int) (0:Int)).bind fun x5 =>
   (qc5 a_1 n x5 0).bind fun o=>match o with
   | (x6,_) =>
    (qct a_1 n x6 0).bind fun o=>match o with
    | (x7,_) =>
     (qd9 x5 x7 n 0).bind fun o=>match o with
     | .ret r=>some r
     | .nxt _ =>
      some true
theorem qpE {a_0:qv} {a_1:qf} (ha1:GoT.R w (old w) a_0 cs1) (ha2:GoT.R w (old w) a_1 cs2) {r:Bool} (hF:qjm n a_0 a_1=some r):RetV Tryz.prog 144 [GoT.v qv cs1,GoT.v qf cs2] w r:=by
 obtain ⟨p1,k1,rfl,s1⟩:=qbF ha1
 obtain ⟨p2,k2,p3,k3,p4,k4,rfl,s2,s3,s4⟩:=qaA ha2
 refine zV 153 Tryz.func144 rfl fun h=>zSR (qt h rfl rfl fun w1 bb1 h=>qt h rfl rfl fun w2 bb2 h=>X0 4 rfl ?_)
 obtain ⟨KF2,hKF2,o7,hF,hK7⟩:=bindE hF
 refine qa0 (fun e w'=>∃ (b1:Bool),KF2 b1=some r∧e=[(3,.pointer (some ⟨bb2,0,none⟩)),(40,.bool b1)]∧SH w w' [Ch.box bb2 (qaM a_1 p2 p3 p4 k2 k3 k4) 50]) ?_ ?_
 ·refine X1 2 1 h rfl (zcB h hF (qoT (h.old ha1)) rfl fun r4 w21 h hF=>zp2 rfl (qh (t:=17) hF rfl ?_ ?_))<;>intro hF
  ·refine X0 24 rfl ?_
   replace h:=h.pick [0] rfl
   obtain rfl:=qb hF
   exact rG ⟨_,hK7,rfl,h⟩ rfl
  refine X1 10 0 h rfl (qh (t:=23) hF rfl ?_ ?_)<;>intro hF
  ·refine X0 18 rfl ?_
   replace h:=h.pick [0] rfl
   obtain rfl:=qb hF
   exact rG ⟨_,hK7,rfl,h⟩ rfl
  refine X1 10 0 h rfl (qh (t:=29) hF rfl ?_ ?_)<;>intro hF
  ·refine X0 12 rfl ?_
   replace h:=h.pick [0] rfl
   obtain rfl:=qb hF
   exact rG ⟨_,hK7,rfl,h⟩ rfl
  refine X1 10 0 h rfl (qh (t:=35) hF rfl ?_ ?_)<;>intro hF
  ·refine X0 6 rfl ?_
   replace h:=h.pick [0] rfl
   obtain rfl:=qb hF
   exact rG ⟨_,hK7,rfl,h⟩ rfl
  refine X2 5 1 0 h rfl (zcB h hF (qpk (h.old ha1) (h.old ha2)) rfl fun r5 w22 h hF=>X0 4 rfl ?_)
  replace h:=h.pick [0] rfl
  obtain rfl:=qb hF
  exact rG ⟨_,hK7,rfl,h⟩ rfl
 rintro e7 w23 ⟨b1,hF,rfl,h⟩
 subst hKF2
 refine qi rfl hF ?_ ?_<;>intro hF
 ·exact X0 4 rfl (rb h hF rfl)
 refine zKSR (qG qa [] _ ([]:List ByteArray) h rfl rfl rfl rfl rfl rfl rfl rfl rfl trivial rfl fun w3 p5 S1 h=>X0 7 rfl ?_)
 obtain ⟨o1,hF,hK1⟩:=qc hF
 refine qm (rL (fun m e w'=>∃ (S2:Nat→Prop) (p6:Option Addr) (ln1:Nat) (k5:Nat) (x1:(List ByteArray)) (i1:Int),qdd a_1 m x1 i1=some o1∧e=[(3,.pointer (some ⟨bb2,0,none⟩)),(5,.slice p6 ln1 k5),(6,.int .i64 i1)]∧SH w w' [Ch.own S2 (x1:List ByteArray) [.slice p6 ln1 k5],Ch.box bb2 (qaM a_1 p2 p3 p4 k2 k3 k4) 50]) n ⟨_,_,_,_,_,_,hF,rfl,h⟩ rfl ?_)
 rintro m1 e1 w4 ⟨S2,p6,ln1,k5,x1,i1,hF,rfl,h⟩
 obtain rfl:=(h.sl 0 rfl).2
 rcases m1 with _|m1
 ·cases hF
 refine X1 9 1 h rfl (qi rfl hF ?_ ?_)<;>intro hF
 ·refine X1 8 1 h rfl ?_
  obtain ⟨y1,hy1,hF,he1,b2,_,q1,cs3,hp1,hq1,hr1,hc3⟩:=s2.ix hF
  obtain ⟨p7,k6,rfl,s5⟩:=qR hr1
  refine zxe hp1 hq1 he1 rfl (zp1 rfl (zc 0 (hc3.below h.below) rfl (qG qa [.tmp 55] _ ([y1.Az]:List ByteArray) h rfl rfl rfl rfl rfl rfl rfl rfl rfl ⟨rfl,trivial⟩ rfl fun w5 p8 S3 h=>?_)))
  obtain ⟨x2,hx1,hF⟩:=qc hF
  obtain ⟨g1,hx1⟩:=qav hx1
  refine qcl qa 1 h rfl (h.sl 0 rfl).1 (h.sl 0 rfl).2 rfl rfl rfl rfl rfl rfl rfl rfl rfl g1 hx1 rfl fun w6 p9 k7 S4 h=>X0 8 rfl ?_
  replace h:=h.pick [1,2] rfl
  exact rK ⟨_,_,_,_,_,_,hF,rfl,h⟩ rfl
 refine qr rfl ?_
 obtain rfl:=qb hF;replace hF:=hK1
 refine zSR (qG qa [] _ ([]:List ByteArray) h rfl rfl rfl rfl rfl rfl rfl rfl rfl trivial rfl fun w7 p10 S5 h=>X0 7 rfl ?_)
 obtain ⟨o2,hF,hK2⟩:=qc hF
 refine qm (rL (fun m e w'=>∃ (S6:Nat→Prop) (p11:Option Addr) (ln2:Nat) (k8:Nat) (x3:(List ByteArray)) (i2:Int),qc3 a_1 m x3 i2=some o2∧e=[(3,.pointer (some ⟨bb2,0,none⟩)),(5,.slice p6 x1.length k5),(7,.slice p11 ln2 k8),(8,.int .i64 i2)]∧SH w w' [Ch.own S6 (x3:List ByteArray) [.slice p11 ln2 k8],Ch.own S2 (x1:List ByteArray) [.slice p6 x1.length k5],Ch.box bb2 (qaM a_1 p2 p3 p4 k2 k3 k4) 50]) n ⟨_,_,_,_,_,_,hF,rfl,h⟩ rfl ?_)
 rintro m2 e2 w8 ⟨S6,p11,ln2,k8,x3,i2,hF,rfl,h⟩
 obtain rfl:=(h.sl 0 rfl).2
 rcases m2 with _|m2
 ·cases hF
 refine X1 9 2 h rfl (qi rfl hF ?_ ?_)<;>intro hF
 ·refine X1 8 2 h rfl ?_
  obtain ⟨y2,hy2,hF,he2,b3,_,q2,cs4,hp2,hq2,hr2,hc5⟩:=s4.ix hF
  obtain rfl:=qbh hr2
  refine zxe hp2 hq2 he2 rfl (zp1 rfl (zc 0 (hc5.below h.below) rfl (qG qa [.tmp 72] _ ([y2.Az]:List ByteArray) h rfl rfl rfl rfl rfl rfl rfl rfl rfl ⟨rfl,trivial⟩ rfl fun w9 p12 S7 h=>?_)))
  obtain ⟨x4,hx2,hF⟩:=qc hF
  obtain ⟨g2,hx2⟩:=qav hx2
  refine qcl qa 1 h rfl (h.sl 0 rfl).1 (h.sl 0 rfl).2 rfl rfl rfl rfl rfl rfl rfl rfl rfl g2 hx2 rfl fun w10 p13 k9 S8 h=>X0 8 rfl ?_
  replace h:=h.pick [1,2,3] rfl
  exact rK ⟨_,_,_,_,_,_,hF,rfl,h⟩ rfl
 refine qr rfl ?_
 obtain rfl:=qb hF;replace hF:=hK2
 refine zSS ?_
 obtain ⟨KF1,hKF1,o6,hF,hK6⟩:=bindE hF
 refine qa0 (fun e w'=>∃ (b4:Bool),KF1 b4=some r∧e=[(3,.pointer (some ⟨bb2,0,none⟩)),(88,.bool b4)]∧SH w w' [Ch.box bb2 (qaM a_1 p2 p3 p4 k2 k3 k4) 50]) ?_ ?_
 ·refine X0 2 rfl (zcB h hF (qi6 (h.own 1 rfl)) rfl fun r1 w17 h hF=>zp2 rfl (qh (t:=78) hF rfl ?_ ?_))<;>intro hF
  ·refine X0 11 rfl ?_
   replace h:=h.pick [2] rfl
   obtain rfl:=qb hF
   exact rG ⟨_,hK6,rfl,h⟩ rfl
  refine X0 3 rfl (zcB h hF (qi6 (h.own 0 rfl)) rfl fun r2 w18 h hF=>X0 4 rfl (qh (t:=83) hF rfl ?_ ?_))<;>intro hF
  ·refine X0 6 rfl ?_
   replace h:=h.pick [2] rfl
   obtain rfl:=qb hF
   exact rG ⟨_,hK6,rfl,h⟩ rfl
  refine X1 5 2 h rfl (zcB h hF (qi6 ⟨_,_,rfl,(h.oldS s3)⟩) rfl fun r3 w19 h hF=>X0 4 rfl ?_)
  replace h:=h.pick [2] rfl
  obtain rfl:=qb hF
  exact rG ⟨_,hK6,rfl,h⟩ rfl
 rintro e6 w20 ⟨b4,hF,rfl,h⟩
 subst hKF1
 refine qi rfl hF ?_ ?_<;>intro hF
 ·exact X0 4 rfl (rb h hF rfl)
 refine X1 6 0 h rfl ?_
 obtain ⟨x5,hx3,hF⟩:=qc hF
 obtain ⟨g3,g4,hx3⟩:=qL hx3
 refine qah qa Int h rfl rfl rfl rfl rfl rfl rfl rfl rfl g3 g4 hx3 rfl fun w11 S9 p14 h=>X0 7 rfl ?_
 obtain ⟨o3,hF,hK3⟩:=qc hF
 refine qm (rL (fun m e w'=>∃ (x6:(List Int)) (i3:Int),qc5 a_1 m x6 i3=some o3∧e=[(3,.pointer (some ⟨bb2,0,none⟩)),(9,.slice p14 x5.length x5.length),(10,.int .i64 i3)]∧SH w w' [Ch.own S9 (x6:List Int) [.slice p14 x5.length x5.length],Ch.box bb2 (qaM a_1 p2 p3 p4 k2 k3 k4) 50]) n ⟨_,_,hF,rfl,h⟩ rfl ?_)
 rintro m3 e3 w12 ⟨x6,i3,hF,rfl,h⟩
 rcases m3 with _|m3
 ·cases hF
 refine X1 9 1 h rfl (qi rfl hF ?_ ?_)<;>intro hF
 ·refine X1 8 1 h rfl ?_
  obtain ⟨y3,hy3,hF,he3,b5,_,q3,cs5,hp3,hq3,hr3,hc8⟩:=s2.ix hF
  obtain ⟨p15,k10,rfl,s6⟩:=qR hr3
  refine zxe hp3 hq3 he3 rfl (zp1 rfl (zc 2 (hc8.below h.below) rfl (X0 8 rfl ?_)))
  obtain ⟨y4,hy4,hF,he4,b6,_,q4,cs6,hp4,hq4,rfl,hc9⟩:=s6.ix hF
  refine zxe hp4 hq4 he4 rfl (zc 0 (hc9.below h.below) rfl ?_)
  obtain ⟨y5,hy5,hF,he5,b7,_,q5,cs7,hp5,hq5,rfl,hc10⟩:=(h.sl 0 rfl).1.ix hF
  refine zx hp5 hq5 ⟨he5.1,qK he5.2.1 (h.sl 0 rfl).2⟩ rfl (zc 0 hc10 rfl (zp1 rfl ?_))
  obtain ⟨y6,hy6,hF,he6,b8,_,q6,cs8,hp6,hq6,rfl,hc11⟩:=(h.sl 0 rfl).1.ix hF
  exact zx hp6 hq6 ⟨he6.1,qK he6.2.1 (h.sl 0 rfl).2⟩ rfl (qa7 qa 0 0 (W64 (y5+1)) h rfl hy6 hp6 hq6 rfl hc11 rfl rfl rfl rfl rfl rfl rfl fun w13 h=>X0 7 rfl (rK ⟨_,_,hF,rfl,h⟩ rfl))
 refine qr rfl ?_
 obtain rfl:=qb hF;replace hF:=hK3
 refine X0 5 rfl ?_
 obtain ⟨o4,hF,hK4⟩:=qc hF
 refine qm (rL (fun m e w'=>∃ (x7:(List Int)) (i4:Int),qct a_1 m x7 i4=some o4∧e=[(3,.pointer (some ⟨bb2,0,none⟩)),(9,.slice p14 x5.length x5.length),(12,.int .i64 i4)]∧SH w w' [Ch.own S9 (x7:List Int) [.slice p14 x5.length x5.length],Ch.box bb2 (qaM a_1 p2 p3 p4 k2 k3 k4) 50]) n ⟨_,_,hF,rfl,h⟩ rfl ?_)
 rintro m4 e4 w14 ⟨x7,i4,hF,rfl,h⟩
 rcases m4 with _|m4
 ·cases hF
 refine X1 9 1 h rfl (qi rfl hF ?_ ?_)<;>intro hF
 ·refine X1 8 1 h rfl ?_
  obtain ⟨y7,hy7,hF,he7,b9,_,q7,cs9,hp7,hq7,hr7,hc13⟩:=s4.ix hF
  obtain rfl:=qbh hr7
  refine zxe hp7 hq7 he7 rfl (zp1 rfl (zc 1 (hc13.below h.below) rfl (X0 2 rfl (qi rfl hF ?_ ?_))))<;>intro hF
  ·refine X1 5 1 h rfl ?_
   obtain ⟨y8,hy8,hF,he8,b10,_,q8,cs10,hp8,hq8,hr8,hc15⟩:=s4.ix hF
   obtain rfl:=qbh hr8
   refine zxe hp8 hq8 he8 rfl (zp1 rfl (zc 2 (hc15.below h.below) rfl ?_))
   obtain ⟨y9,hy9,hF,he9,b11,_,q9,cs11,hp9,hq9,rfl,hc16⟩:=(h.sl 0 rfl).1.ix hF
   refine zx hp9 hq9 ⟨he9.1,qK he9.2.1 (h.sl 0 rfl).2⟩ rfl (zc 0 hc16 rfl (zp1 rfl ?_))
   obtain ⟨y10,hy10,hF,he10,b12,_,q10,cs12,hp10,hq10,rfl,hc17⟩:=(h.sl 0 rfl).1.ix hF
   exact zx hp10 hq10 ⟨he10.1,qK he10.2.1 (h.sl 0 rfl).2⟩ rfl (qa7 qa 0 0 (W64 (y9+1)) h rfl hy10 hp10 hq10 rfl hc17 rfl rfl rfl rfl rfl rfl rfl fun w15 h=>X0 7 rfl (rK ⟨_,_,hF,rfl,h⟩ rfl))
  exact X0 7 rfl (rK ⟨_,_,hF,rfl,h⟩ rfl)
 refine qr rfl ?_
 obtain rfl:=qb hF;replace hF:=hK4
 refine X0 5 rfl ?_
 obtain ⟨o5,hF,hK5⟩:=qc hF
 refine qm ?_
 replace h:=h.pick [0] rfl
 refine rL (fun m e w'=>∃ (i5:Int),qd9 x5 x7 m i5=some o5∧e=[(9,.slice p14 x5.length x5.length),(13,.int .i64 i5)]∧SH w w' [Ch.own S9 (x7:List Int) [.slice p14 x5.length x5.length]]) n ⟨_,hF,rfl,h⟩ rfl ?_
 rintro m5 e5 w16 ⟨i5,hF,rfl,h⟩
 rcases m5 with _|m5
 ·cases hF
 refine X0 8 rfl (qi rfl hF ?_ ?_)<;>intro hF
 ·refine X0 7 rfl ?_
  obtain ⟨y11,hy11,hF,he11,b13,_,q11,cs13,hp11,hq11,rfl,hc19⟩:=(h.sl 0 rfl).1.ix hF
  refine zx hp11 hq11 ⟨he11.1,qK he11.2.1 (h.sl 0 rfl).2⟩ rfl (zc 0 hc19 rfl (X0 2 rfl (qi rfl hF ?_ ?_)))<;>intro hF
  ·refine X0 4 rfl ?_
   obtain rfl:=qb hF;replace hF:=hK5
   exact rb h hF rfl
  exact X0 7 rfl (rK ⟨_,hF,rfl,h⟩ rfl)
 refine qr rfl ?_
 obtain rfl:=qb hF;replace hF:=hK5
 exact X0 4 rfl (rb h hF rfl)
def qfC (a_0:qT):Nat→Int→Option (Flow Bool Int)
 | 0,_=>none
 | n+1,i2 =>
  bif decide (i2<(a_0.Bh.length:Int)) then
   (idx a_0.Bh i2).bind fun y7 =>
   (qao n y7 0 (W64 ((a_0.Ak.length:Int)-1))).bind fun r5 =>
   bif (!r5) then some (.ret false) else
   qfC a_0 n (W64 (i2+1))
  else
   some (.nxt i2)
def qcE (a_0:qT):Nat→Int→Option (Flow Bool Int)
 | 0,_=>none
 | n+1,i1 =>
  bif decide (i1<(a_0.Ak.length:Int)) then
   (
    (idx a_0.Bq i1).bind fun y5 =>
    (qao n y5 0 500).bind fun r3 =>
    bif (!r3) then some true else
    (idx a_0.Bt i1).bind fun y6 =>
    (qao n y6 0 1000).bind fun r4 =>
    some (!r4)).bind fun b2 =>
   bif b2 then some (.ret false) else
   bif (i1==0) then
    (idx a_0.Ak i1).bind fun y1 =>
    bif (y1 != (-1)) then some (.ret false) else
    (idx a_0.Bt i1).bind fun y2 =>
    bif (y2 != 0) then some (.ret false) else
    bif decide (i1 > 0) then
     (idx a_0.Ak i1).bind fun y3 =>
     (qao n y3 0 (W64 (i1-1))).bind fun r1 =>
     bif (!r1) then some (.ret false) else
     qcE a_0 n (W64 (i1+1))
    else
     qcE a_0 n (W64 (i1+1))
   else
    bif decide (i1 > 0) then
     (idx a_0.Ak i1).bind fun y4 =>
     (qao n y4 0 (W64 (i1-1))).bind fun r2 =>
     bif (!r2) then some (.ret false) else
     qcE a_0 n (W64 (i1+1))
    else
     qcE a_0 n (W64 (i1+1))
  else
   some (.nxt i1)
def qlc (n:Nat) (a_0:qT) (a_1:Int):Option Bool :=
 (
  bif decide ((a_0.Ak.length:Int)<1) then some true else
  bif decide ((a_0.Ak.length:Int) > 8) then some true else
  bif ((a_0.Bt.length:Int) != (a_0.Ak.length:Int)) then some true else
  bif ((a_0.Bq.length:Int) != (a_0.Ak.length:Int)) then some true else
  some ((a_0.Bh.length:Int) != a_1)).bind fun b1 =>
 bif b1 then some false else
 (qcE a_0 n 0).bind fun o=>match o with
 | .ret r=>some r
 | .nxt _ =>
  (qfC a_0 n 0).bind fun o=>match o with
  | .ret r=>some r
  | .nxt _ =>
   some true
theorem qqT {a_0:qT} {a_1:Int} (ha1:GoT.R w (old w) a_0 cs1) {r:Bool} (hF:qlc n a_0 a_1=some r):RetV Tryz.prog 145 [GoT.v qT cs1,.int .i64 a_1] w r:=by
 obtain ⟨p1,k1,p2,k2,p3,k3,p4,k4,rfl,s1,s2,s3,s4⟩:=qaQ ha1
 refine zV 108 Tryz.func145 rfl fun h=>zSR (qt h rfl rfl fun w1 bb1 h=>X1 11 0 h rfl ?_)
 obtain ⟨KF2,hKF2,o4,hF,hK4⟩:=bindE hF
 refine qa0 (fun e w'=>∃ (b1:Bool),KF2 b1=some r∧e=[(2,.pointer (some ⟨bb1,0,none⟩)),(5,.int .i64 (a_0.Ak.length:Int)),(37,.bool b1)]∧SH w w' [Ch.box bb1 (qgt a_0 p1 p2 p3 p4 k1 k2 k3 k4) 210]) ?_ ?_
 ·refine X0 4 rfl (qh (t:=13) hF rfl ?_ ?_)<;>intro hF
  ·refine X0 25 rfl ?_
   obtain rfl:=qb hF
   exact rG ⟨_,hK4,rfl,h⟩ rfl
  refine X0 6 rfl (qh (t:=17) hF rfl ?_ ?_)<;>intro hF
  ·refine X0 21 rfl ?_
   obtain rfl:=qb hF
   exact rG ⟨_,hK4,rfl,h⟩ rfl
  refine X1 12 0 h rfl (qh (t:=24) hF rfl ?_ ?_)<;>intro hF
  ·refine X0 14 rfl ?_
   obtain rfl:=qb hF
   exact rG ⟨_,hK4,rfl,h⟩ rfl
  refine X1 12 0 h rfl (qh (t:=31) hF rfl ?_ ?_)<;>intro hF
  ·refine X0 7 rfl ?_
   obtain rfl:=qb hF
   exact rG ⟨_,hK4,rfl,h⟩ rfl
  refine X1 12 0 h rfl ?_
  obtain rfl:=qb hF
  exact rG ⟨_,hK4,rfl,h⟩ rfl
 rintro e4 w10 ⟨b1,hF,rfl,h⟩
 subst hKF2
 refine qi rfl hF ?_ ?_<;>intro hF
 ·exact X0 4 rfl (rb h hF rfl)
 refine X0 6 rfl ?_
 obtain ⟨o1,hF,hK1⟩:=qc hF
 refine qm (rL (fun m e w'=>∃ (i1:Int),qcE a_0 m i1=some o1∧e=[(2,.pointer (some ⟨bb1,0,none⟩)),(5,.int .i64 (a_0.Ak.length:Int)),(6,.int .i64 i1)]∧SH w w' [Ch.box bb1 (qgt a_0 p1 p2 p3 p4 k1 k2 k3 k4) 210]) n ⟨_,hF,rfl,h⟩ rfl ?_)
 rintro m1 e1 w2 ⟨i1,hF,rfl,h⟩
 rcases m1 with _|m1
 ·cases hF
 refine X0 7 rfl (qi rfl hF ?_ ?_)<;>intro hF
 ·refine X0 5 rfl ?_
  obtain ⟨KF1,hKF1,o2,hF,hK2⟩:=bindE hF
  refine qa0 (fun e w'=>∃ (b2:Bool),KF1 b2=some o1∧e=[(2,.pointer (some ⟨bb1,0,none⟩)),(5,.int .i64 (a_0.Ak.length:Int)),(6,.int .i64 i1),(58,.bool b2)]∧SH w w' [Ch.box bb1 (qgt a_0 p1 p2 p3 p4 k1 k2 k3 k4) 210]) ?_ ?_
  ·refine X1 4 0 h rfl ?_
   obtain ⟨y5,hy5,hF,he5,b7,_,q5,cs6,hp5,hq5,rfl,hc10⟩:=s3.ix hF
   refine zxe hp5 hq5 he5 rfl (zc 0 (hc10.below h.below) rfl (zcB h hF qX rfl fun r3 w5 h hF=>zp2 rfl (qh (t:=50) hF rfl ?_ ?_)))<;>intro hF
   ·refine X0 9 rfl ?_
    obtain rfl:=qb hF
    exact rG ⟨_,hK2,rfl,h⟩ rfl
   refine X1 7 0 h rfl ?_
   obtain ⟨y6,hy6,hF,he6,b8,_,q6,cs7,hp6,hq6,rfl,hc11⟩:=s2.ix hF
   refine zxe hp6 hq6 he6 rfl (X0 1 rfl (zc 0 (hc11.below h.below) rfl (X0 1 rfl (zcB h hF qX rfl fun r4 w6 h hF=>X0 4 rfl ?_))))
   obtain rfl:=qb hF
   exact rG ⟨_,hK2,rfl,h⟩ rfl
  rintro e2 w7 ⟨b2,hF,rfl,h⟩
  subst hKF1
  refine qi rfl hF ?_ ?_<;>intro hF
  ·refine X0 4 rfl ?_
   obtain rfl:=qb hF;replace hF:=hK1
   exact rb h hF rfl
  refine X0 6 rfl (qh (t:=61) hF rfl ?_ ?_)<;>intro hF
  ·refine X1 7 0 h rfl ?_
   obtain ⟨y1,hy1,hF,he1,b3,_,q1,cs2,hp1,hq1,rfl,hc4⟩:=s1.ix hF
   refine zxe hp1 hq1 he1 rfl (X0 1 rfl (zc 0 (hc4.below h.below) rfl (X0 4 rfl (qh (t:=68) hF rfl ?_ ?_))))<;>intro hF
   ·refine X0 25 rfl (qbV rfl rfl (X0 4 rfl ?_))
    obtain rfl:=qb hF;replace hF:=hK1
    exact rb h hF rfl
   refine X1 7 0 h rfl ?_
   obtain ⟨y2,hy2,hF,he2,b4,_,q2,cs3,hp2,hq2,rfl,hc5⟩:=s2.ix hF
   refine zxe hp2 hq2 he2 rfl (X0 1 rfl (zc 0 (hc5.below h.below) rfl (X0 6 rfl (qh (t:=77) hF rfl ?_ ?_))))<;>intro hF
   ·refine X0 15 rfl (qbV rfl rfl (X0 4 rfl ?_))
    obtain rfl:=qb hF;replace hF:=hK1
    exact rb h hF rfl
   refine X0 6 rfl (qh (t:=80) hF rfl ?_ ?_)<;>intro hF
   ·refine X1 7 0 h rfl ?_
    obtain ⟨y3,hy3,hF,he3,b5,_,q3,cs4,hp3,hq3,rfl,hc6⟩:=s1.ix hF
    refine zxe hp3 hq3 he3 rfl (X0 1 rfl (zc 0 (hc6.below h.below) rfl (X0 5 rfl (zcB h hF qX rfl fun r1 w3 h hF=>X0 6 rfl (qi rfl hF ?_ ?_)))))<;>intro hF
    ·refine X0 4 rfl ?_
     obtain rfl:=qb hF;replace hF:=hK1
     exact rb h hF rfl
    exact X0 7 rfl (rK ⟨_,hF,rfl,h⟩ rfl)
   exact X0 13 rfl (qbE rfl rfl (X0 7 rfl (rK ⟨_,hF,rfl,h⟩ rfl)))
  refine X0 22 rfl (qh (t:=80) hF rfl ?_ ?_)<;>intro hF
  ·refine X1 7 0 h rfl ?_
   obtain ⟨y4,hy4,hF,he4,b6,_,q4,cs5,hp4,hq4,rfl,hc8⟩:=s1.ix hF
   refine zxe hp4 hq4 he4 rfl (X0 1 rfl (zc 0 (hc8.below h.below) rfl (X0 5 rfl (zcB h hF qX rfl fun r2 w4 h hF=>X0 6 rfl (qi rfl hF ?_ ?_)))))<;>intro hF
   ·refine X0 4 rfl ?_
    obtain rfl:=qb hF;replace hF:=hK1
    exact rb h hF rfl
   exact X0 7 rfl (rK ⟨_,hF,rfl,h⟩ rfl)
  exact X0 13 rfl (qbE rfl rfl (X0 7 rfl (rK ⟨_,hF,rfl,h⟩ rfl)))
 refine qr rfl ?_
 obtain rfl:=qb hF;replace hF:=hK1
 refine X0 5 rfl ?_
 obtain ⟨o3,hF,hK3⟩:=qc hF
 refine qm (rL (fun m e w'=>∃ (i2:Int),qfC a_0 m i2=some o3∧e=[(2,.pointer (some ⟨bb1,0,none⟩)),(5,.int .i64 (a_0.Ak.length:Int)),(7,.int .i64 i2)]∧SH w w' [Ch.box bb1 (qgt a_0 p1 p2 p3 p4 k1 k2 k3 k4) 210]) n ⟨_,hF,rfl,h⟩ rfl ?_)
 rintro m2 e3 w8 ⟨i2,hF,rfl,h⟩
 rcases m2 with _|m2
 ·cases hF
 refine X1 9 0 h rfl (qi rfl hF ?_ ?_)<;>intro hF
 ·refine X1 8 0 h rfl ?_
  obtain ⟨y7,hy7,hF,he7,b9,_,q7,cs8,hp7,hq7,rfl,hc13⟩:=s4.ix hF
  refine zxe hp7 hq7 he7 rfl (zc 0 (hc13.below h.below) rfl (zp2 rfl (zcB h hF qX rfl fun r5 w9 h hF=>X0 2 rfl (qi rfl hF ?_ ?_))))<;>intro hF
  ·refine X0 4 rfl ?_
   obtain rfl:=qb hF;replace hF:=hK3
   exact rb h hF rfl
  exact X0 7 rfl (rK ⟨_,hF,rfl,h⟩ rfl)
 refine qr rfl ?_
 obtain rfl:=qb hF;replace hF:=hK3
 exact X0 4 rfl (rb h hF rfl)
def qcK (i1:Int) (y1:qp):Nat→(List Tl05Place)→Int→Option ((List Tl05Place) × Int)
 | 0,_,_=>none
 | n+1,x2,i2 =>
  bif decide (i2<(y1.Ai.length:Int)) then
   (idx y1.Ai i2).bind fun y2 =>
   (appS x2 ([(⟨i1,i2,y2,(i2==(W64 ((y1.Ai.length:Int)-1)))⟩:Tl05Place)]:List Tl05Place)).bind fun x3 =>
   qcK i1 y1 n x3 (W64 (i2+1))
  else
   some (x2,i2)
def qcD (a_0:qf):Nat→(List Tl05Place)→Int→Option ((List Tl05Place) × Int)
 | 0,_,_=>none
 | n+1,x4,i3 =>
  bif decide (i3<(a_0.Ah.length:Int)) then
   (idx a_0.Ah i3).bind fun y3 =>
   (idx a_0.Ah i3).bind fun y4 =>
   (appS x4 ([(⟨(-1),i3,y3.Bu,(y4.Bs==1)⟩:Tl05Place)]:List Tl05Place)).bind fun x5 =>
   qcD a_0 n x5 (W64 (i3+1))
  else
   some (x4,i3)
def qcL (a_0:qf):Nat→(List Tl05Place)→Int→Option ((List Tl05Place) × Int)
 | 0,_,_=>none
 | n+1,x1,i1 =>
  bif decide (i1<(a_0.Ab.length:Int)) then
   (idx a_0.Ab i1).bind fun y1 =>
   (qcK i1 y1 n x1 0).bind fun o=>match o with
   | (x2,_) =>
    qcL a_0 n x2 (W64 (i1+1))
  else
   some (x1,i1)
def qcd (n:Nat) (a_0:qf):Option (List Tl05Place) :=
 (qcL a_0 n ([]:List Tl05Place) 0).bind fun o=>match o with
 | (x1,_) =>
  (qcD a_0 n x1 0).bind fun o=>match o with
  | (x4,_) =>
   some x4
theorem qb5 {a_0:qf} (ha1:GoT.R w (old w) a_0 cs1) {r:(List Tl05Place)} (hF:qcd n a_0=some r):RetV Tryz.prog 171 [GoT.v qf cs1] w r:=by
 obtain ⟨p1,k1,p2,k2,p3,k3,rfl,s1,s2,s3⟩:=qaA ha1
 refine zV 69 Tryz.func171 rfl fun h=>zSR (qt h rfl rfl fun w1 bb1 h=>X0 4 rfl (qG qa [] _ ([]:List Tl05Place) h rfl rfl rfl rfl rfl rfl rfl rfl rfl trivial rfl fun w2 p4 S1 h=>X0 7 rfl ?_))
 obtain ⟨o1,hF,hK1⟩:=qc hF
 refine qm (rL (fun m e w'=>∃ (S2:Nat→Prop) (p5:Option Addr) (ln1:Nat) (k4:Nat) (x1:(List Tl05Place)) (i1:Int),qcL a_0 m x1 i1=some o1∧e=[(1,.pointer (some ⟨bb1,0,none⟩)),(3,.slice p5 ln1 k4),(4,.int .i64 i1)]∧SH w w' [Ch.own S2 (x1:List Tl05Place) [.slice p5 ln1 k4],Ch.box bb1 (qaM a_0 p1 p2 p3 k1 k2 k3) 50]) n ⟨_,_,_,_,_,_,hF,rfl,h⟩ rfl ?_)
 rintro m1 e1 w3 ⟨S2,p5,ln1,k4,x1,i1,hF,rfl,h⟩
 obtain rfl:=(h.sl 0 rfl).2
 rcases m1 with _|m1
 ·cases hF
 refine X1 9 1 h rfl (qi rfl hF ?_ ?_)<;>intro hF
 ·refine X1 8 1 h rfl ?_
  obtain ⟨y1,hy1,hF,he1,b1,_,q1,cs2,hp1,hq1,hr1,hc2⟩:=s1.ix hF
  obtain ⟨p6,k5,rfl,s4⟩:=qR hr1
  refine zxe hp1 hq1 he1 rfl (zp1 rfl (zc 2 (hc2.below h.below) rfl (X0 6 rfl ?_)))
  obtain ⟨o2,hF,hK2⟩:=qc hF
  refine qm (rL (fun m e w'=>∃ (S3:Nat→Prop) (p7:Option Addr) (ln2:Nat) (k6:Nat) (x2:(List Tl05Place)) (i2:Int),qcK i1 y1 m x2 i2=some o2∧e=[(1,.pointer (some ⟨bb1,0,none⟩)),(3,.slice p7 ln2 k6),(4,.int .i64 i1),(5,.slice p6 y1.Ai.length k5),(6,.int .i64 i2)]∧SH w w' [Ch.own S3 (x2:List Tl05Place) [.slice p7 ln2 k6],Ch.box bb1 (qaM a_0 p1 p2 p3 k1 k2 k3) 50]) m1 ⟨_,_,_,_,_,_,hF,rfl,h⟩ rfl ?_)
  rintro m2 e2 w4 ⟨S3,p7,ln2,k6,x2,i2,hF,rfl,h⟩
  obtain rfl:=(h.sl 0 rfl).2
  rcases m2 with _|m2
  ·cases hF
  refine X0 8 rfl (qi rfl hF ?_ ?_)<;>intro hF
  ·refine X0 9 rfl ?_
   obtain ⟨y2,hy2,hF,he2,b2,_,q2,cs3,hp2,hq2,rfl,hc4⟩:=s4.ix hF
   refine zxe hp2 hq2 he2 rfl (zc 0 (hc4.below h.below) rfl (zp5 rfl (r_v (qae qa [0,1,2,3] [.tmp 29,.tmp 30,.tmp 34,.tmp 39] rfl rfl rfl rfl rfl rfl rfl rfl) rfl (qG qa [.tmp 40] _ ([(⟨i1,i2,y2,(i2==(W64 ((y1.Ai.length:Int)-1)))⟩:Tl05Place)]:List Tl05Place) h rfl rfl rfl rfl rfl rfl rfl rfl rfl ⟨(qfb (⟨i1,i2,y2,(i2==(W64 ((y1.Ai.length:Int)-1)))⟩:Tl05Place)),trivial⟩ rfl fun w5 p8 S4 h=>?_))))
   obtain ⟨x3,hx1,hF⟩:=qc hF
   obtain ⟨g1,hx1⟩:=qav hx1
   refine qcl qa 1 h rfl (h.sl 0 rfl).1 (h.sl 0 rfl).2 rfl rfl rfl rfl rfl rfl rfl rfl rfl g1 hx1 rfl fun w6 p9 k7 S5 h=>X0 8 rfl ?_
   replace h:=h.pick [1,2] rfl
   exact rK ⟨_,_,_,_,_,_,hF,rfl,h⟩ rfl
  refine qr rfl ?_
  obtain rfl:=qb hF;replace hF:=hK2
  exact X0 6 rfl (rK ⟨_,_,_,_,_,_,hF,rfl,h⟩ rfl)
 refine qr rfl ?_
 obtain rfl:=qb hF;replace hF:=hK1
 refine X0 5 rfl ?_
 obtain ⟨o3,hF,hK3⟩:=qc hF
 refine qm (rL (fun m e w'=>∃ (S6:Nat→Prop) (p10:Option Addr) (ln3:Nat) (k8:Nat) (x4:(List Tl05Place)) (i3:Int),qcD a_0 m x4 i3=some o3∧e=[(1,.pointer (some ⟨bb1,0,none⟩)),(3,.slice p10 ln3 k8),(7,.int .i64 i3)]∧SH w w' [Ch.own S6 (x4:List Tl05Place) [.slice p10 ln3 k8],Ch.box bb1 (qaM a_0 p1 p2 p3 k1 k2 k3) 50]) n ⟨_,_,_,_,_,_,hF,rfl,h⟩ rfl ?_)
 rintro m3 e3 w7 ⟨S6,p10,ln3,k8,x4,i3,hF,rfl,h⟩
 obtain rfl:=(h.sl 0 rfl).2
 rcases m3 with _|m3
 ·cases hF
 refine X1 9 1 h rfl (qi rfl hF ?_ ?_)<;>intro hF
 ·refine zKSB (rA [] [1] h rfl fun w8 h=>M1 31 [0,1,2,3,4] 0 (h.pick [1] rfl) rfl ?_)
  obtain ⟨y3,hy3,hF,he3,b3,_,q3,cs4,hp3,hq3,hr3,hc6⟩:=s3.ix hF
  obtain rfl:=qbh hr3
  refine Ae 5 63 hp3 hq3 he3 (h.pick [1] rfl) rfl (M0 127 [6] (h.pick [1] rfl) rfl (Al 7 255 2 hc6 (h.pick [1] rfl) rfl (M1 2047 [8,9,10] 0 (h.pick [1] rfl) rfl ?_)))
  obtain ⟨y4,hy4,hF,he4,b4,_,q4,cs5,hp4,hq4,hr4,hc7⟩:=s3.ix hF
  obtain rfl:=qbh hr4
  refine Ae 11 4095 hp4 hq4 he4 (h.pick [1] rfl) rfl (M0 8191 [12] (h.pick [1] rfl) rfl (Al 13 16383 1 hc7 (h.pick [1] rfl) rfl (M0 32767 [14] (h.pick [1] rfl) rfl (Aw 15 65535 (fun w' hw=>qae qa [0,1,2,3] [.const (.int .i64 (-1)),.tmp 51,.tmp 57,.tmp 64] rfl rfl rfl rfl rfl rfl rfl rfl) (h.pick [1] rfl) rfl ?_))))
  refine Ao 16 131071 rfl (qG qa [.tmp 65] _ ([(⟨(-1),i3,y3.Bu,(y4.Bs==1)⟩:Tl05Place)]:List Tl05Place) h rfl rfl rfl rfl rfl rfl rfl rfl rfl ⟨(qfb (⟨(-1),i3,y3.Bu,(y4.Bs==1)⟩:Tl05Place)),trivial⟩ rfl fun w9 p11 S7 h=>Ag (h.pick [2] rfl) (Ao 17 262143 rfl ?_))
  obtain ⟨x5,hx2,hF⟩:=qc hF
  obtain ⟨g2,hx2⟩:=qav hx2
  refine qcl qa 1 h rfl (h.sl 0 rfl).1 (h.sl 0 rfl).2 rfl rfl rfl rfl rfl rfl rfl rfl rfl g2 hx2 rfl fun w10 p12 k9 S8 h=>G0 524287 [18] (h.pick [2] rfl) rfl (Ad (X0 6 rfl ?_))
  replace h:=h.pick [1,2] rfl
  exact rK ⟨_,_,_,_,_,_,hF,rfl,h⟩ rfl
 refine qr rfl ?_
 obtain rfl:=qb hF;replace hF:=hK3
 refine X0 5 rfl ?_
 obtain rfl:=qb hF
 exact rO 0 h rfl ⟨rfl,trivial⟩
def qcv (net:Int) (r1:(List Tl05Place)):Nat→(List Int)→Int→Option ((List Int) × Int)
 | 0,_,_=>none
 | n+1,x1,i1 =>
  bif decide (i1<(r1.length:Int)) then
   (
    (idx r1 i1).bind fun y1 =>
    bif (y1.net==net) then
     (idx r1 i1).bind fun y2 =>
     some (!y2.drives)
    else
     some false).bind fun b1 =>
   bif b1 then
    (appS x1 ([i1]:List Int)).bind fun x2 =>
    qcv net r1 n x2 (W64 (i1+1))
   else
    qcv net r1 n x1 (W64 (i1+1))
  else
   some (x1,i1)
def qgj (n:Nat) (d:qf) (net:Int):Option (List Int) :=
 (qcd n d).bind fun r1 =>
 (qcv net r1 n ([]:List Int) 0).bind fun o=>match o with
 | (x1,_) =>
  some x1
theorem qi0 {d:qf} {net:Int} (ha1:GoT.R w (old w) d cs1) {r:(List Int)} (hF:qgj n d net=some r):RetV Tryz.prog 146 [GoT.v qf cs1,.int .i64 net] w r:=by
 obtain ⟨p1,k1,p2,k2,p3,k3,rfl,s1,s2,s3⟩:=qaA ha1
 refine zV 37 Tryz.func146 rfl fun h=>zSR (qt h rfl rfl fun w1 bb1 h=>X0 4 rfl (qG qa [] _ ([]:List Int) h rfl rfl rfl rfl rfl rfl rfl rfl rfl trivial rfl fun w2 p4 S1 h=>X1 5 1 h rfl (zcL h hF (qb5 (h.old ha1)) rfl fun r1 w3 S2 p5 k4 h hF=>X0 7 rfl ?_)))
 obtain ⟨o1,hF,hK1⟩:=qc hF
 refine qm ?_
 replace h:=h.pick [0,1] rfl
 refine rL (fun m e w'=>∃ (S3:Nat→Prop) (p6:Option Addr) (ln1:Nat) (k5:Nat) (x1:(List Int)) (i1:Int),qcv net r1 m x1 i1=some o1∧e=[(1,.int .i64 net),(5,.slice p6 ln1 k5),(6,.slice p5 r1.length k4),(7,.int .i64 i1)]∧SH w w' [Ch.own S2 (r1:List Tl05Place) [.slice p5 r1.length k4],Ch.own S3 (x1:List Int) [.slice p6 ln1 k5]]) n ⟨_,_,_,_,_,_,hF,rfl,h⟩ rfl ?_
 rintro m1 e1 w4 ⟨S3,p6,ln1,k5,x1,i1,hF,rfl,h⟩
 obtain rfl:=(h.sl 1 rfl).2
 rcases m1 with _|m1
 ·cases hF
 refine X0 8 rfl (qi rfl hF ?_ ?_)<;>intro hF
 ·refine X0 4 rfl ?_
  obtain ⟨KF1,hKF1,o2,hF,hK2⟩:=bindE hF
  refine qa0 (fun e w'=>∃ (b1:Bool),KF1 b1=some o1∧e=[(1,.int .i64 net),(5,.slice p6 x1.length k5),(6,.slice p5 r1.length k4),(7,.int .i64 i1),(31,.bool b1)]∧SH w w' [Ch.own S2 (r1:List Tl05Place) [.slice p5 r1.length k4],Ch.own S3 (x1:List Int) [.slice p6 x1.length k5]]) ?_ ?_
  ·refine X0 3 rfl ?_
   obtain ⟨y1,hy1,hF,he1,b2,_,q1,cs2,hp1,hq1,hr2,hc3⟩:=(h.sl 0 rfl).1.ix hF
   obtain rfl:=qbQ hr2
   refine zx hp1 hq1 ⟨he1.1,qK he1.2.1 (h.sl 0 rfl).2⟩ rfl (zp1 rfl (zc 2 hc3 rfl (zp3 rfl (qh (t:=24) hF rfl ?_ ?_))))<;>intro hF
   ·refine X0 5 rfl ?_
    obtain ⟨y2,hy2,hF,he2,b3,_,q2,cs3,hp2,hq2,hr3,hc4⟩:=(h.sl 0 rfl).1.ix hF
    obtain rfl:=qbQ hr3
    refine zx hp2 hq2 ⟨he2.1,qK he2.2.1 (h.sl 0 rfl).2⟩ rfl (X0 3 rfl (zc 3 hc4 rfl (X0 4 rfl ?_)))
    obtain rfl:=qb hF
    exact rG ⟨_,hK2,rfl,h⟩ rfl
   refine X0 8 rfl ?_
   obtain rfl:=qb hF
   exact rG ⟨_,hK2,rfl,h⟩ rfl
  rintro e2 w7 ⟨b1,hF,rfl,h⟩
  subst hKF1
  refine qi rfl hF ?_ ?_<;>intro hF
  ·refine X0 3 rfl (qG qa [.tmp 33] _ ([i1]:List Int) h rfl rfl rfl rfl rfl rfl rfl rfl rfl ⟨rfl,trivial⟩ rfl fun w5 p7 S4 h=>?_)
   obtain ⟨x2,hx1,hF⟩:=qc hF
   obtain ⟨g1,hx1⟩:=qav hx1
   refine qcl qa 2 h rfl (h.sl 0 rfl).1 (h.sl 0 rfl).2 rfl rfl rfl rfl rfl rfl rfl rfl rfl g1 hx1 rfl fun w6 p8 k6 S5 h=>X0 8 rfl ?_
   replace h:=h.pick [1,2] rfl
   exact rK ⟨_,_,_,_,_,_,hF,rfl,h⟩ rfl
  exact X0 7 rfl (rK ⟨_,_,_,_,_,_,hF,rfl,h⟩ rfl)
 refine qr rfl ?_
 obtain rfl:=qb hF;replace hF:=hK1
 refine X0 5 rfl ?_
 obtain rfl:=qb hF
 exact rO 1 h rfl ⟨rfl,trivial⟩
def qeE (b:qe):Nat→Int→Option (Flow Bool Int)
 | 0,_=>none
 | n+1,i1 =>
  bif decide (i1<(b.Ac.length:Int)) then
   (idx b.Ac i1).bind fun y1 =>
   (qgj n (⟨b.Aa.Ab,b.Aa.Ai,b.Aa.Ah⟩:qf) i1).bind fun r1 =>
   (qlc n y1 (r1.length:Int)).bind fun r2 =>
   bif (!r2) then some (.ret false) else
   qeE b n (W64 (i1+1))
  else
   some (.nxt i1)
def qeT (n:Nat) (b:qe):Option Bool :=
 (
  (qjm n (⟨b.Aq.Ap⟩:qv) (⟨b.Aa.Ab,b.Aa.Ai,b.Aa.Ah⟩:qf)).bind fun r3 =>
  bif (!r3) then some true else
  some ((b.Ac.length:Int) != (b.Aa.Ai.length:Int))).bind fun b1 =>
 bif b1 then some false else
 (qeE b n 0).bind fun o=>match o with
 | .ret r=>some r
 | .nxt _ =>
  some true
theorem qjU {b:qe} (ha1:GoT.R w (old w) b cs1) {r:Bool} (hF:qeT n b=some r):RetV Tryz.prog 69 [GoT.v qe cs1] w r:=by
 obtain ⟨p1,k1,p2,k2,p3,k3,p4,k4,p5,k5,rfl,s1,s2,s3,s4,s5⟩:=qD ha1
 refine zV 39 Tryz.func69 rfl fun h=>zSR (qt h rfl rfl fun w1 bb1 h=>X0 4 rfl ?_)
 obtain ⟨KF1,hKF1,o2,hF,hK2⟩:=bindE hF
 refine qa0 (fun e w'=>∃ (b1:Bool),KF1 b1=some r∧e=[(1,.pointer (some ⟨bb1,0,none⟩)),(19,.bool b1)]∧SH w w' [Ch.box bb1 (qZ b p1 p2 p3 p4 p5 k1 k2 k3 k4 k5) 53]) ?_ ?_
 ·refine X2 5 0 0 h rfl (zcB h hF (qpE (qeX _ (h.oldS s1)) (qan _ (h.oldS s2) (h.oldS s3) (h.oldS s4))) rfl fun r3 w6 h hF=>zp2 rfl (qh (t:=10) hF rfl ?_ ?_))<;>intro hF
  ·refine X0 10 rfl ?_
   obtain rfl:=qb hF
   exact rG ⟨_,hK2,rfl,h⟩ rfl
  refine X2 18 0 0 h rfl ?_
  obtain rfl:=qb hF
  exact rG ⟨_,hK2,rfl,h⟩ rfl
 rintro e2 w7 ⟨b1,hF,rfl,h⟩
 subst hKF1
 refine qi rfl hF ?_ ?_<;>intro hF
 ·exact X0 4 rfl (rb h hF rfl)
 refine X0 6 rfl ?_
 obtain ⟨o1,hF,hK1⟩:=qc hF
 refine qm (rL (fun m e w'=>∃ (i1:Int),qeE b m i1=some o1∧e=[(1,.pointer (some ⟨bb1,0,none⟩)),(3,.int .i64 i1)]∧SH w w' [Ch.box bb1 (qZ b p1 p2 p3 p4 p5 k1 k2 k3 k4 k5) 53]) n ⟨_,hF,rfl,h⟩ rfl ?_)
 rintro m1 e1 w2 ⟨i1,hF,rfl,h⟩
 rcases m1 with _|m1
 ·cases hF
 refine X1 9 0 h rfl (qi rfl hF ?_ ?_)<;>intro hF
 ·refine X0 4 rfl (rA [] [0] h rfl fun w3 h=>M1 7 [0,1,2] 0 (h.pick [0] rfl) rfl ?_)
  obtain ⟨y1,hy1,hF,he1,b2,_,q1,cs2,hp1,hq1,hr1,hc3⟩:=s5.ix hF
  obtain ⟨p6,k6,p7,k7,p8,k8,p9,k9,rfl,s6,s7,s8,s9⟩:=qaQ hr1
  refine Ae 3 15 hp1 hq1 he1 (h.pick [0] rfl) rfl (Al 4 31 0 hc3 (h.pick [0] rfl) rfl (M1 255 [5,6,7] 0 (h.pick [0] rfl) rfl (Ao 8 511 rfl (zcL h hF (qi0 (qan _ (h.oldS s2) (h.oldS s3) (h.oldS s4))) rfl fun r1 w4 S1 p10 k10 h hF=>G0 1023 [9] (h.pick [1] rfl) rfl (Ao 10 2047 rfl (zcB h hF (qqT (qkl y1 (h.oldS s6) (h.oldS s7) (h.oldS s8) (h.oldS s9))) rfl fun r2 w5 h hF=>G0 4095 [11] (h.pick [1] rfl) rfl (Ad (qi rfl hF ?_ ?_))))))))<;>intro hF
  ·refine X0 4 rfl ?_
   obtain rfl:=qb hF;replace hF:=hK1
   exact rb h hF rfl
  refine X0 7 rfl ?_
  replace h:=h.pick [1] rfl
  exact rK ⟨_,hF,rfl,h⟩ rfl
 refine qr rfl ?_
 obtain rfl:=qb hF;replace hF:=hK1
 exact X0 4 rfl (rb h hF rfl)
def qaK (_:Nat) (x:Int) (low:Int) (high:Int):Option Bool :=
 bif decide (x ≥ low) then some (decide (x≤high)) else
 some false
theorem qaB {x:Int} {low:Int} {high:Int}  {r:Bool} (hF:qaK n x low high=some r):RetV Tryz.prog 103 [.int .i64 x,.int .i64 low,.int .i64 high] w r:=by
 refine zV 15 Tryz.func103 rfl fun h=>X0 10 rfl (qh (t:=10) hF rfl ?_ ?_)<;>intro hF
 ·exact X0 9 rfl (rb h hF rfl)
 exact X0 6 rfl (rb h hF rfl)
def qh0 (_:Nat) (list:(List ByteArray)):Option Int :=
 some (list.length:Int)
theorem qmS {list:(List ByteArray)} (ha1:GoT.R w (old w) list cs1) {r:Int} (hF:qh0 n list=some r):RetV Tryz.prog 205 [GoT.v (List ByteArray) cs1] w r:=by
 obtain ⟨p1,k1,rfl,s1⟩:=ha1
 exact zV 5 Tryz.func205 rfl fun h=>X0 10 rfl (ri h hF rfl)
def qb6 (n:Nat) (d:qf) (net:Int):Option Bool :=
 (qh0 n d.Ai).bind fun r1 =>
 (qaK n net 0 (W64 (r1-1))).bind fun r2 =>
 some r2
theorem qds {d:qf} {net:Int} (ha1:GoT.R w (old w) d cs1) {r:Bool} (hF:qb6 n d net=some r):RetV Tryz.prog 129 [GoT.v qf cs1,.int .i64 net] w r:=by
 obtain ⟨p1,k1,p2,k2,p3,k3,rfl,s1,s2,s3⟩:=qaA ha1
 exact zV 11 Tryz.func129 rfl fun h=>zSR (qt h rfl rfl fun w1 bb1 h=>X1 7 0 h rfl (zcI h hF (qmS ⟨_,_,rfl,(h.oldS s2)⟩) rfl fun r1 w2 h hF=>zp1 rfl (zcB h hF qaB rfl fun r2 w3 h hF=>X0 2 rfl (rb h hF rfl))))
def qip (_:Nat) (s cutset:ByteArray):Option ByteArray :=
 if s.size≤9223372036854775807∧cutset.size<4294967281∧cutset.data.toList.all (fun b=>decide (b.toNat<128))=true then some ⟨(Lib.trimS s.data.toList cutset.data.toList).toArray⟩ else none
theorem qp2 {s cutset:ByteArray} {r:ByteArray} (hF:qip n s cutset=some r):RetV Tryz.prog 233 [.string s,.string cutset] w r:=by
 unfold qip at hF
 split at hF
 ·rename_i hh
  obtain rfl:=qb hF
  refine (Tryz.strings_Trim_any s cutset w hh.1 hh.2.1 hh.2.2).mono ?_
  rintro e w' ⟨rfl,hB⟩
  exact ⟨_,rfl,hB,[.string _],rfl,qyH _ _⟩
 cases hF
def qgz (_:Nat) (s:ByteArray) (c:(IntK .u8)):Option Int :=
 some (Lib.indexByte s.data.toList c.val.toNat.toUInt8)
theorem qm3 {s:ByteArray} {c:(IntK .u8)} {r:Int} (hF:qgz n s c=some r):RetV Tryz.prog 234 [.string s,.int .u8 c.val] w r:=by
 obtain rfl:=qb hF
 refine (Tryz.strings_IndexByte s c.val w).mono ?_
 rintro e w' ⟨rfl,rfl⟩
 exact ⟨_,rfl,Below.refl _ _,[.int .i64 _],rfl,qxo _ _⟩
def qh9 (n:Nat) (s:ByteArray):Option Bool :=
 (qaK n (s.size:Int) 1 8).bind fun r1 =>
 bif r1 then
  (qip n s (⟨#[97,98,99,100,101,102,103,104,105,106,107,108,109,110,111,112,113,114,115,116,117,118,119,120,121,122,48,49,50,51,52,53,54,55,56,57]⟩:ByteArray)).bind fun r2 =>
  bif (r2.toList==(⟨#[]⟩:ByteArray).toList) then
   (atS s 0).bind fun y1 =>
   (qgz n (⟨#[97,98,99,100,101,102,103,104,105,106,107,108,109,110,111,112,113,114,115,116,117,118,119,120,121,122]⟩:ByteArray) (⟨y1⟩:IntK .u8)).bind fun r3 =>
   some (decide (r3 ≥ 0))
  else
   some false
 else
  some false
theorem qkN {s:ByteArray}  {r:Bool} (hF:qh9 n s=some r):RetV Tryz.prog 164 [.string s] w r:=by
 refine zV 17 Tryz.func164 rfl fun h=>X0 8 rfl (zcB h hF qaB rfl fun r1 w1 h hF=>zp1 rfl (qh (t:=6) hF rfl ?_ ?_))<;>intro hF
 ·refine X0 3 rfl (zcS h hF qp2 rfl fun r2 w2 h hF=>X0 4 rfl (qh (t:=11) hF rfl ?_ ?_))<;>intro hF
  ·refine X0 3 rfl ?_
   obtain ⟨y1,hx1,hF⟩:=qc hF
   have g1:=qno hx1
   exact r_v (qnh qa g1 rfl rfl rfl rfl) rfl (X0 1 rfl (zcI h hF qm3 rfl fun r3 w3 h hF=>X0 5 rfl (rb h hF rfl)))
  exact X0 7 rfl (rb h hF rfl)
 exact X0 12 rfl (rb h hF rfl)
def qcn (_:Nat) (list:(List qax)):Option Int :=
 some (list.length:Int)
theorem qh7 {list:(List qax)} (ha1:GoT.R w (old w) list cs1) {r:Int} (hF:qcn n list=some r):RetV Tryz.prog 248 [GoT.v (List qax) cs1] w r:=by
 obtain ⟨p1,k1,rfl,s1⟩:=ha1
 exact zV 5 Tryz.func248 rfl fun h=>X0 10 rfl (ri h hF rfl)
def qbY (s:(List ByteArray)) (v:ByteArray):Nat→Int→Option (Flow Int Int)
 | 0,_=>none
 | n+1,i1 =>
  bif decide (i1<(s.length:Int)) then
   (idx s i1).bind fun y1 =>
   bif (v.toList==y1.toList) then some (.ret i1) else
   qbY s v n (W64 (i1+1))
  else
   some (.nxt i1)
def qfg (n:Nat) (s:(List ByteArray)) (v:ByteArray):Option Int :=
 (qbY s v n 0).bind fun o=>match o with
 | .ret r=>some r
 | .nxt _ =>
  some (-1)
theorem qmy {s:(List ByteArray)} {v:ByteArray} (ha1:GoT.R w (old w) s cs1) {r:Int} (hF:qfg n s v=some r):RetV Tryz.prog 320 [GoT.v (List ByteArray) cs1,.string v] w r:=by
 obtain ⟨p1,k1,rfl,s1⟩:=ha1
 refine zV 19 Tryz.func320 rfl fun h=>X0 11 rfl ?_
 obtain ⟨o1,hF,hK1⟩:=qc hF
 refine qm (rL (fun m e w'=>∃ (i1:Int),qbY s v m i1=some o1∧e=[(0,.slice p1 s.length k1),(1,.string v),(7,.int .i64 (s.length:Int)),(8,.int .i64 i1)]∧SH w w' []) n ⟨_,hF,rfl,h⟩ rfl ?_)
 rintro m1 e1 w1 ⟨i1,hF,rfl,h⟩
 rcases m1 with _|m1
 ·cases hF
 refine X0 5 rfl (qi rfl hF ?_ ?_)<;>intro hF
 ·refine X0 13 rfl ?_
  obtain ⟨y1,hy1,hF,he1,b1,_,q1,cs2,hp1,hq1,rfl,hc2⟩:=s1.ix hF
  refine zxe hp1 hq1 he1 rfl (zc 0 (hc2.below h.below) rfl (X0 2 rfl (qi rfl hF ?_ ?_)))<;>intro hF
  ·refine X0 5 rfl ?_
   obtain rfl:=qb hF;replace hF:=hK1
   exact ri h hF rfl
  exact X0 6 rfl (rK ⟨_,hF,rfl,h⟩ rfl)
 refine qr rfl ?_
 obtain rfl:=qb hF;replace hF:=hK1
 exact X0 4 rfl (ri h hF rfl)
def qdW (n:Nat) (s:(List ByteArray)) (v:ByteArray):Option Bool :=
 (qfg n s v).bind fun r1 =>
 some (decide (r1 ≥ 0))
theorem qk1 {s:(List ByteArray)} {v:ByteArray} (ha1:GoT.R w (old w) s cs1) {r:Bool} (hF:qdW n s v=some r):RetV Tryz.prog 301 [GoT.v (List ByteArray) cs1,.string v] w r:=by
 obtain ⟨p1,k1,rfl,s1⟩:=ha1
 exact zV 9 Tryz.func301 rfl fun h=>X0 8 rfl (zcI h hF (qmy ⟨_,_,rfl,(h.oldS s1)⟩) rfl fun r1 w1 h hF=>X0 3 rfl (rb h hF rfl))
def qeg (list:(List ByteArray)):Nat→Int→Option (Flow Bool Int)
 | 0,_=>none
 | n+1,i1 =>
  bif decide (i1<(list.length:Int)) then
   (idx list i1).bind fun y1 =>
   (qh9 n y1).bind fun r1 =>
   bif (!r1) then some (.ret false) else
   (subS list 0 i1).bind fun x1 =>
   (qdW n x1 y1).bind fun r2 =>
   bif r2 then some (.ret false) else
   qeg list n (W64 (i1+1))
  else
   some (.nxt i1)
def qd3 (n:Nat) (list:(List ByteArray)):Option Bool :=
 (qeg list n 0).bind fun o=>match o with
 | .ret r=>some r
 | .nxt _ =>
  some true
theorem qfy {list:(List ByteArray)} (ha1:GoT.R w (old w) list cs1) {r:Bool} (hF:qd3 n list=some r):RetV Tryz.prog 267 [GoT.v (List ByteArray) cs1] w r:=by
 obtain ⟨p1,k1,rfl,s1⟩:=ha1
 refine zV 23 Tryz.func267 rfl fun h=>X0 11 rfl ?_
 obtain ⟨o1,hF,hK1⟩:=qc hF
 refine qm (rL (fun m e w'=>∃ (i1:Int),qeg list m i1=some o1∧e=[(0,.slice p1 list.length k1),(5,.slice p1 list.length k1),(6,.int .i64 (list.length:Int)),(7,.int .i64 i1)]∧SH w w' []) n ⟨_,hF,rfl,h⟩ rfl ?_)
 rintro m1 e1 w1 ⟨i1,hF,rfl,h⟩
 rcases m1 with _|m1
 ·cases hF
 refine X0 5 rfl (qi rfl hF ?_ ?_)<;>intro hF
 ·refine X0 6 rfl ?_
  obtain ⟨y1,hy1,hF,he1,b1,_,q1,cs2,hp1,hq1,rfl,hc2⟩:=s1.ix hF
  refine zxe hp1 hq1 he1 rfl (zc 0 (hc2.below h.below) rfl (X0 6 rfl (zcB h hF qkN rfl fun r1 w2 h hF=>zp2 rfl (qh (t:=15) hF rfl ?_ ?_))))<;>intro hF
  ·refine X0 7 rfl (qbV rfl rfl (X0 4 rfl ?_))
   obtain rfl:=qb hF;replace hF:=hK1
   exact rb h hF rfl
  refine X0 5 rfl ?_
  obtain ⟨x1,hx1,hF⟩:=qc hF
  obtain ⟨p2,k2,hp2,hk1,hl1,g1⟩:=qwQ (h.oldS s1) hx1
  refine r_v (qta qa rfl rfl rfl (qwr g1 rfl) hp2 hk1 hl1 rfl rfl rfl rfl) rfl ?_
  have s2:=qv7 s1 hx1 hp2 hk1
  refine X0 3 rfl (zcB h hF (qk1 ⟨_,_,rfl,(h.oldS s2)⟩) rfl fun r2 w3 h hF=>X0 2 rfl (qi rfl hF ?_ ?_))<;>intro hF
  ·refine X0 4 rfl ?_
   obtain rfl:=qb hF;replace hF:=hK1
   exact rb h hF rfl
  exact X0 6 rfl (rK ⟨_,hF,rfl,h⟩ rfl)
 refine qr rfl ?_
 obtain rfl:=qb hF;replace hF:=hK1
 exact X0 4 rfl (rb h hF rfl)
def qcV (list:(List qax)):Nat→(List ByteArray)→Int→Option (Flow Bool ((List ByteArray) × Int))
 | 0,_,_=>none
 | n+1,x1,i1 =>
  bif decide (i1<(list.length:Int)) then
   (idx list i1).bind fun y1 =>
   (appS x1 ([y1.Az]:List ByteArray)).bind fun x2 =>
   bif (i1==(W64 ((list.length:Int)-1))) then
    bif (y1.Bs != 2) then some (.ret false) else
    bif (y1.Bq != 0) then some (.ret false) else
    bif y1.Bm then some (.ret false) else
    qcV list n x2 (W64 (i1+1))
   else
    bif (y1.Bs != 1) then some (.ret false) else
    (qaK n y1.Bq 0 500).bind fun r1 =>
    bif (!r1) then some (.ret false) else
    qcV list n x2 (W64 (i1+1))
  else
   some (.nxt (x1,i1))
def qkh (n:Nat) (list:(List qax)):Option Bool :=
 (qcV list n ([]:List ByteArray) 0).bind fun o=>match o with
 | .ret r=>some r
 | .nxt (x1,_) =>
  (qcn n list).bind fun r2 =>
  (qaK n r2 2 5).bind fun r3 =>
  bif r3 then
   (qd3 n x1).bind fun r4 =>
   some r4
  else
   some false
theorem qp7 {list:(List qax)} (ha1:GoT.R w (old w) list cs1) {r:Bool} (hF:qkh n list=some r):RetV Tryz.prog 298 [GoT.v (List qax) cs1] w r:=by
 obtain ⟨p1,k1,rfl,s1⟩:=ha1
 refine zV 52 Tryz.func298 rfl fun h=>X0 15 rfl ?_
 replace h:=h.nil (α:=ByteArray)
 obtain ⟨o1,hF,hK1⟩:=qc hF
 refine qm (rL (fun m e w'=>∃ (S1:Nat→Prop) (p2:Option Addr) (ln1:Nat) (k2:Nat) (x1:(List ByteArray)) (i1:Int),qcV list m x1 i1=some o1∧e=[(0,.slice p1 list.length k1),(3,.slice p2 ln1 k2),(6,.slice p1 list.length k1),(7,.int .i64 (list.length:Int)),(8,.int .i64 i1)]∧SH w w' [Ch.own S1 (x1:List ByteArray) [.slice p2 ln1 k2]]) n ⟨_,_,_,_,_,_,hF,rfl,h⟩ rfl ?_)
 rintro m1 e1 w1 ⟨S1,p2,ln1,k2,x1,i1,hF,rfl,h⟩
 obtain rfl:=(h.sl 0 rfl).2
 rcases m1 with _|m1
 ·cases hF
 refine X0 5 rfl (qi rfl hF ?_ ?_)<;>intro hF
 ·refine X0 6 rfl ?_
  obtain ⟨y1,hy1,hF,he1,b1,_,q1,cs2,hp1,hq1,hr1,hc2⟩:=s1.ix hF
  obtain rfl:=qby hr1
  refine zxe hp1 hq1 he1 rfl (zc 0 (hc2.below h.below) rfl (qn qa h rfl rfl rfl fun w2 bb1 h=>zp1 rfl (zs 0 h rfl fun w3 h=>X1 6 0 h rfl (qG qa [.tmp 15] _ ([y1.Az]:List ByteArray) h rfl rfl rfl rfl rfl rfl rfl rfl rfl ⟨rfl,trivial⟩ rfl fun w4 p3 S2 h=>?_))))
  obtain ⟨x2,hx1,hF⟩:=qc hF
  obtain ⟨g1,hx1⟩:=qav hx1
  refine qcl qa 2 h rfl (h.sl 0 rfl).1 (h.sl 0 rfl).2 rfl rfl rfl rfl rfl rfl rfl rfl rfl g1 hx1 rfl fun w5 p4 k3 S3 h=>X0 10 rfl (qi rfl hF ?_ ?_)<;>intro hF
  ·refine X1 6 1 h rfl (qh (t:=26) hF rfl ?_ ?_)<;>intro hF
   ·refine X0 9 rfl (qbV rfl rfl (X0 4 rfl ?_))
    obtain rfl:=qb hF;replace hF:=hK1
    exact rb h hF rfl
   refine X1 8 1 h rfl (qh (t:=31) hF rfl ?_ ?_)<;>intro hF
   ·refine X0 4 rfl (qbV rfl rfl (X0 4 rfl ?_))
    obtain rfl:=qb hF;replace hF:=hK1
    exact rb h hF rfl
   refine X1 6 1 h rfl (qi rfl hF ?_ ?_)<;>intro hF
   ·refine X0 4 rfl ?_
    obtain rfl:=qb hF;replace hF:=hK1
    exact rb h hF rfl
   refine X0 6 rfl ?_
   replace h:=h.pick [2] rfl
   exact rK ⟨_,_,_,_,_,_,hF,rfl,h⟩ rfl
  refine X1 6 1 h rfl (qh (t:=38) hF rfl ?_ ?_)<;>intro hF
  ·refine X0 6 rfl (qbV rfl rfl (X0 4 rfl ?_))
   obtain rfl:=qb hF;replace hF:=hK1
   exact rb h hF rfl
  refine X1 5 1 h rfl (zcB h hF qaB rfl fun r1 w6 h hF=>X0 4 rfl (qi rfl hF ?_ ?_))<;>intro hF
  ·refine X0 4 rfl ?_
   obtain rfl:=qb hF;replace hF:=hK1
   exact rb h hF rfl
  refine X0 6 rfl ?_
  replace h:=h.pick [2] rfl
  exact rK ⟨_,_,_,_,_,_,hF,rfl,h⟩ rfl
 refine qr rfl ?_
 obtain rfl:=qb hF;replace hF:=hK1
 refine X0 3 rfl (zcI h hF (qh7 ⟨_,_,rfl,(h.oldS s1)⟩) rfl fun r2 w7 h hF=>zcB h hF qaB rfl fun r3 w8 h hF=>zp1 rfl (qh (t:=48) hF rfl ?_ ?_))<;>intro hF
 ·exact X0 3 rfl (zcB h hF (qfy (h.own 0 rfl)) rfl fun r4 w9 h hF=>X0 3 rfl (rb h hF rfl))
 exact X0 5 rfl (rb h hF rfl)
def qee (n:Nat) (c:qC):Option Int :=
 (qcn n c.Ay).bind fun r1 =>
 some (W64 (r1-1))
theorem qhu {c:qC} (ha1:GoT.R w (old w) c cs1) {r:Int} (hF:qee n c=some r):RetV Tryz.prog 188 [GoT.v qC cs1] w r:=by
 obtain ⟨p1,k1,p2,k2,p3,k3,rfl,s1,s2,s3⟩:=qaf ha1
 exact zV 7 Tryz.func188 rfl fun h=>zSR (qt h rfl rfl fun w1 bb1 h=>X1 6 0 h rfl (zcI h hF (qh7 ⟨_,_,rfl,(h.oldS s1)⟩) rfl fun r1 w2 h hF=>X0 3 rfl (ri h hF rfl)))
def qj2 (_:Nat) (kind:Int):Option Bool :=
 bif (kind==4) then some true else
 some (kind==5)
theorem qp1 {kind:Int}  {r:Bool} (hF:qj2 n kind=some r):RetV Tryz.prog 329 [.int .i64 kind] w r:=by
 refine zV 9 Tryz.func329 rfl fun h=>X0 9 rfl (qh (t:=5) hF rfl ?_ ?_)<;>intro hF
 ·exact X0 5 rfl (rb h hF rfl)
 exact X0 7 rfl (rb h hF rfl)
def qha (n:Nat) (a_n:Int) (v0:Int) (v1:Int):Option Bool :=
 (qaK n a_n v0 v1).bind fun r1 =>
 some (!r1)
theorem qnT {a_n:Int} {v0:Int} {v1:Int} {p1:Option Addr} (ha1:GoT.R w (old w) (some v0) [.pointer p1]) {p2:Option Addr} (ha2:GoT.R w (old w) (some v1) [.pointer p2]) {r:Bool} (hF:qha n a_n v0 v1=some r):RetV Tryz.prog 166 [.int .i64 a_n,.pointer p1,.pointer p2] w r:=by
 obtain ⟨b1,o_1,cs1,rfl,-,hr1,hc1⟩:=PtR.get ha1 rfl
 obtain rfl:=hr1
 obtain ⟨b2,o_2,cs2,rfl,-,hr2,hc2⟩:=PtR.get ha2 rfl
 obtain rfl:=hr2
 exact zV 10 Tryz.func166 rfl fun h=>X0 7 rfl (zc 0 (hc1.below h.below) rfl (zc 0 (hc2.below h.below) rfl (zcB h hF qaB rfl fun r1 w1 h hF=>X0 3 rfl (rb h hF rfl))))
def qac (s:(List Int)) (f_0:Int) (f_1:Int):Nat→Int→Option (Flow Int Int)
 | 0,_=>none
 | n+1,i1 =>
  bif decide (i1<(s.length:Int)) then
   (idx s i1).bind fun y1 =>
   (qha n y1 f_0 f_1).bind fun r1 =>
   bif r1 then some (.ret i1) else
   qac s f_0 f_1 n (W64 (i1+1))
  else
   some (.nxt i1)
def qaW (n:Nat) (s:(List Int)) (f_0:Int) (f_1:Int):Option Int :=
 (qac s f_0 f_1 n 0).bind fun o=>match o with
 | .ret r=>some r
 | .nxt _ =>
  some (-1)
theorem qfX {s:(List Int)} {f_0:Int} {f_1:Int} (ha1:GoT.R w (old w) s cs1) {p2:Option Addr} (ha2:GoT.R w (old w) (some f_0) [.pointer p2]) {p3:Option Addr} (ha3:GoT.R w (old w) (some f_1) [.pointer p3]) {r:Int} (hF:qaW n s f_0 f_1=some r):RetV Tryz.prog 159 [GoT.v (List Int) cs1,.func (.func 166) #[] #[.pointer p2,.pointer p3]] w r:=by
 obtain ⟨p1,k1,rfl,s1⟩:=ha1
 obtain ⟨b1,o_1,cs2,rfl,-,hr1,hc1⟩:=PtR.get ha2 rfl
 obtain rfl:=hr1
 obtain ⟨b2,o_2,cs3,rfl,-,hr2,hc2⟩:=PtR.get ha3 rfl
 obtain rfl:=hr2
 refine zV 19 Tryz.func159 rfl fun h=>X0 11 rfl ?_
 obtain ⟨o1,hF,hK1⟩:=qc hF
 refine qm (rL (fun m e w'=>∃ (i1:Int),qac s f_0 f_1 m i1=some o1∧e=[(0,.slice p1 s.length k1),(1,.func (.func 166) #[] #[.pointer (some ⟨b1,o_1,none⟩),.pointer (some ⟨b2,o_2,none⟩)]),(7,.int .i64 (s.length:Int)),(8,.int .i64 i1)]∧SH w w' []) n ⟨_,hF,rfl,h⟩ rfl ?_)
 rintro m1 e1 w1 ⟨i1,hF,rfl,h⟩
 rcases m1 with _|m1
 ·cases hF
 refine X0 5 rfl (qi rfl hF ?_ ?_)<;>intro hF
 ·refine X0 13 rfl ?_
  obtain ⟨y1,hy1,hF,he1,b3,_,q1,cs4,hp1,hq1,rfl,hc4⟩:=s1.ix hF
  refine zxe hp1 hq1 he1 rfl (zc 0 (hc4.below h.below) rfl (zcB h hF (qnT (h.old ha2) (h.old ha3)) rfl fun r1 w2 h hF=>qcr (qi rfl hF ?_ ?_)))<;>intro hF
  ·refine X0 5 rfl ?_
   obtain rfl:=qb hF;replace hF:=hK1
   exact ri h hF rfl
  exact X0 6 rfl (rK ⟨_,hF,rfl,h⟩ rfl)
 refine qr rfl ?_
 obtain rfl:=qb hF;replace hF:=hK1
 exact X0 4 rfl (ri h hF rfl)
def qbB (n:Nat) (s:(List Int)) (f_0:Int) (f_1:Int):Option Bool :=
 (qaW n s f_0 f_1).bind fun r1 =>
 some (decide (r1 ≥ 0))
theorem qfe {s:(List Int)} {f_0:Int} {f_1:Int} (ha1:GoT.R w (old w) s cs1) {p2:Option Addr} (ha2:GoT.R w (old w) (some f_0) [.pointer p2]) {p3:Option Addr} (ha3:GoT.R w (old w) (some f_1) [.pointer p3]) {r:Bool} (hF:qbB n s f_0 f_1=some r):RetV Tryz.prog 80 [GoT.v (List Int) cs1,.func (.func 166) #[] #[.pointer p2,.pointer p3]] w r:=by
 obtain ⟨p1,k1,rfl,s1⟩:=ha1
 obtain ⟨b1,o_1,cs2,rfl,-,hr1,hc1⟩:=PtR.get ha2 rfl
 obtain rfl:=hr1
 obtain ⟨b2,o_2,cs3,rfl,-,hr2,hc2⟩:=PtR.get ha3 rfl
 obtain rfl:=hr2
 exact zV 9 Tryz.func80 rfl fun h=>X0 8 rfl (zcI h hF (qfX ⟨_,_,rfl,(h.oldS s1)⟩ (h.old ha2) (h.old ha3)) rfl fun r1 w1 h hF=>X0 3 rfl (rb h hF rfl))
def qbT (n:Nat) (list:(List Int)) (low:Int) (high:Int):Option Bool :=
 (qbB n list low high).bind fun r1 =>
 some (!r1)
theorem qb4 {list:(List Int)} {low:Int} {high:Int} (ha1:GoT.R w (old w) list cs1) {r:Bool} (hF:qbT n list low high=some r):RetV Tryz.prog 87 [GoT.v (List Int) cs1,.int .i64 low,.int .i64 high] w r:=by
 obtain ⟨p1,k1,rfl,s1⟩:=ha1
 exact zV 11 Tryz.func87 rfl fun h=>zSR (qt h rfl rfl fun w1 bb1 h=>qt h rfl rfl fun w2 bb2 h=>X0 6 rfl (zcB h hF (qfe ⟨_,_,rfl,(h.oldS s1)⟩ (qcp (x:=low) 1 h rfl rfl) (qcp (x:=high) 0 h rfl rfl)) rfl fun r1 w3 h hF=>X0 3 rfl (rb h hF rfl)))
def qbs (_:Nat) (list:(List Int)):Option Int :=
 some (list.length:Int)
theorem qcm {list:(List Int)} (ha1:GoT.R w (old w) list cs1) {r:Int} (hF:qbs n list=some r):RetV Tryz.prog 175 [GoT.v (List Int) cs1] w r:=by
 obtain ⟨p1,k1,rfl,s1⟩:=ha1
 exact zV 5 Tryz.func175 rfl fun h=>X0 10 rfl (ri h hF rfl)
def qbv (list:(List Int)):Nat→Int→Option (Flow Bool Int)
 | 0,_=>none
 | n+1,i1 =>
  bif decide (i1<(list.length:Int)) then
   (idx list (W64 (i1-1))).bind fun y1 =>
   (idx list i1).bind fun y2 =>
   bif decide (y1 ≥ y2) then some (.ret false) else
   qbv list n (W64 (i1+1))
  else
   some (.nxt i1)
def qdA (n:Nat) (list:(List Int)):Option Bool :=
 (qbv list n 1).bind fun o=>match o with
 | .ret r=>some r
 | .nxt _ =>
  some true
theorem qg1 {list:(List Int)} (ha1:GoT.R w (old w) list cs1) {r:Bool} (hF:qdA n list=some r):RetV Tryz.prog 179 [GoT.v (List Int) cs1] w r:=by
 obtain ⟨p1,k1,rfl,s1⟩:=ha1
 refine zV 20 Tryz.func179 rfl fun h=>X0 9 rfl ?_
 obtain ⟨o1,hF,hK1⟩:=qc hF
 refine qm (rL (fun m e w'=>∃ (i1:Int),qbv list m i1=some o1∧e=[(0,.slice p1 list.length k1),(3,.int .i64 i1)]∧SH w w' []) n ⟨_,hF,rfl,h⟩ rfl ?_)
 rintro m1 e1 w1 ⟨i1,hF,rfl,h⟩
 rcases m1 with _|m1
 ·cases hF
 refine X0 8 rfl (qi rfl hF ?_ ?_)<;>intro hF
 ·refine X0 4 rfl (rD (zd3 rfl ?_))
  obtain ⟨y1,hy1,hF,he1,b1,_,q1,cs2,hp1,hq1,rfl,hc2⟩:=s1.ix hF
  refine zdxe hp1 hq1 he1 rfl (zdc 0 (hc2.below h.below) rfl (zd2 rfl ?_))
  obtain ⟨y2,hy2,hF,he2,b2,_,q2,cs3,hp2,hq2,rfl,hc3⟩:=s1.ix hF
  refine zdxe hp2 hq2 he2 rfl (zdc 0 (hc3.below h.below) rfl (zd1 rfl (dN h fun w2 h=>qi rfl hF ?_ ?_)))<;>intro hF
  ·refine X0 4 rfl ?_
   obtain rfl:=qb hF;replace hF:=hK1
   exact rb h hF rfl
  exact X0 7 rfl (rK ⟨_,hF,rfl,h⟩ rfl)
 refine qr rfl ?_
 obtain rfl:=qb hF;replace hF:=hK1
 exact X0 4 rfl (rb h hF rfl)
def qjx (n:Nat) (list:(List Int)):Option Bool :=
 (qbs n list).bind fun r1 =>
 (qaK n r1 1 4).bind fun r2 =>
 bif r2 then
  (qbT n list 0 100000).bind fun r3 =>
  bif r3 then
   (qdA n list).bind fun r4 =>
   some r4
  else
   some false
 else
  some false
theorem qna {list:(List Int)} (ha1:GoT.R w (old w) list cs1) {r:Bool} (hF:qjx n list=some r):RetV Tryz.prog 348 [GoT.v (List Int) cs1] w r:=by
 obtain ⟨p1,k1,rfl,s1⟩:=ha1
 refine zV 14 Tryz.func348 rfl fun h=>X0 7 rfl (zcI h hF (qcm ⟨_,_,rfl,(h.oldS s1)⟩) rfl fun r1 w1 h hF=>zcB h hF qaB rfl fun r2 w2 h hF=>zp1 rfl (qh (t:=6) hF rfl ?_ ?_))<;>intro hF
 ·refine X0 3 rfl (zcB h hF (qb4 ⟨_,_,rfl,(h.oldS s1)⟩) rfl fun r3 w3 h hF=>zp2 rfl (qh (t:=10) hF rfl ?_ ?_))<;>intro hF
  ·exact X0 3 rfl (zcB h hF (qg1 ⟨_,_,rfl,(h.oldS s1)⟩) rfl fun r4 w4 h hF=>X0 3 rfl (rb h hF rfl))
  exact X0 5 rfl (rb h hF rfl)
 exact X0 9 rfl (rb h hF rfl)
def qkk (n:Nat) (t:qw):Option Bool :=
 (qjx n t.Bi).bind fun r1 =>
 bif r1 then
  (qjx n t.Bc).bind fun r2 =>
  bif r2 then
   bif ((t.Ba.length:Int)==(W64 ((t.Bi.length:Int)*(t.Bc.length:Int)))) then
    (qbT n t.Ba (-1000000) 1000000).bind fun r3 =>
    some r3
   else
    some false
  else
   some false
 else
  some false
theorem qqb {t:qw} (ha1:GoT.R w (old w) t cs1) {r:Bool} (hF:qkk n t=some r):RetV Tryz.prog 342 [GoT.v qw cs1] w r:=by
 obtain ⟨p1,k1,p2,k2,p3,k3,rfl,s1,s2,s3⟩:=qaH ha1
 refine zV 29 Tryz.func342 rfl fun h=>zSR (qt h rfl rfl fun w1 bb1 h=>X1 6 0 h rfl (zcB h hF (qna ⟨_,_,rfl,(h.oldS s1)⟩) rfl fun r1 w2 h hF=>zp1 rfl (qh (t:=6) hF rfl ?_ ?_)))<;>intro hF
 ·refine X1 5 0 h rfl (zcB h hF (qna ⟨_,_,rfl,(h.oldS s2)⟩) rfl fun r2 w3 h hF=>zp2 rfl (qh (t:=11) hF rfl ?_ ?_))<;>intro hF
  ·refine X3 24 0 0 0 h rfl (qh (t:=24) hF rfl ?_ ?_)<;>intro hF
   ·exact X1 5 0 h rfl (zcB h hF (qb4 ⟨_,_,rfl,(h.oldS s3)⟩) rfl fun r3 w4 h hF=>X0 3 rfl (rb h hF rfl))
   exact X0 6 rfl (rb h hF rfl)
  exact X0 19 rfl (rb h hF rfl)
 exact X0 24 rfl (rb h hF rfl)
def qcM (x:(List Int)):Nat→Int→Int→Option (Int × Int)
 | 0,_,_=>none
 | n+1,i1,i2 =>
  bif decide (i2<(x.length:Int)) then
   (idx x i2).bind fun y2 =>
   qcM x n (if y2<i1 then y2 else i1) (W64 (i2+1))
  else
   some (i1,i2)
def qhp (n:Nat) (x:(List Int)):Option Int :=
 (
  bif decide ((x.length:Int)<1) then none else
  some ()).bind fun _ =>
 (idx x 0).bind fun y1 =>
 (qcM x n y1 1).bind fun o=>match o with
 | (i1,_) =>
  some i1
theorem qnQ {x:(List Int)} (ha1:GoT.R w (old w) x cs1) {r:Int} (hF:qhp n x=some r):RetV Tryz.prog 343 [GoT.v (List Int) cs1] w r:=by
 obtain ⟨p1,k1,rfl,s1⟩:=ha1
 refine zV 25 Tryz.func343 rfl fun h=>X0 11 rfl ?_
 obtain ⟨KF1,hKF1,o2,hF,hK2⟩:=bindE hF
 refine qa0 (fun e w'=>KF1 ()=some r∧e=[(0,.slice p1 x.length k1)]∧SH w w' []) ?_ ?_
 ·refine qi rfl hF ?_ ?_<;>intro hF
  ·refine qlX ?_
   cases hF
  refine qhx ?_
  obtain rfl:=qb hF
  exact rG ⟨hK2,rfl,h⟩ rfl
 rintro e2 w2 ⟨hF,rfl,h⟩
 subst hKF1
 refine X0 3 rfl ?_
 obtain ⟨y1,hy1,hF,he1,b1,_,q1,cs2,hp1,hq1,rfl,hc1⟩:=s1.ix hF
 refine zxe hp1 hq1 he1 rfl (zc 0 (hc1.below h.below) rfl (X0 7 rfl ?_))
 obtain ⟨o1,hF,hK1⟩:=qc hF
 refine qm (rL (fun m e w'=>∃ (i1:Int) (i2:Int),qcM x m i1 i2=some o1∧e=[(0,.slice p1 x.length k1),(3,.int .i64 i1),(4,.int .i64 i2)]∧SH w w' []) n ⟨_,_,hF,rfl,h⟩ rfl ?_)
 rintro m1 e1 w1 ⟨i1,i2,hF,rfl,h⟩
 rcases m1 with _|m1
 ·cases hF
 refine X0 8 rfl (qi rfl hF ?_ ?_)<;>intro hF
 ·refine X0 7 rfl ?_
  obtain ⟨y2,hy2,hF,he2,b2,_,q2,cs3,hp2,hq2,rfl,hc3⟩:=s1.ix hF
  exact zxe hp2 hq2 he2 rfl (zc 0 (hc3.below h.below) rfl (X0 9 rfl (rK ⟨_,_,hF,rfl,h⟩ rfl)))
 refine qr rfl ?_
 obtain rfl:=qb hF;replace hF:=hK1
 exact X0 5 rfl (ri h hF rfl)
def qhj (n:Nat) (t:qw) (v0:Bool):Option Bool :=
 (qkk n t).bind fun r1 =>
 bif (!r1) then some true else
 bif v0 then
  (qhp n t.Ba).bind fun r2 =>
  some (decide (r2<0))
 else
  some false
theorem qnP {t:qw} {v0:Bool} (ha1:GoT.R w (old w) t cs1) {p4:Option Addr} (ha2:GoT.R w (old w) (some v0) [.pointer p4]) {r:Bool} (hF:qhj n t v0=some r):RetV Tryz.prog 341 [GoT.v qw cs1,.pointer p4] w r:=by
 obtain ⟨p1,k1,p2,k2,p3,k3,rfl,s1,s2,s3⟩:=qaH ha1
 obtain ⟨b1,o_1,cs2,rfl,-,hr1,hc1⟩:=PtR.get ha2 rfl
 obtain rfl:=hr1
 refine zV 16 Tryz.func341 rfl fun h=>zSR (qt h rfl rfl fun w1 bb1 h=>X1 5 0 h rfl (zcB h hF (qqb (h.old ha1)) rfl fun r1 w2 h hF=>zp2 rfl (qh (t:=7) hF rfl ?_ ?_)))<;>intro hF
 ·exact X0 10 rfl (rb h hF rfl)
 refine X0 1 rfl (zc 0 (hc1.below h.below) rfl (X0 2 rfl (qh (t:=9) hF rfl ?_ ?_)))<;>intro hF
 ·exact X1 5 0 h rfl (zcI h hF (qnQ ⟨_,_,rfl,(h.oldS s3)⟩) rfl fun r2 w3 h hF=>X0 7 rfl (rb h hF rfl))
 exact X0 9 rfl (rb h hF rfl)
def qQ (s:(List qw)) (f_0:Bool):Nat→Int→Option (Flow Int Int)
 | 0,_=>none
 | n+1,i1 =>
  bif decide (i1<(s.length:Int)) then
   (idx s i1).bind fun y1 =>
   (qhj n y1 f_0).bind fun r1 =>
   bif r1 then some (.ret i1) else
   qQ s f_0 n (W64 (i1+1))
  else
   some (.nxt i1)
def qaF (n:Nat) (s:(List qw)) (f_0:Bool):Option Int :=
 (qQ s f_0 n 0).bind fun o=>match o with
 | .ret r=>some r
 | .nxt _ =>
  some (-1)
theorem qe5 {s:(List qw)} {f_0:Bool} (ha1:GoT.R w (old w) s cs1) {p2:Option Addr} (ha2:GoT.R w (old w) (some f_0) [.pointer p2]) {r:Int} (hF:qaF n s f_0=some r):RetV Tryz.prog 347 [GoT.v (List qw) cs1,.func (.func 341) #[] #[.pointer p2]] w r:=by
 obtain ⟨p1,k1,rfl,s1⟩:=ha1
 obtain ⟨b1,o_1,cs2,rfl,-,hr1,hc1⟩:=PtR.get ha2 rfl
 obtain rfl:=hr1
 refine zV 19 Tryz.func347 rfl fun h=>X0 11 rfl ?_
 obtain ⟨o1,hF,hK1⟩:=qc hF
 refine qm (rL (fun m e w'=>∃ (i1:Int),qQ s f_0 m i1=some o1∧e=[(0,.slice p1 s.length k1),(1,.func (.func 341) #[] #[.pointer (some ⟨b1,o_1,none⟩)]),(7,.int .i64 (s.length:Int)),(8,.int .i64 i1)]∧SH w w' []) n ⟨_,hF,rfl,h⟩ rfl ?_)
 rintro m1 e1 w1 ⟨i1,hF,rfl,h⟩
 rcases m1 with _|m1
 ·cases hF
 refine X0 5 rfl (qi rfl hF ?_ ?_)<;>intro hF
 ·refine X0 13 rfl ?_
  obtain ⟨y1,hy1,hF,he1,b2,_,q1,cs3,hp1,hq1,hr2,hc3⟩:=s1.ix hF
  obtain ⟨p3,k2,p4,k3,p5,k4,rfl,s2,s3,s4⟩:=qaH hr2
  refine zxe hp1 hq1 he1 rfl (zc 0 (hc3.below h.below) rfl (zcB h hF (qnP (qe8 y1 (h.oldS s2) (h.oldS s3) (h.oldS s4)) (h.old ha2)) rfl fun r1 w2 h hF=>qcr (qi rfl hF ?_ ?_)))<;>intro hF
  ·refine X0 5 rfl ?_
   obtain rfl:=qb hF;replace hF:=hK1
   exact ri h hF rfl
  exact X0 6 rfl (rK ⟨_,hF,rfl,h⟩ rfl)
 refine qr rfl ?_
 obtain rfl:=qb hF;replace hF:=hK1
 exact X0 4 rfl (ri h hF rfl)
def qa4 (n:Nat) (s:(List qw)) (f_0:Bool):Option Bool :=
 (qaF n s f_0).bind fun r1 =>
 some (decide (r1 ≥ 0))
theorem qei {s:(List qw)} {f_0:Bool} (ha1:GoT.R w (old w) s cs1) {p2:Option Addr} (ha2:GoT.R w (old w) (some f_0) [.pointer p2]) {r:Bool} (hF:qa4 n s f_0=some r):RetV Tryz.prog 340 [GoT.v (List qw) cs1,.func (.func 341) #[] #[.pointer p2]] w r:=by
 obtain ⟨p1,k1,rfl,s1⟩:=ha1
 obtain ⟨b1,o_1,cs2,rfl,-,hr1,hc1⟩:=PtR.get ha2 rfl
 obtain rfl:=hr1
 exact zV 9 Tryz.func340 rfl fun h=>X0 8 rfl (zcI h hF (qe5 ⟨_,_,rfl,(h.oldS s1)⟩ (h.old ha2)) rfl fun r1 w1 h hF=>X0 3 rfl (rb h hF rfl))
def qfq (n:Nat) (list:(List qw)) (positive:Bool):Option Bool :=
 bif ((list.length:Int)==2) then
  (qa4 n list positive).bind fun r1 =>
  some (!r1)
 else
  some false
theorem qiL {list:(List qw)} {positive:Bool} (ha1:GoT.R w (old w) list cs1) {r:Bool} (hF:qfq n list positive=some r):RetV Tryz.prog 330 [GoT.v (List qw) cs1,.bool positive] w r:=by
 obtain ⟨p1,k1,rfl,s1⟩:=ha1
 refine zV 14 Tryz.func330 rfl fun h=>zSR (qt h rfl rfl fun w1 bb1 h=>X0 8 rfl (qh (t:=8) hF rfl ?_ ?_))<;>intro hF
 ·exact X0 5 rfl (zcB h hF (qei ⟨_,_,rfl,(h.oldS s1)⟩ (qcp (x:=positive) 0 h rfl rfl)) rfl fun r1 w2 h hF=>X0 5 rfl (rb h hF rfl))
 exact X0 7 rfl (rb h hF rfl)
def qiK (_:Nat) (p:qax):Option Bool :=
 some p.Bm
theorem qm6 {p:qax} (ha1:GoT.R w (old w) p cs1) {r:Bool} (hF:qiK n p=some r):RetV Tryz.prog 345 [GoT.v qax cs1] w r:=by
 obtain rfl:=qby ha1
 exact zV 5 Tryz.func345 rfl fun h=>zSR (qt h rfl rfl fun w1 bb1 h=>X1 8 0 h rfl (rb h hF rfl))
def qV (s:(List qax)):Nat→Int→Option (Flow Int Int)
 | 0,_=>none
 | n+1,i1 =>
  bif decide (i1<(s.length:Int)) then
   (idx s i1).bind fun y1 =>
   (qiK n y1).bind fun r1 =>
   bif r1 then some (.ret i1) else
   qV s n (W64 (i1+1))
  else
   some (.nxt i1)
def qbu (n:Nat) (s:(List qax)):Option Int :=
 (qV s n 0).bind fun o=>match o with
 | .ret r=>some r
 | .nxt _ =>
  some (-1)
theorem qfc {s:(List qax)} (ha1:GoT.R w (old w) s cs1) {r:Int} (hF:qbu n s=some r):RetV Tryz.prog 344 [GoT.v (List qax) cs1,.func (.func 345) #[] #[]] w r:=by
 obtain ⟨p1,k1,rfl,s1⟩:=ha1
 refine zV 19 Tryz.func344 rfl fun h=>X0 11 rfl ?_
 obtain ⟨o1,hF,hK1⟩:=qc hF
 refine qm (rL (fun m e w'=>∃ (i1:Int),qV s m i1=some o1∧e=[(0,.slice p1 s.length k1),(1,.func (.func 345) #[] #[]),(7,.int .i64 (s.length:Int)),(8,.int .i64 i1)]∧SH w w' []) n ⟨_,hF,rfl,h⟩ rfl ?_)
 rintro m1 e1 w1 ⟨i1,hF,rfl,h⟩
 rcases m1 with _|m1
 ·cases hF
 refine X0 5 rfl (qi rfl hF ?_ ?_)<;>intro hF
 ·refine X0 13 rfl ?_
  obtain ⟨y1,hy1,hF,he1,b1,_,q1,cs2,hp1,hq1,hr1,hc2⟩:=s1.ix hF
  obtain rfl:=qby hr1
  refine zxe hp1 hq1 he1 rfl (zc 0 (hc2.below h.below) rfl (zcB h hF (qm6 (qjH y1)) rfl fun r1 w2 h hF=>qcr (qi rfl hF ?_ ?_)))<;>intro hF
  ·refine X0 5 rfl ?_
   obtain rfl:=qb hF;replace hF:=hK1
   exact ri h hF rfl
  exact X0 6 rfl (rK ⟨_,hF,rfl,h⟩ rfl)
 refine qr rfl ?_
 obtain rfl:=qb hF;replace hF:=hK1
 exact X0 4 rfl (ri h hF rfl)
def qhS (n:Nat) (c:qC):Option Int :=
 (qbu n c.Ay).bind fun r1 =>
 some r1
theorem qoj {c:qC} (ha1:GoT.R w (old w) c cs1) {r:Int} (hF:qhS n c=some r):RetV Tryz.prog 331 [GoT.v qC cs1] w r:=by
 obtain ⟨p1,k1,p2,k2,p3,k3,rfl,s1,s2,s3⟩:=qaf ha1
 exact zV 6 Tryz.func331 rfl fun h=>zSR (qt h rfl rfl fun w1 bb1 h=>X1 6 0 h rfl (zcI h hF (qfc ⟨_,_,rfl,(h.oldS s1)⟩) rfl fun r1 w2 h hF=>X0 2 rfl (ri h hF rfl)))
def qgx (n:Nat) (c:qC) (pin:Int):Option Bool :=
 (qee n c).bind fun r1 =>
 (qaK n pin 0 (W64 (r1-1))).bind fun r2 =>
 some r2
theorem qjD {c:qC} {pin:Int} (ha1:GoT.R w (old w) c cs1) {r:Bool} (hF:qgx n c pin=some r):RetV Tryz.prog 332 [GoT.v qC cs1,.int .i64 pin] w r:=by
 obtain ⟨p1,k1,p2,k2,p3,k3,rfl,s1,s2,s3⟩:=qaf ha1
 exact zV 10 Tryz.func332 rfl fun h=>zSR (qt h rfl rfl fun w1 bb1 h=>X1 6 0 h rfl (zcI h hF (qhu (h.old ha1)) rfl fun r1 w2 h hF=>zp1 rfl (zcB h hF qaB rfl fun r2 w3 h hF=>X0 2 rfl (rb h hF rfl))))
def qhU (n:Nat) (a_0:qC) (a_1:qS):Option Bool :=
 (qj2 n a_1.As).bind fun r1 =>
 bif r1 then
  (
   bif (a_1.Bj==0) then
    bif ((a_1.Av.length:Int)==0) then
     (qfq n a_1.Bl false).bind fun r2 =>
     bif r2 then
      (qhS n a_0).bind fun r3 =>
      bif (a_1.Be==r3) then
       bif decide (a_1.Be ≥ 0) then
        (qgx n a_0 a_1.To).bind fun r4 =>
        bif r4 then some (a_1.To != a_1.Be) else
        some false
       else
        some false
      else
       some false
     else
      some false
    else
     some false
   else
    some false).bind fun b1 =>
  some b1
 else
  (
   (qfq n a_1.Bl true).bind fun r6 =>
   bif (!r6) then some true else
   (qfq n a_1.Av true).bind fun r7 =>
   bif (!r7) then some true else
   (qee n a_0).bind fun r8 =>
   bif (a_1.To != r8) then some true else
   (qgx n a_0 a_1.Be).bind fun r9 =>
   some (!r9)).bind fun b2 =>
  bif b2 then some false else
  bif (a_1.As==1) then
   (idx a_0.Ay a_1.Be).bind fun y1 =>
   bif (!y1.Bm) then
    (qaK n a_1.Bj 1 3).bind fun r5 =>
    some r5
   else
    some false
  else
   (
    bif (a_1.As==2) then some (a_1.As==2) else
    some (a_1.As==3)).bind fun b4 =>
   bif b4 then
    (idx a_0.Ay a_1.Be).bind fun y2 =>
    bif y2.Bm then some (a_1.Bj==0) else
    some false
   else
    some false
theorem qn8 {a_0:qC} {a_1:qS} (ha1:GoT.R w (old w) a_0 cs1) (ha2:GoT.R w (old w) a_1 cs2) {r:Bool} (hF:qhU n a_0 a_1=some r):RetV Tryz.prog 316 [GoT.v qC cs1,GoT.v qS cs2] w r:=by
 obtain ⟨p1,k1,p2,k2,p3,k3,rfl,s1,s2,s3⟩:=qaf ha1
 obtain ⟨p4,k4,p5,k5,rfl,s4,s5⟩:=qai ha2
 refine zV 103 Tryz.func316 rfl fun h=>zSR (qt h rfl rfl fun w1 bb1 h=>qt h rfl rfl fun w2 bb2 h=>X1 7 0 h rfl (zcB h hF qp1 rfl fun r1 w3 h hF=>qcr (qi rfl hF ?_ ?_)))<;>intro hF
 ·refine qci ?_
  obtain ⟨KF1,hKF1,o1,hF,hK1⟩:=bindE hF
  refine qa0 (fun e w'=>∃ (b1:Bool),KF1 b1=some r∧e=[(4,.bool b1)]∧SH w w' []) ?_ ?_
  ·refine rD (Y1 2 0 h rfl ?_)
   refine zd2 rfl (qaO (t:=11) hF rfl ?_ ?_)<;>intro hF
   ·refine Y1 4 0 h rfl ?_
    refine Y0 6 rfl (qaO (t:=17) hF rfl ?_ ?_)<;>intro hF
    ·refine Y1 4 0 h rfl ?_
     refine Y0 1 rfl ?_
     obtain ⟨r2,hr2,hF⟩:=qc hF
     refine qbj r2 (vsB _) (cB 330 rfl) (fun _ hb=>qiL ⟨_,_,rfl,((h.ext hb).oldS s4)⟩ hr2) rfl rfl rfl rfl (zd2 rfl (qaO (t:=22) hF rfl ?_ ?_))<;>intro hF
     ·refine Y1 4 0 h rfl ?_
      refine Y1 2 1 h rfl ?_
      refine Y0 1 rfl ?_
      obtain ⟨r3,hr3,hF⟩:=qc hF
      refine qbj r3 (vsI _) (cB 331 rfl) (fun _ hb=>qoj ((h.ext hb).old ha1) hr3) rfl rfl rfl rfl (Y0 4 rfl (qaO (t:=29) hF rfl ?_ ?_))<;>intro hF
      ·refine Y1 4 0 h rfl ?_
       refine Y0 4 rfl (qaO (t:=34) hF rfl ?_ ?_)<;>intro hF
       ·refine Y1 2 1 h rfl ?_
        refine Y1 4 0 h rfl ?_
        refine Y0 1 rfl ?_
        obtain ⟨r4,hr4,hF⟩:=qc hF
        refine qbj r4 (vsB _) (cB 332 rfl) (fun _ hb=>qjD ((h.ext hb).old ha1) hr4) rfl rfl rfl rfl (zd2 rfl (qaO (t:=40) hF rfl ?_ ?_))<;>intro hF
        ·refine Y1 4 0 h rfl ?_
         refine Y1 4 0 h rfl ?_
         refine Y0 4 rfl (dN h fun w4 h=>?_)
         replace h:=h.pick [] rfl
         obtain rfl:=qb hF
         exact rG ⟨_,hK1,rfl,h⟩ rfl
        refine Y0 7 rfl (dN h fun w5 h=>?_)
        replace h:=h.pick [] rfl
        obtain rfl:=qb hF
        exact rG ⟨_,hK1,rfl,h⟩ rfl
       refine Y0 13 rfl (dN h fun w6 h=>?_)
       replace h:=h.pick [] rfl
       obtain rfl:=qb hF
       exact rG ⟨_,hK1,rfl,h⟩ rfl
      refine Y0 18 rfl (dN h fun w7 h=>?_)
      replace h:=h.pick [] rfl
      obtain rfl:=qb hF
      exact rG ⟨_,hK1,rfl,h⟩ rfl
     refine Y0 25 rfl (dN h fun w8 h=>?_)
     replace h:=h.pick [] rfl
     obtain rfl:=qb hF
     exact rG ⟨_,hK1,rfl,h⟩ rfl
    refine Y0 30 rfl (dN h fun w9 h=>?_)
    replace h:=h.pick [] rfl
    obtain rfl:=qb hF
    exact rG ⟨_,hK1,rfl,h⟩ rfl
   refine Y0 36 rfl (dN h fun w10 h=>?_)
   replace h:=h.pick [] rfl
   obtain rfl:=qb hF
   exact rG ⟨_,hK1,rfl,h⟩ rfl
  rintro e1 w11 ⟨b1,hF,rfl,h⟩
  subst hKF1
  exact rb h hF rfl
 refine zKSS ?_
 obtain ⟨KF3,hKF3,o3,hF,hK3⟩:=bindE hF
 refine qa0 (fun e w'=>∃ (b2:Bool),KF3 b2=some r∧e=[(2,.pointer (some ⟨bb1,0,none⟩)),(3,.pointer (some ⟨bb2,0,none⟩)),(70,.bool b2)]∧SH w w' [Ch.box bb2 (qgJ a_1 p4 p5 k4 k5) 254,Ch.box bb1 (qdZ a_0 p1 p2 p3 k1 k2 k3) 251]) ?_ ?_
 ·refine rD (Y1 2 0 h rfl ?_)
  obtain ⟨r6,hr8,hF⟩:=qc hF
  refine qbj r6 (vsB _) (cB 330 rfl) (fun _ hb=>qiL ⟨_,_,rfl,((h.ext hb).oldS s4)⟩ hr8) rfl rfl rfl rfl (zd2 rfl (qaO (t:=51) hF rfl ?_ ?_))<;>intro hF
  ·refine Y0 19 rfl (dN h fun w14 h=>?_)
   obtain rfl:=qb hF
   exact rG ⟨_,hK3,rfl,h⟩ rfl
  refine Y1 4 0 h rfl ?_
  refine Y0 1 rfl ?_
  obtain ⟨r7,hr9,hF⟩:=qc hF
  refine qbj r7 (vsB _) (cB 330 rfl) (fun _ hb=>qiL ⟨_,_,rfl,((h.ext hb).oldS s5)⟩ hr9) rfl rfl rfl rfl (Y0 4 rfl (qaO (t:=57) hF rfl ?_ ?_))<;>intro hF
  ·refine Y0 13 rfl (dN h fun w15 h=>?_)
   obtain rfl:=qb hF
   exact rG ⟨_,hK3,rfl,h⟩ rfl
  refine Y1 4 0 h rfl ?_
  refine Y1 2 1 h rfl ?_
  refine Y0 1 rfl ?_
  obtain ⟨r8,hr10,hF⟩:=qc hF
  refine qbj r8 (vsI _) (cB 188 rfl) (fun _ hb=>qhu ((h.ext hb).old ha1) hr10) rfl rfl rfl rfl (Y0 4 rfl (qaO (t:=64) hF rfl ?_ ?_))<;>intro hF
  ·refine Y0 6 rfl (dN h fun w16 h=>?_)
   obtain rfl:=qb hF
   exact rG ⟨_,hK3,rfl,h⟩ rfl
  refine Y1 2 1 h rfl ?_
  refine Y1 4 0 h rfl ?_
  refine Y0 1 rfl ?_
  obtain ⟨r9,hr11,hF⟩:=qc hF
  refine qbj r9 (vsB _) (cB 332 rfl) (fun _ hb=>qjD ((h.ext hb).old ha1) hr11) rfl rfl rfl rfl (Y0 3 rfl (dN h fun w17 h=>?_))
  obtain rfl:=qb hF
  exact rG ⟨_,hK3,rfl,h⟩ rfl
 rintro e3 w18 ⟨b2,hF,rfl,h⟩
 subst hKF3
 refine qi rfl hF ?_ ?_<;>intro hF
 ·exact X0 4 rfl (rb h hF rfl)
 refine X1 13 0 h rfl (qi rfl hF ?_ ?_)<;>intro hF
 ·refine X2 6 1 0 h rfl ?_
  obtain ⟨y1,hy1,hF,he1,b3,_,q1,cs3,hp1,hq1,hr5,hc4⟩:=s1.ix hF
  obtain rfl:=qby hr5
  refine zxe hp1 hq1 he1 rfl (zp1 rfl (zc 3 (hc4.below h.below) rfl (zp2 rfl (qh (t:=83) hF rfl ?_ ?_))))<;>intro hF
  ·exact X1 5 0 h rfl (zcB h hF qaB rfl fun r5 w12 h hF=>X0 3 rfl (rb h hF rfl))
  exact X0 6 rfl (rb h hF rfl)
 refine X0 6 rfl ?_
 obtain ⟨KF2,hKF2,o2,hF,hK2⟩:=bindE hF
 refine qa0 (fun e w'=>∃ (b4:Bool),KF2 b4=some r∧e=[(2,.pointer (some ⟨bb1,0,none⟩)),(3,.pointer (some ⟨bb2,0,none⟩)),(88,.bool b4)]∧SH w w' [Ch.box bb2 (qgJ a_1 p4 p5 k4 k5) 254,Ch.box bb1 (qdZ a_0 p1 p2 p3 k1 k2 k3) 251]) ?_ ?_
 ·refine qi rfl hF ?_ ?_<;>intro hF
  ·refine qhx ?_
   obtain rfl:=qb hF
   exact rG ⟨_,hK2,rfl,h⟩ rfl
  refine X0 4 rfl ?_
  obtain rfl:=qb hF
  exact rG ⟨_,hK2,rfl,h⟩ rfl
 rintro e2 w13 ⟨b4,hF,rfl,h⟩
 subst hKF2
 refine qi rfl hF ?_ ?_<;>intro hF
 ·refine X2 6 1 0 h rfl ?_
  obtain ⟨y2,hy2,hF,he2,b5,_,q2,cs4,hp2,hq2,hr7,hc6⟩:=s1.ix hF
  obtain rfl:=qby hr7
  refine zxe hp2 hq2 he2 rfl (zp1 rfl (zc 3 (hc6.below h.below) rfl (zp1 rfl (qh (t:=98) hF rfl ?_ ?_))))<;>intro hF
  ·exact X1 9 0 h rfl (rb h hF rfl)
  exact X0 6 rfl (rb h hF rfl)
 exact X0 6 rfl (rb h hF rfl)
end Go.Fw


namespace Go.Fw
open Go Go.Proofs
open Go.RowKit (Below)
set_option maxRecDepth 100000
set_option maxHeartbeats 1600000
variable {n:Nat} {w:World} {cs1 cs2 cs3 cs4 cs5 cs6 cs7 cs8 cs9:List Value}
def qfi (_:Nat) (a_o:qS) (v0:qS):Option Bool :=
 bif (a_o.As==v0.As) then
  bif (a_o.Be==v0.Be) then some (a_o.To==v0.To) else
  some false
 else
  some false
theorem qme {a_o:qS} {v0:qS} (ha1:GoT.R w (old w) a_o cs1) {p3:Option Addr} (ha2:GoT.R w (old w) (some v0) [.pointer p3]) {r:Bool} (hF:qfi n a_o v0=some r):RetV Tryz.prog 318 [GoT.v qS cs1,.pointer p3] w r:=by
 obtain ⟨p1,k1,p2,k2,rfl,s1,s2⟩:=qai ha1
 obtain ⟨b1,o_1,cs2,rfl,-,hr1,hc1⟩:=PtR.get ha2 rfl
 obtain ⟨p4,k3,p5,k4,rfl,s3,s4⟩:=qai hr1
 refine zV 23 Tryz.func318 rfl fun h=>zSR (qt h rfl rfl fun w1 bb1 h=>X1 7 0 h rfl (zc 0 (hc1.below h.below) rfl (zp2 rfl (qh (t:=9) hF rfl ?_ ?_))))<;>intro hF
 ·refine X1 7 0 h rfl (zc 1 (hc1.below h.below) rfl (X0 4 rfl (qh (t:=16) hF rfl ?_ ?_)))<;>intro hF
  ·exact X1 7 0 h rfl (zc 2 (hc1.below h.below) rfl (X0 5 rfl (rb h hF rfl)))
  exact X0 8 rfl (rb h hF rfl)
 exact X0 15 rfl (rb h hF rfl)
def qO (s:(List qS)) (f_0:qS):Nat→Int→Option (Flow Int Int)
 | 0,_=>none
 | n+1,i1 =>
  bif decide (i1<(s.length:Int)) then
   (idx s i1).bind fun y1 =>
   (qfi n y1 f_0).bind fun r1 =>
   bif r1 then some (.ret i1) else
   qO s f_0 n (W64 (i1+1))
  else
   some (.nxt i1)
def qa9 (n:Nat) (s:(List qS)) (f_0:qS):Option Int :=
 (qO s f_0 n 0).bind fun o=>match o with
 | .ret r=>some r
 | .nxt _ =>
  some (-1)
theorem qez {s:(List qS)} {f_0:qS} (ha1:GoT.R w (old w) s cs1) {p2:Option Addr} (ha2:GoT.R w (old w) (some f_0) [.pointer p2]) {r:Int} (hF:qa9 n s f_0=some r):RetV Tryz.prog 180 [GoT.v (List qS) cs1,.func (.func 318) #[] #[.pointer p2]] w r:=by
 obtain ⟨p1,k1,rfl,s1⟩:=ha1
 obtain ⟨b1,o_1,cs2,rfl,-,hr1,hc1⟩:=PtR.get ha2 rfl
 obtain ⟨p3,k2,p4,k3,rfl,s2,s3⟩:=qai hr1
 refine zV 19 Tryz.func180 rfl fun h=>X0 11 rfl ?_
 obtain ⟨o1,hF,hK1⟩:=qc hF
 refine qm (rL (fun m e w'=>∃ (i1:Int),qO s f_0 m i1=some o1∧e=[(0,.slice p1 s.length k1),(1,.func (.func 318) #[] #[.pointer (some ⟨b1,o_1,none⟩)]),(7,.int .i64 (s.length:Int)),(8,.int .i64 i1)]∧SH w w' []) n ⟨_,hF,rfl,h⟩ rfl ?_)
 rintro m1 e1 w1 ⟨i1,hF,rfl,h⟩
 rcases m1 with _|m1
 ·cases hF
 refine X0 5 rfl (qi rfl hF ?_ ?_)<;>intro hF
 ·refine X0 13 rfl ?_
  obtain ⟨y1,hy1,hF,he1,b2,_,q1,cs3,hp1,hq1,hr2,hc3⟩:=s1.ix hF
  obtain ⟨p5,k4,p6,k5,rfl,s4,s5⟩:=qai hr2
  refine zxe hp1 hq1 he1 rfl (zc 0 (hc3.below h.below) rfl (zcB h hF (qme (qfp y1 (h.oldS s4) (h.oldS s5)) (h.old ha2)) rfl fun r1 w2 h hF=>qcr (qi rfl hF ?_ ?_)))<;>intro hF
  ·refine X0 5 rfl ?_
   obtain rfl:=qb hF;replace hF:=hK1
   exact ri h hF rfl
  exact X0 6 rfl (rK ⟨_,hF,rfl,h⟩ rfl)
 refine qr rfl ?_
 obtain rfl:=qb hF;replace hF:=hK1
 exact X0 4 rfl (ri h hF rfl)
def qay (n:Nat) (s:(List qS)) (f_0:qS):Option Bool :=
 (qa9 n s f_0).bind fun r1 =>
 some (decide (r1 ≥ 0))
theorem qef {s:(List qS)} {f_0:qS} (ha1:GoT.R w (old w) s cs1) {p2:Option Addr} (ha2:GoT.R w (old w) (some f_0) [.pointer p2]) {r:Bool} (hF:qay n s f_0=some r):RetV Tryz.prog 317 [GoT.v (List qS) cs1,.func (.func 318) #[] #[.pointer p2]] w r:=by
 obtain ⟨p1,k1,rfl,s1⟩:=ha1
 obtain ⟨b1,o_1,cs2,rfl,-,hr1,hc1⟩:=PtR.get ha2 rfl
 obtain ⟨p3,k2,p4,k3,rfl,s2,s3⟩:=qai hr1
 exact zV 9 Tryz.func317 rfl fun h=>X0 8 rfl (zcI h hF (qez ⟨_,_,rfl,(h.oldS s1)⟩ (h.old ha2)) rfl fun r1 w1 h hF=>X0 3 rfl (rb h hF rfl))
def qcy (c:qC):Nat→Int→Option (Flow Bool Int)
 | 0,_=>none
 | n+1,i1 =>
  bif decide (i1<(c.Am.length:Int)) then
   (idx c.Am i1).bind fun y1 =>
   (qhU n c y1).bind fun r1 =>
   bif (!r1) then some (.ret false) else
   (subS c.Am 0 i1).bind fun x1 =>
   (qay n x1 y1).bind fun r2 =>
   bif r2 then some (.ret false) else
   qcy c n (W64 (i1+1))
  else
   some (.nxt i1)
def qgA (n:Nat) (c:qC):Option Bool :=
 (qcy c n 0).bind fun o=>match o with
 | .ret r=>some r
 | .nxt _ =>
  some (decide ((c.Am.length:Int)≤8))
theorem qmY {c:qC} (ha1:GoT.R w (old w) c cs1) {r:Bool} (hF:qgA n c=some r):RetV Tryz.prog 299 [GoT.v qC cs1] w r:=by
 obtain ⟨p1,k1,p2,k2,p3,k3,rfl,s1,s2,s3⟩:=qaf ha1
 refine zV 30 Tryz.func299 rfl fun h=>zSR (qt h rfl rfl fun w1 bb1 h=>X1 10 0 h rfl ?_)
 obtain ⟨o1,hF,hK1⟩:=qc hF
 refine qm (rL (fun m e w'=>∃ (i1:Int),qcy c m i1=some o1∧e=[(1,.pointer (some ⟨bb1,0,none⟩)),(6,.slice p2 c.Am.length k2),(7,.int .i64 (c.Am.length:Int)),(8,.int .i64 i1)]∧SH w w' [Ch.box bb1 (qdZ c p1 p2 p3 k1 k2 k3) 251]) n ⟨_,hF,rfl,h⟩ rfl ?_)
 rintro m1 e1 w2 ⟨i1,hF,rfl,h⟩
 rcases m1 with _|m1
 ·cases hF
 refine X0 5 rfl (qi rfl hF ?_ ?_)<;>intro hF
 ·refine X0 6 rfl ?_
  obtain ⟨y1,hy1,hF,he1,b1,_,q1,cs2,hp1,hq1,hr1,hc2⟩:=s2.ix hF
  obtain ⟨p4,k4,p5,k5,rfl,s4,s5⟩:=qai hr1
  refine zxe hp1 hq1 he1 rfl (zc 0 (hc2.below h.below) rfl (qn qa h rfl rfl rfl fun w3 bb2 h=>zp1 rfl (zs 0 h rfl fun w4 h=>X2 5 1 0 h rfl (zcB h hF (qn8 (h.old ha1) (qfp y1 (h.oldS s4) (h.oldS s5))) rfl fun r1 w5 h hF=>zp2 rfl (qh (t:=17) hF rfl ?_ ?_)))))<;>intro hF
  ·refine X0 8 rfl (qbV rfl rfl (X0 4 rfl ?_))
   obtain rfl:=qb hF;replace hF:=hK1
   exact rb h hF rfl
  refine X1 7 1 h rfl ?_
  obtain ⟨x1,hx1,hF⟩:=qc hF
  obtain ⟨p6,k6,hp2,hk1,hl1,g1⟩:=qwQ (h.oldS s2) hx1
  refine r_v (qta qa rfl rfl rfl (qwr g1 rfl) hp2 hk1 hl1 rfl rfl rfl rfl) rfl ?_
  have s6:=qv7 s2 hx1 hp2 hk1
  refine X0 3 rfl (zcB h hF (qef ⟨_,_,rfl,(h.oldS s6)⟩ (qcp (x:=y1) 0 h rfl (qfp y1 (h.oldS s4) (h.oldS s5)))) rfl fun r2 w6 h hF=>X0 2 rfl (qi rfl hF ?_ ?_))<;>intro hF
  ·refine X0 4 rfl ?_
   obtain rfl:=qb hF;replace hF:=hK1
   exact rb h hF rfl
  refine X0 6 rfl ?_
  replace h:=h.pick [1] rfl
  exact rK ⟨_,hF,rfl,h⟩ rfl
 refine qr rfl ?_
 obtain rfl:=qb hF;replace hF:=hK1
 exact X1 8 0 h rfl (rb h hF rfl)
def qjR (_:Nat) (a:qS) (v0:Int):Option Bool :=
 some (a.As==v0)
theorem qog {a:qS} {v0:Int} (ha1:GoT.R w (old w) a cs1) {p3:Option Addr} (ha2:GoT.R w (old w) (some v0) [.pointer p3]) {r:Bool} (hF:qjR n a v0=some r):RetV Tryz.prog 333 [GoT.v qS cs1,.pointer p3] w r:=by
 obtain ⟨p1,k1,p2,k2,rfl,s1,s2⟩:=qai ha1
 obtain ⟨b1,o_1,cs2,rfl,-,hr1,hc1⟩:=PtR.get ha2 rfl
 obtain rfl:=hr1
 exact zV 8 Tryz.func333 rfl fun h=>zSR (qt h rfl rfl fun w1 bb1 h=>X1 6 0 h rfl (zc 0 (hc1.below h.below) rfl (X0 3 rfl (rb h hF rfl))))
def qY (s:(List qS)) (f_0:Int):Nat→Int→Option (Flow Int Int)
 | 0,_=>none
 | n+1,i1 =>
  bif decide (i1<(s.length:Int)) then
   (idx s i1).bind fun y1 =>
   (qjR n y1 f_0).bind fun r1 =>
   bif r1 then some (.ret i1) else
   qY s f_0 n (W64 (i1+1))
  else
   some (.nxt i1)
def qbD (n:Nat) (s:(List qS)) (f_0:Int):Option Int :=
 (qY s f_0 n 0).bind fun o=>match o with
 | .ret r=>some r
 | .nxt _ =>
  some (-1)
theorem qfo {s:(List qS)} {f_0:Int} (ha1:GoT.R w (old w) s cs1) {p2:Option Addr} (ha2:GoT.R w (old w) (some f_0) [.pointer p2]) {r:Int} (hF:qbD n s f_0=some r):RetV Tryz.prog 180 [GoT.v (List qS) cs1,.func (.func 333) #[] #[.pointer p2]] w r:=by
 obtain ⟨p1,k1,rfl,s1⟩:=ha1
 obtain ⟨b1,o_1,cs2,rfl,-,hr1,hc1⟩:=PtR.get ha2 rfl
 obtain rfl:=hr1
 refine zV 19 Tryz.func180 rfl fun h=>X0 11 rfl ?_
 obtain ⟨o1,hF,hK1⟩:=qc hF
 refine qm (rL (fun m e w'=>∃ (i1:Int),qY s f_0 m i1=some o1∧e=[(0,.slice p1 s.length k1),(1,.func (.func 333) #[] #[.pointer (some ⟨b1,o_1,none⟩)]),(7,.int .i64 (s.length:Int)),(8,.int .i64 i1)]∧SH w w' []) n ⟨_,hF,rfl,h⟩ rfl ?_)
 rintro m1 e1 w1 ⟨i1,hF,rfl,h⟩
 rcases m1 with _|m1
 ·cases hF
 refine X0 5 rfl (qi rfl hF ?_ ?_)<;>intro hF
 ·refine X0 13 rfl ?_
  obtain ⟨y1,hy1,hF,he1,b2,_,q1,cs3,hp1,hq1,hr2,hc3⟩:=s1.ix hF
  obtain ⟨p3,k2,p4,k3,rfl,s2,s3⟩:=qai hr2
  refine zxe hp1 hq1 he1 rfl (zc 0 (hc3.below h.below) rfl (zcB h hF (qog (qfp y1 (h.oldS s2) (h.oldS s3)) (h.old ha2)) rfl fun r1 w2 h hF=>qcr (qi rfl hF ?_ ?_)))<;>intro hF
  ·refine X0 5 rfl ?_
   obtain rfl:=qb hF;replace hF:=hK1
   exact ri h hF rfl
  exact X0 6 rfl (rK ⟨_,hF,rfl,h⟩ rfl)
 refine qr rfl ?_
 obtain rfl:=qb hF;replace hF:=hK1
 exact X0 4 rfl (ri h hF rfl)
def qbo (n:Nat) (s:(List qS)) (f_0:Int):Option Bool :=
 (qbD n s f_0).bind fun r1 =>
 some (decide (r1 ≥ 0))
theorem qeK {s:(List qS)} {f_0:Int} (ha1:GoT.R w (old w) s cs1) {p2:Option Addr} (ha2:GoT.R w (old w) (some f_0) [.pointer p2]) {r:Bool} (hF:qbo n s f_0=some r):RetV Tryz.prog 317 [GoT.v (List qS) cs1,.func (.func 333) #[] #[.pointer p2]] w r:=by
 obtain ⟨p1,k1,rfl,s1⟩:=ha1
 obtain ⟨b1,o_1,cs2,rfl,-,hr1,hc1⟩:=PtR.get ha2 rfl
 obtain rfl:=hr1
 exact zV 9 Tryz.func317 rfl fun h=>X0 8 rfl (zcI h hF (qfo ⟨_,_,rfl,(h.oldS s1)⟩ (h.old ha2)) rfl fun r1 w1 h hF=>X0 3 rfl (rb h hF rfl))
def qdg (n:Nat) (c:qC) (kind:Int):Option Bool :=
 (qbo n c.Am kind).bind fun r1 =>
 some r1
theorem qec {c:qC} {kind:Int} (ha1:GoT.R w (old w) c cs1) {r:Bool} (hF:qdg n c kind=some r):RetV Tryz.prog 319 [GoT.v qC cs1,.int .i64 kind] w r:=by
 obtain ⟨p1,k1,p2,k2,p3,k3,rfl,s1,s2,s3⟩:=qaf ha1
 exact zV 9 Tryz.func319 rfl fun h=>zSR (qt h rfl rfl fun w1 bb1 h=>qt h rfl rfl fun w2 bb2 h=>X1 7 1 h rfl (zcB h hF (qeK ⟨_,_,rfl,(h.oldS s2)⟩ (qcp (x:=kind) 0 h rfl rfl)) rfl fun r1 w3 h hF=>X0 2 rfl (rb h hF rfl)))
def qba (a_0:qC):Nat→Int→Int→Option (Int × Int)
 | 0,_,_=>none
 | n+1,i1,i2 =>
  bif decide (i2<(a_0.Ay.length:Int)) then
   (idx a_0.Ay i2).bind fun y1 =>
   bif y1.Bm then qba a_0 n (W64 (i1+1)) (W64 (i2+1)) else
   qba a_0 n i1 (W64 (i2+1))
  else
   some (i1,i2)
def qfK (n:Nat) (a_0:qC):Option Bool :=
 (qba a_0 n 0 0).bind fun o=>match o with
 | (i1,_) =>
  bif (a_0.As==1) then
   bif (i1==0) then
    (qee n a_0).bind fun r1 =>
    (shlS 1 r1).bind fun y2 =>
    bif ((a_0.Bn.length:Int)==y2) then
     (qbT n a_0.Bn 0 1).bind fun r2 =>
     some r2
    else
     some false
   else
    some false
  else
   bif (a_0.As==2) then
    bif (i1==1) then
     bif ((a_0.Bn.length:Int)==0) then
      (qdg n a_0 1).bind fun r3 =>
      bif (!r3) then
       (qdg n a_0 2).bind fun r4 =>
       (qdg n a_0 3).bind fun r5 =>
       some (!(r4==r5))
      else
       some false
     else
      some false
    else
     some false
   else
    bif (a_0.As==3) then
     bif (i1==1) then
      bif ((a_0.Bn.length:Int)==0) then
       (qdg n a_0 1).bind fun r6 =>
       bif r6 then
        (qdg n a_0 2).bind fun r7 =>
        bif r7 then
         (qdg n a_0 3).bind fun r8 =>
         some (!r8)
        else
         some false
       else
        some false
      else
       some false
     else
      some false
    else
     some false
theorem qmO {a_0:qC} (ha1:GoT.R w (old w) a_0 cs1) {r:Bool} (hF:qfK n a_0=some r):RetV Tryz.prog 300 [GoT.v qC cs1] w r:=by
 obtain ⟨p1,k1,p2,k2,p3,k3,rfl,s1,s2,s3⟩:=qaf ha1
 refine zV 83 Tryz.func300 rfl fun h=>zSR (qt h rfl rfl fun w1 bb1 h=>X1 14 0 h rfl ?_)
 obtain ⟨o1,hF,hK1⟩:=qc hF
 refine qm (rL (fun m e w'=>∃ (i1:Int) (i2:Int),qba a_0 m i1 i2=some o1∧e=[(1,.pointer (some ⟨bb1,0,none⟩)),(3,.int .i64 i1),(7,.slice p1 a_0.Ay.length k1),(8,.int .i64 (a_0.Ay.length:Int)),(9,.int .i64 i2)]∧SH w w' [Ch.box bb1 (qdZ a_0 p1 p2 p3 k1 k2 k3) 251]) n ⟨_,_,hF,rfl,h⟩ rfl ?_)
 rintro m1 e1 w2 ⟨i1,i2,hF,rfl,h⟩
 rcases m1 with _|m1
 ·cases hF
 refine X0 5 rfl (qi rfl hF ?_ ?_)<;>intro hF
 ·refine zKSBSR ?_
  obtain ⟨y1,hy1,hF,he1,b1,_,q1,cs2,hp1,hq1,hr1,hc2⟩:=s1.ix hF
  obtain rfl:=qby hr1
  refine zxe hp1 hq1 he1 rfl (zc 0 (hc2.below h.below) rfl (qn qa h rfl rfl rfl fun w3 bb2 h=>zs 0 h rfl fun w4 h=>X1 6 0 h rfl (qi rfl hF ?_ ?_)))<;>intro hF
  ·refine X0 10 rfl ?_
   replace h:=h.pick [1] rfl
   exact rK ⟨_,_,hF,rfl,h⟩ rfl
  refine X0 6 rfl ?_
  replace h:=h.pick [1] rfl
  exact rK ⟨_,_,hF,rfl,h⟩ rfl
 refine qr rfl ?_
 obtain rfl:=qb hF;replace hF:=hK1
 refine X1 12 0 h rfl (qi rfl hF ?_ ?_)<;>intro hF
 ·refine qci (rD (zd3 rfl (qaO (t:=24) hF rfl ?_ ?_)))<;>intro hF
  ·refine Y1 4 0 h rfl ?_
   refine Y1 4 0 h rfl ?_
   refine Y0 1 rfl ?_
   obtain ⟨r1,hr2,hF⟩:=qc hF
   refine qbj r1 (vsI _) (cB 188 rfl) (fun _ hb=>qhu ((h.ext hb).old ha1) hr2) rfl rfl rfl rfl (Y0 1 rfl ?_)
   obtain ⟨y2,hx1,hF⟩:=qc hF
   obtain ⟨g1,hx1⟩:=qsg hx1
   refine d_v (fun _ hb=>qyt g1 rfl rfl) rfl ?_
   rw [hx1]
   refine Y0 4 rfl (qaO (t:=33) hF rfl ?_ ?_)<;>intro hF
   ·refine Y1 4 0 h rfl ?_
    refine Y0 1 rfl ?_
    obtain ⟨r2,hr3,hF⟩:=qc hF
    exact qbj r2 (vsB _) (cB 87 rfl) (fun _ hb=>qb4 ⟨_,_,rfl,((h.ext hb).oldS s3)⟩ hr3) rfl rfl rfl rfl (zd2 rfl (dN h fun w5 h=>rb h hF rfl))
   exact Y0 5 rfl (dN h fun w6 h=>rb h hF rfl)
  exact Y0 14 rfl (dN h fun w7 h=>rb h hF rfl)
 refine X0 5 rfl (qi rfl hF ?_ ?_)<;>intro hF
 ·refine qci (rD (zd3 rfl (qaO (t:=42) hF rfl ?_ ?_)))<;>intro hF
  ·refine Y1 4 0 h rfl ?_
   refine Y0 6 rfl (qaO (t:=48) hF rfl ?_ ?_)<;>intro hF
   ·refine Y1 2 0 h rfl ?_
    refine Y0 1 rfl ?_
    obtain ⟨r3,hr4,hF⟩:=qc hF
    refine qbj r3 (vsB _) (cB 319 rfl) (fun _ hb=>qec ((h.ext hb).old ha1) hr4) rfl rfl rfl rfl (Y0 4 rfl (qaO (t:=53) hF rfl ?_ ?_))<;>intro hF
    ·refine Y1 2 0 h rfl ?_
     refine Y0 1 rfl ?_
     obtain ⟨r4,hr5,hF⟩:=qc hF
     refine qbj r4 (vsB _) (cB 319 rfl) (fun _ hb=>qec ((h.ext hb).old ha1) hr5) rfl rfl rfl rfl (Y1 2 0 h rfl ?_)
     refine Y0 1 rfl ?_
     obtain ⟨r5,hr6,hF⟩:=qc hF
     exact qbj r5 (vsB _) (cB 319 rfl) (fun _ hb=>qec ((h.ext hb).old ha1) hr6) rfl rfl rfl rfl (Y0 4 rfl (dN h fun w8 h=>rb h hF rfl))
    exact Y0 7 rfl (dN h fun w9 h=>rb h hF rfl)
   exact Y0 12 rfl (dN h fun w10 h=>rb h hF rfl)
  exact Y0 18 rfl (dN h fun w11 h=>rb h hF rfl)
 refine X0 5 rfl (qi rfl hF ?_ ?_)<;>intro hF
 ·refine X0 5 rfl (qh (t:=64) hF rfl ?_ ?_)<;>intro hF
  ·refine X1 10 0 h rfl (qh (t:=70) hF rfl ?_ ?_)<;>intro hF
   ·refine X1 3 0 h rfl (zcB h hF (qec (h.old ha1)) rfl fun r6 w12 h hF=>zp2 rfl (qh (t:=74) hF rfl ?_ ?_))<;>intro hF
    ·refine X1 3 0 h rfl (zcB h hF (qec (h.old ha1)) rfl fun r7 w13 h hF=>zp2 rfl (qh (t:=78) hF rfl ?_ ?_))<;>intro hF
     ·exact X1 3 0 h rfl (zcB h hF (qec (h.old ha1)) rfl fun r8 w14 h hF=>X0 5 rfl (rb h hF rfl))
     exact X0 6 rfl (rb h hF rfl)
    exact X0 10 rfl (rb h hF rfl)
   exact X0 14 rfl (rb h hF rfl)
  exact X0 20 rfl (rb h hF rfl)
 exact X0 6 rfl (rb h hF rfl)
def qk9 (n:Nat) (c:qC):Option Bool :=
 (qh9 n c.Az).bind fun r1 =>
 bif r1 then
  (qkh n c.Ay).bind fun r2 =>
  bif r2 then
   (qgA n c).bind fun r3 =>
   bif r3 then
    (qaK n c.Bx 0 100000).bind fun r4 =>
    bif r4 then
     (qaK n c.Br 0 100000).bind fun r5 =>
     bif r5 then
      (qfK n c).bind fun r6 =>
      some r6
     else
      some false
    else
     some false
   else
    some false
  else
   some false
 else
  some false
theorem qq5 {c:qC} (ha1:GoT.R w (old w) c cs1) {r:Bool} (hF:qk9 n c=some r):RetV Tryz.prog 266 [GoT.v qC cs1] w r:=by
 obtain ⟨p1,k1,p2,k2,p3,k3,rfl,s1,s2,s3⟩:=qaf ha1
 refine zV 29 Tryz.func266 rfl fun h=>zSR (qt h rfl rfl fun w1 bb1 h=>X1 6 0 h rfl (zcB h hF qkN rfl fun r1 w2 h hF=>zp1 rfl (qh (t:=6) hF rfl ?_ ?_)))<;>intro hF
 ·refine X1 5 0 h rfl (zcB h hF (qp7 ⟨_,_,rfl,(h.oldS s1)⟩) rfl fun r2 w3 h hF=>zp2 rfl (qh (t:=11) hF rfl ?_ ?_))<;>intro hF
  ·refine X1 3 0 h rfl (zcB h hF (qmY (h.old ha1)) rfl fun r3 w4 h hF=>zp2 rfl (qh (t:=15) hF rfl ?_ ?_))<;>intro hF
   ·refine X1 5 0 h rfl (zcB h hF qaB rfl fun r4 w5 h hF=>zp2 rfl (qh (t:=20) hF rfl ?_ ?_))<;>intro hF
    ·refine X1 5 0 h rfl (zcB h hF qaB rfl fun r5 w6 h hF=>zp2 rfl (qh (t:=25) hF rfl ?_ ?_))<;>intro hF
     ·exact X1 3 0 h rfl (zcB h hF (qmO (h.old ha1)) rfl fun r6 w7 h hF=>X0 3 rfl (rb h hF rfl))
     exact X0 5 rfl (rb h hF rfl)
    exact X0 10 rfl (rb h hF rfl)
   exact X0 15 rfl (rb h hF rfl)
  exact X0 19 rfl (rb h hF rfl)
 exact X0 24 rfl (rb h hF rfl)
def qcJ (l:qv):Nat→(List ByteArray)→Int→Option (Flow Bool ((List ByteArray) × Int))
 | 0,_,_=>none
 | n+1,x1,i1 =>
  bif decide (i1<(l.Ap.length:Int)) then
   (idx l.Ap i1).bind fun y1 =>
   (qk9 n y1).bind fun r1 =>
   bif (!r1) then some (.ret false) else
   (appS x1 ([y1.Az]:List ByteArray)).bind fun x2 =>
   qcJ l n x2 (W64 (i1+1))
  else
   some (.nxt (x1,i1))
def qir (n:Nat) (l:qv):Option Bool :=
 (qcJ l n ([]:List ByteArray) 0).bind fun o=>match o with
 | .ret r=>some r
 | .nxt (x1,_) =>
  bif decide ((l.Ap.length:Int)≤8) then
   (qd3 n x1).bind fun r2 =>
   some r2
  else
   some false
theorem qoW {l:qv} (ha1:GoT.R w (old w) l cs1) {r:Bool} (hF:qir n l=some r):RetV Tryz.prog 227 [GoT.v qv cs1] w r:=by
 obtain ⟨p1,k1,rfl,s1⟩:=qbF ha1
 refine zV 30 Tryz.func227 rfl fun h=>zSR (qt h rfl rfl fun w1 bb1 h=>X1 14 0 h rfl ?_)
 replace h:=h.nil (α:=ByteArray)
 obtain ⟨o1,hF,hK1⟩:=qc hF
 refine qm (rL (fun m e w'=>∃ (S1:Nat→Prop) (p2:Option Addr) (ln1:Nat) (k2:Nat) (x1:(List ByteArray)) (i1:Int),qcJ l m x1 i1=some o1∧e=[(1,.pointer (some ⟨bb1,0,none⟩)),(3,.slice p2 ln1 k2),(7,.slice p1 l.Ap.length k1),(8,.int .i64 (l.Ap.length:Int)),(9,.int .i64 i1)]∧SH w w' [Ch.own S1 (x1:List ByteArray) [.slice p2 ln1 k2],Ch.box bb1 [.slice p1 l.Ap.length k1] 46]) n ⟨_,_,_,_,_,_,hF,rfl,h⟩ rfl ?_)
 rintro m1 e1 w2 ⟨S1,p2,ln1,k2,x1,i1,hF,rfl,h⟩
 obtain rfl:=(h.sl 0 rfl).2
 rcases m1 with _|m1
 ·cases hF
 refine X0 5 rfl (qi rfl hF ?_ ?_)<;>intro hF
 ·refine zKSBSR ?_
  obtain ⟨y1,hy1,hF,he1,b1,_,q1,cs2,hp1,hq1,hr1,hc2⟩:=s1.ix hF
  obtain ⟨p3,k3,p4,k4,p5,k5,rfl,s2,s3,s4⟩:=qaf hr1
  refine zxe hp1 hq1 he1 rfl (zc 0 (hc2.below h.below) rfl (qn qa h rfl rfl rfl fun w3 bb2 h=>zs 0 h rfl fun w4 h=>X1 5 0 h rfl (zcB h hF (qq5 (qkr y1 (h.oldS s2) (h.oldS s3) (h.oldS s4))) rfl fun r1 w5 h hF=>X0 2 rfl (qi rfl hF ?_ ?_))))<;>intro hF
  ·refine X0 4 rfl ?_
   obtain rfl:=qb hF;replace hF:=hK1
   exact rb h hF rfl
  refine X1 5 0 h rfl (qG qa [.tmp 18] _ ([y1.Az]:List ByteArray) h rfl rfl rfl rfl rfl rfl rfl rfl rfl ⟨rfl,trivial⟩ rfl fun w6 p6 S2 h=>?_)
  obtain ⟨x2,hx1,hF⟩:=qc hF
  obtain ⟨g1,hx1⟩:=qav hx1
  refine qcl qa 2 h rfl (h.sl 0 rfl).1 (h.sl 0 rfl).2 rfl rfl rfl rfl rfl rfl rfl rfl rfl g1 hx1 rfl fun w7 p7 k6 S3 h=>X0 7 rfl ?_
  replace h:=h.pick [2,3] rfl
  exact rK ⟨_,_,_,_,_,_,hF,rfl,h⟩ rfl
 refine qr rfl ?_
 obtain rfl:=qb hF;replace hF:=hK1
 refine X1 7 1 h rfl (qh (t:=26) hF rfl ?_ ?_)<;>intro hF
 ·exact X0 3 rfl (zcB h hF (qfy (h.own 0 rfl)) rfl fun r2 w8 h hF=>X0 3 rfl (rb h hF rfl))
 exact X0 5 rfl (rb h hF rfl)
def qbq (d:qf):Nat→(List ByteArray)→Int→Option ((List ByteArray) × Int)
 | 0,_,_=>none
 | n+1,x3,i2 =>
  bif decide (i2<(d.Ah.length:Int)) then
   (idx d.Ah i2).bind fun y2 =>
   (appS x3 ([y2.Az]:List ByteArray)).bind fun x4 =>
   qbq d n x4 (W64 (i2+1))
  else
   some (x3,i2)
def qbf (d:qf):Nat→(List ByteArray)→Int→Option ((List ByteArray) × Int)
 | 0,_,_=>none
 | n+1,x1,i1 =>
  bif decide (i1<(d.Ab.length:Int)) then
   (idx d.Ab i1).bind fun y1 =>
   (appS x1 ([y1.Az]:List ByteArray)).bind fun x2 =>
   qbf d n x2 (W64 (i1+1))
  else
   some (x1,i1)
def qeP (n:Nat) (d:qf):Option Bool :=
 (qbf d n ([]:List ByteArray) 0).bind fun o=>match o with
 | (x1,_) =>
  (qbq d n ([]:List ByteArray) 0).bind fun o=>match o with
  | (x3,_) =>
   bif decide ((x1.length:Int)≤14) then
    bif decide ((d.Ai.length:Int)≤30) then
     bif decide ((x3.length:Int)≤8) then
      (qd3 n x1).bind fun r1 =>
      bif r1 then
       (qd3 n d.Ai).bind fun r2 =>
       bif r2 then
        (qd3 n x3).bind fun r3 =>
        some r3
       else
        some false
      else
       some false
     else
      some false
    else
     some false
   else
    some false
theorem qlY {d:qf} (ha1:GoT.R w (old w) d cs1) {r:Bool} (hF:qeP n d=some r):RetV Tryz.prog 228 [GoT.v qf cs1] w r:=by
 obtain ⟨p1,k1,p2,k2,p3,k3,rfl,s1,s2,s3⟩:=qaA ha1
 refine zV 62 Tryz.func228 rfl fun h=>zSR (qt h rfl rfl fun w1 bb1 h=>X1 15 0 h rfl ?_)
 replace h:=h.nil (α:=ByteArray)
 obtain ⟨o1,hF,hK1⟩:=qc hF
 refine qm (rL (fun m e w'=>∃ (S1:Nat→Prop) (p4:Option Addr) (ln1:Nat) (k4:Nat) (x1:(List ByteArray)) (i1:Int),qbf d m x1 i1=some o1∧e=[(1,.pointer (some ⟨bb1,0,none⟩)),(3,.slice p4 ln1 k4),(4,.slice none 0 0),(10,.slice p1 d.Ab.length k1),(11,.int .i64 (d.Ab.length:Int)),(12,.int .i64 i1)]∧SH w w' [Ch.own S1 (x1:List ByteArray) [.slice p4 ln1 k4],Ch.box bb1 (qaM d p1 p2 p3 k1 k2 k3) 50]) n ⟨_,_,_,_,_,_,hF,rfl,h⟩ rfl ?_)
 rintro m1 e1 w2 ⟨S1,p4,ln1,k4,x1,i1,hF,rfl,h⟩
 obtain rfl:=(h.sl 0 rfl).2
 rcases m1 with _|m1
 ·cases hF
 refine X0 5 rfl (qi rfl hF ?_ ?_)<;>intro hF
 ·refine zKSBSR ?_
  obtain ⟨y1,hy1,hF,he1,b1,_,q1,cs2,hp1,hq1,hr1,hc2⟩:=s1.ix hF
  obtain ⟨p5,k5,rfl,s4⟩:=qR hr1
  refine zxe hp1 hq1 he1 rfl (zc 0 (hc2.below h.below) rfl (qn qa h rfl rfl rfl fun w3 bb2 h=>zs 0 h rfl fun w4 h=>X1 5 0 h rfl (qG qa [.tmp 18] _ ([y1.Az]:List ByteArray) h rfl rfl rfl rfl rfl rfl rfl rfl rfl ⟨rfl,trivial⟩ rfl fun w5 p6 S2 h=>?_)))
  obtain ⟨x2,hx1,hF⟩:=qc hF
  obtain ⟨g1,hx1⟩:=qav hx1
  refine qcl qa 2 h rfl (h.sl 0 rfl).1 (h.sl 0 rfl).2 rfl rfl rfl rfl rfl rfl rfl rfl rfl g1 hx1 rfl fun w6 p7 k6 S3 h=>X0 7 rfl ?_
  replace h:=h.pick [2,3] rfl
  exact rK ⟨_,_,_,_,_,_,hF,rfl,h⟩ rfl
 refine qr rfl ?_
 obtain rfl:=qb hF;replace hF:=hK1
 refine X1 8 1 h rfl ?_
 replace h:=h.nil (α:=ByteArray)
 obtain ⟨o2,hF,hK2⟩:=qc hF
 refine qm (rL (fun m e w'=>∃ (S4:Nat→Prop) (p8:Option Addr) (ln2:Nat) (k7:Nat) (x3:(List ByteArray)) (i2:Int),qbq d m x3 i2=some o2∧e=[(1,.pointer (some ⟨bb1,0,none⟩)),(3,.slice p4 x1.length k4),(4,.slice p8 ln2 k7),(23,.slice p3 d.Ah.length k3),(24,.int .i64 (d.Ah.length:Int)),(25,.int .i64 i2)]∧SH w w' [Ch.own S4 (x3:List ByteArray) [.slice p8 ln2 k7],Ch.own S1 (x1:List ByteArray) [.slice p4 x1.length k4],Ch.box bb1 (qaM d p1 p2 p3 k1 k2 k3) 50]) n ⟨_,_,_,_,_,_,hF,rfl,h⟩ rfl ?_)
 rintro m2 e2 w7 ⟨S4,p8,ln2,k7,x3,i2,hF,rfl,h⟩
 obtain rfl:=(h.sl 0 rfl).2
 rcases m2 with _|m2
 ·cases hF
 refine X0 5 rfl (qi rfl hF ?_ ?_)<;>intro hF
 ·refine zKSBSR ?_
  obtain ⟨y2,hy2,hF,he2,b2,_,q2,cs3,hp2,hq2,hr2,hc4⟩:=s3.ix hF
  obtain rfl:=qbh hr2
  refine zxe hp2 hq2 he2 rfl (zc 0 (hc4.below h.below) rfl (qn qa h rfl rfl rfl fun w8 bb3 h=>zs 0 h rfl fun w9 h=>X1 5 0 h rfl (qG qa [.tmp 31] _ ([y2.Az]:List ByteArray) h rfl rfl rfl rfl rfl rfl rfl rfl rfl ⟨rfl,trivial⟩ rfl fun w10 p9 S5 h=>?_)))
  obtain ⟨x4,hx2,hF⟩:=qc hF
  obtain ⟨g2,hx2⟩:=qav hx2
  refine qcl qa 2 h rfl (h.sl 0 rfl).1 (h.sl 0 rfl).2 rfl rfl rfl rfl rfl rfl rfl rfl rfl g2 hx2 rfl fun w11 p10 k8 S6 h=>X0 7 rfl ?_
  replace h:=h.pick [2,3,4] rfl
  exact rK ⟨_,_,_,_,_,_,hF,rfl,h⟩ rfl
 refine qr rfl ?_
 obtain rfl:=qb hF;replace hF:=hK2
 refine X0 6 rfl (qh (t:=38) hF rfl ?_ ?_)<;>intro hF
 ·refine X1 10 2 h rfl (qh (t:=44) hF rfl ?_ ?_)<;>intro hF
  ·refine X0 8 rfl (qh (t:=49) hF rfl ?_ ?_)<;>intro hF
   ·refine X0 3 rfl (zcB h hF (qfy (h.own 1 rfl)) rfl fun r1 w12 h hF=>zp2 rfl (qh (t:=53) hF rfl ?_ ?_))<;>intro hF
    ·refine X1 5 2 h rfl (zcB h hF (qfy ⟨_,_,rfl,(h.oldS s2)⟩) rfl fun r2 w13 h hF=>zp2 rfl (qh (t:=58) hF rfl ?_ ?_))<;>intro hF
     ·exact X0 3 rfl (zcB h hF (qfy (h.own 0 rfl)) rfl fun r3 w14 h hF=>X0 3 rfl (rb h hF rfl))
     exact X0 5 rfl (rb h hF rfl)
    exact X0 10 rfl (rb h hF rfl)
   exact X0 14 rfl (rb h hF rfl)
  exact X0 19 rfl (rb h hF rfl)
 exact X0 25 rfl (rb h hF rfl)
def qgp (_:Nat) (list:(List qC)):Option Int :=
 some (list.length:Int)
theorem qlI {list:(List qC)} (ha1:GoT.R w (old w) list cs1) {r:Int} (hF:qgp n list=some r):RetV Tryz.prog 268 [GoT.v (List qC) cs1] w r:=by
 obtain ⟨p1,k1,rfl,s1⟩:=ha1
 exact zV 5 Tryz.func268 rfl fun h=>X0 10 rfl (ri h hF rfl)
def qdj (n:Nat) (net:Int) (v0:qf):Option Bool :=
 (qb6 n v0 net).bind fun r1 =>
 some (!r1)
theorem qkf {net:Int} {v0:qf} {p1:Option Addr} (ha1:GoT.R w (old w) (some v0) [.pointer p1]) {r:Bool} (hF:qdj n net v0=some r):RetV Tryz.prog 269 [.int .i64 net,.pointer p1] w r:=by
 obtain ⟨b1,o_1,cs1,rfl,-,hr1,hc1⟩:=PtR.get ha1 rfl
 obtain ⟨p2,k1,p3,k2,p4,k3,rfl,s1,s2,s3⟩:=qaA hr1
 exact zV 8 Tryz.func269 rfl fun h=>X0 6 rfl (zc 0 (hc1.below h.below) rfl (zp1 rfl (zcB h hF (qds (qan v0 (h.oldS s1) (h.oldS s2) (h.oldS s3))) rfl fun r1 w1 h hF=>X0 3 rfl (rb h hF rfl))))
def qI (s:(List Int)) (f_0:qf):Nat→Int→Option (Flow Int Int)
 | 0,_=>none
 | n+1,i1 =>
  bif decide (i1<(s.length:Int)) then
   (idx s i1).bind fun y1 =>
   (qdj n y1 f_0).bind fun r1 =>
   bif r1 then some (.ret i1) else
   qI s f_0 n (W64 (i1+1))
  else
   some (.nxt i1)
def qa3 (n:Nat) (s:(List Int)) (f_0:qf):Option Int :=
 (qI s f_0 n 0).bind fun o=>match o with
 | .ret r=>some r
 | .nxt _ =>
  some (-1)
theorem qem {s:(List Int)} {f_0:qf} (ha1:GoT.R w (old w) s cs1) {p2:Option Addr} (ha2:GoT.R w (old w) (some f_0) [.pointer p2]) {r:Int} (hF:qa3 n s f_0=some r):RetV Tryz.prog 159 [GoT.v (List Int) cs1,.func (.func 269) #[] #[.pointer p2]] w r:=by
 obtain ⟨p1,k1,rfl,s1⟩:=ha1
 obtain ⟨b1,o_1,cs2,rfl,-,hr1,hc1⟩:=PtR.get ha2 rfl
 obtain ⟨p3,k2,p4,k3,p5,k4,rfl,s2,s3,s4⟩:=qaA hr1
 refine zV 19 Tryz.func159 rfl fun h=>X0 11 rfl ?_
 obtain ⟨o1,hF,hK1⟩:=qc hF
 refine qm (rL (fun m e w'=>∃ (i1:Int),qI s f_0 m i1=some o1∧e=[(0,.slice p1 s.length k1),(1,.func (.func 269) #[] #[.pointer (some ⟨b1,o_1,none⟩)]),(7,.int .i64 (s.length:Int)),(8,.int .i64 i1)]∧SH w w' []) n ⟨_,hF,rfl,h⟩ rfl ?_)
 rintro m1 e1 w1 ⟨i1,hF,rfl,h⟩
 rcases m1 with _|m1
 ·cases hF
 refine X0 5 rfl (qi rfl hF ?_ ?_)<;>intro hF
 ·refine X0 13 rfl ?_
  obtain ⟨y1,hy1,hF,he1,b2,_,q1,cs3,hp1,hq1,rfl,hc3⟩:=s1.ix hF
  refine zxe hp1 hq1 he1 rfl (zc 0 (hc3.below h.below) rfl (zcB h hF (qkf (h.old ha2)) rfl fun r1 w2 h hF=>qcr (qi rfl hF ?_ ?_)))<;>intro hF
  ·refine X0 5 rfl ?_
   obtain rfl:=qb hF;replace hF:=hK1
   exact ri h hF rfl
  exact X0 6 rfl (rK ⟨_,hF,rfl,h⟩ rfl)
 refine qr rfl ?_
 obtain rfl:=qb hF;replace hF:=hK1
 exact X0 4 rfl (ri h hF rfl)
def qaP (n:Nat) (s:(List Int)) (f_0:qf):Option Bool :=
 (qa3 n s f_0).bind fun r1 =>
 some (decide (r1 ≥ 0))
theorem qdU {s:(List Int)} {f_0:qf} (ha1:GoT.R w (old w) s cs1) {p2:Option Addr} (ha2:GoT.R w (old w) (some f_0) [.pointer p2]) {r:Bool} (hF:qaP n s f_0=some r):RetV Tryz.prog 80 [GoT.v (List Int) cs1,.func (.func 269) #[] #[.pointer p2]] w r:=by
 obtain ⟨p1,k1,rfl,s1⟩:=ha1
 obtain ⟨b1,o_1,cs2,rfl,-,hr1,hc1⟩:=PtR.get ha2 rfl
 obtain ⟨p3,k2,p4,k3,p5,k4,rfl,s2,s3,s4⟩:=qaA hr1
 exact zV 9 Tryz.func80 rfl fun h=>X0 8 rfl (zcI h hF (qem ⟨_,_,rfl,(h.oldS s1)⟩ (h.old ha2)) rfl fun r1 w1 h hF=>X0 3 rfl (rb h hF rfl))
def qd1 (n:Nat) (d:qf) (l:qv) (x:qp):Option Bool :=
 (qgp n l.Ap).bind fun r1 =>
 (qaK n x.Bp 0 (W64 (r1-1))).bind fun r2 =>
 bif r2 then
  (idx l.Ap x.Bp).bind fun y1 =>
  bif ((x.Ai.length:Int)==(y1.Ay.length:Int)) then
   (qaP n x.Ai d).bind fun r3 =>
   some (!r3)
  else
   some false
 else
  some false
theorem qk4 {d:qf} {l:qv} {x:qp} (ha1:GoT.R w (old w) d cs1) (ha2:GoT.R w (old w) l cs2) (ha3:GoT.R w (old w) x cs3) {r:Bool} (hF:qd1 n d l x=some r):RetV Tryz.prog 229 [GoT.v qf cs1,GoT.v qv cs2,GoT.v qp cs3] w r:=by
 obtain ⟨p1,k1,p2,k2,p3,k3,rfl,s1,s2,s3⟩:=qaA ha1
 obtain ⟨p4,k4,rfl,s4⟩:=qbF ha2
 obtain ⟨p5,k5,rfl,s5⟩:=qR ha3
 refine zV 35 Tryz.func229 rfl fun h=>zSR (qt h rfl rfl fun w1 bb1 h=>qt h rfl rfl fun w2 bb2 h=>qt h rfl rfl fun w3 bb3 h=>X0 3 rfl (rD (Y1 2 0 h rfl ?_)))
 refine Y1 2 1 h rfl ?_
 obtain ⟨r1,hr1,hF⟩:=qc hF
 refine qbj r1 (vsI _) (cB 268 rfl) (fun _ hb=>qlI ⟨_,_,rfl,((h.ext hb).oldS s4)⟩ hr1) rfl rfl rfl rfl (zd1 rfl ?_)
 obtain ⟨r2,hr2,hF⟩:=qc hF
 refine qbj r2 (vsB _) (cB 103 rfl) (fun _ hb=>qaB  hr2) rfl rfl rfl rfl (zd1 rfl (qaO (t:=14) hF rfl ?_ ?_))<;>intro hF
 ·refine Y1 4 0 h rfl ?_
  refine Y1 6 1 h rfl ?_
  refine Y1 4 0 h rfl ?_
  refine Y0 1 rfl ?_
  obtain ⟨y1,hy1,hF,he1,b1,_,q1,cs4,hp1,hq1,hr3,hc1⟩:=s4.ix hF
  obtain ⟨p6,k6,p7,k7,p8,k8,rfl,s6,s7,s8⟩:=qaf hr3
  refine zdxe hp1 hq1 he1 rfl (Y0 3 rfl (zdc 2 (hc1.below h.below) rfl (Y0 6 rfl (qaO (t:=28) hF rfl ?_ ?_))))<;>intro hF
  ·refine Y1 4 0 h rfl ?_
   refine Y0 3 rfl ?_
   obtain ⟨r3,hr4,hF⟩:=qc hF
   exact qbj r3 (vsB _) (cB 80 rfl) (fun _ hb=>qdU ⟨_,_,rfl,((h.ext hb).oldS s5)⟩ (qcp (x:=d) 2 (h.ext hb) rfl ((h.ext hb).old ha1)) hr4) rfl rfl rfl rfl (Y0 4 rfl (dN h fun w4 h=>rb h hF rfl))
  exact Y0 7 rfl (dN h fun w5 h=>rb h hF rfl)
 exact Y0 21 rfl (dN h fun w6 h=>rb h hF rfl)
def qjV (_:Nat) (a_n:Int):Option Bool :=
 some (a_n != 1)
theorem qoc {a_n:Int}  {r:Bool} (hF:qjV n a_n=some r):RetV Tryz.prog 231 [.int .i64 a_n] w r:=by
 exact zV 5 Tryz.func231 rfl fun h=>X0 10 rfl (rb h hF rfl)
def qal (s:(List Int)):Nat→Int→Option (Flow Int Int)
 | 0,_=>none
 | n+1,i1 =>
  bif decide (i1<(s.length:Int)) then
   (idx s i1).bind fun y1 =>
   (qjV n y1).bind fun r1 =>
   bif r1 then some (.ret i1) else
   qal s n (W64 (i1+1))
  else
   some (.nxt i1)
def qb2 (n:Nat) (s:(List Int)):Option Int :=
 (qal s n 0).bind fun o=>match o with
 | .ret r=>some r
 | .nxt _ =>
  some (-1)
theorem qgD {s:(List Int)} (ha1:GoT.R w (old w) s cs1) {r:Int} (hF:qb2 n s=some r):RetV Tryz.prog 270 [GoT.v (List Int) cs1,.func (.func 231) #[] #[]] w r:=by
 obtain ⟨p1,k1,rfl,s1⟩:=ha1
 refine zV 19 Tryz.func270 rfl fun h=>X0 11 rfl ?_
 obtain ⟨o1,hF,hK1⟩:=qc hF
 refine qm (rL (fun m e w'=>∃ (i1:Int),qal s m i1=some o1∧e=[(0,.slice p1 s.length k1),(1,.func (.func 231) #[] #[]),(7,.int .i64 (s.length:Int)),(8,.int .i64 i1)]∧SH w w' []) n ⟨_,hF,rfl,h⟩ rfl ?_)
 rintro m1 e1 w1 ⟨i1,hF,rfl,h⟩
 rcases m1 with _|m1
 ·cases hF
 refine X0 5 rfl (qi rfl hF ?_ ?_)<;>intro hF
 ·refine X0 13 rfl ?_
  obtain ⟨y1,hy1,hF,he1,b1,_,q1,cs2,hp1,hq1,rfl,hc2⟩:=s1.ix hF
  refine zxe hp1 hq1 he1 rfl (zc 0 (hc2.below h.below) rfl (zcB h hF qoc rfl fun r1 w2 h hF=>qcr (qi rfl hF ?_ ?_)))<;>intro hF
  ·refine X0 5 rfl ?_
   obtain rfl:=qb hF;replace hF:=hK1
   exact ri h hF rfl
  exact X0 6 rfl (rK ⟨_,hF,rfl,h⟩ rfl)
 refine qr rfl ?_
 obtain rfl:=qb hF;replace hF:=hK1
 exact X0 4 rfl (ri h hF rfl)
def qbN (n:Nat) (s:(List Int)):Option Bool :=
 (qb2 n s).bind fun r1 =>
 some (decide (r1 ≥ 0))
theorem qfS {s:(List Int)} (ha1:GoT.R w (old w) s cs1) {r:Bool} (hF:qbN n s=some r):RetV Tryz.prog 230 [GoT.v (List Int) cs1,.func (.func 231) #[] #[]] w r:=by
 obtain ⟨p1,k1,rfl,s1⟩:=ha1
 exact zV 9 Tryz.func230 rfl fun h=>X0 8 rfl (zcI h hF (qgD ⟨_,_,rfl,(h.oldS s1)⟩) rfl fun r1 w1 h hF=>X0 3 rfl (rb h hF rfl))
def qcs (a_1:qf):Nat→(List Int)→Int→Option (Flow Bool ((List Int) × Int))
 | 0,_,_=>none
 | n+1,x3,i2 =>
  bif decide (i2<(a_1.Ah.length:Int)) then
   (idx a_1.Ah i2).bind fun y5 =>
   (
    bif (y5.Bs != 1) then
     bif (y5.Bs != 2) then some true else
     (qb6 n a_1 y5.Bu).bind fun r2 =>
     some (!r2)
    else
     (qb6 n a_1 y5.Bu).bind fun r3 =>
     some (!r3)).bind fun b7 =>
   bif b7 then some (.ret false) else
   bif (y5.Bs==1) then
    (idx x3 y5.Bu).bind fun y6 =>
    (idx x3 y5.Bu).bind fun _ =>
    qcs a_1 n (setS x3 y5.Bu (W64 (y6+1))) (W64 (i2+1))
   else
    qcs a_1 n x3 (W64 (i2+1))
  else
   some (.nxt (x3,i2))
def qdc (a_0:qv) (a_1:qf):Nat→(List Int)→Int→Option (Flow Bool ((List Int) × Int))
 | 0,_,_=>none
 | n+1,x2,i1 =>
  bif decide (i1<(a_1.Ab.length:Int)) then
   (idx a_1.Ab i1).bind fun y1 =>
   (qd1 n a_1 a_0 y1).bind fun r1 =>
   bif (!r1) then some (.ret false) else
   (idx y1.Ai (W64 ((y1.Ai.length:Int)-1))).bind fun y2 =>
   (idx x2 y2).bind fun y3 =>
   (idx x2 y2).bind fun _ =>
   qdc a_0 a_1 n (setS x2 y2 (W64 (y3+1))) (W64 (i1+1))
  else
   some (.nxt (x2,i1))
def qjn (n:Nat) (a_0:qv) (a_1:qf):Option Bool :=
 (
  (qir n a_0).bind fun r5 =>
  bif (!r5) then some true else
  (qeP n a_1).bind fun r6 =>
  some (!r6)).bind fun b1 =>
 bif b1 then some false else
 (mkS (a_1.Ai.length:Int) (0:Int)).bind fun x1 =>
 (qdc a_0 a_1 n x1 0).bind fun o=>match o with
 | .ret r=>some r
 | .nxt (x2,_) =>
  (qcs a_1 n x2 0).bind fun o=>match o with
  | .ret r=>some r
  | .nxt (x3,_) =>
   (qbN n x3).bind fun r4 =>
   some (!r4)
theorem qo7 {a_0:qv} {a_1:qf} (ha1:GoT.R w (old w) a_0 cs1) (ha2:GoT.R w (old w) a_1 cs2) {r:Bool} (hF:qjn n a_0 a_1=some r):RetV Tryz.prog 161 [GoT.v qv cs1,GoT.v qf cs2] w r:=by
 obtain ⟨p1,k1,rfl,s1⟩:=qbF ha1
 obtain ⟨p2,k2,p3,k3,p4,k4,rfl,s2,s3,s4⟩:=qaA ha2
 refine zV 84 Tryz.func161 rfl fun h=>zSR (qt h rfl rfl fun w1 bb1 h=>qt h rfl rfl fun w2 bb2 h=>X0 4 rfl ?_)
 obtain ⟨KF2,hKF2,o4,hF,hK4⟩:=bindE hF
 refine qa0 (fun e w'=>∃ (b1:Bool),KF2 b1=some r∧e=[(2,.pointer (some ⟨bb1,0,none⟩)),(3,.pointer (some ⟨bb2,0,none⟩)),(17,.bool b1)]∧SH w w' [Ch.box bb2 (qaM a_1 p2 p3 p4 k2 k3 k4) 50,Ch.box bb1 [.slice p1 a_0.Ap.length k1] 46]) ?_ ?_
 ·refine X1 2 1 h rfl (zcB h hF (qoW (h.old ha1)) rfl fun r5 w17 h hF=>zp2 rfl (qh (t:=13) hF rfl ?_ ?_))<;>intro hF
  ·refine X0 5 rfl ?_
   obtain rfl:=qb hF
   exact rG ⟨_,hK4,rfl,h⟩ rfl
  refine X1 3 0 h rfl (zcB h hF (qlY (h.old ha2)) rfl fun r6 w18 h hF=>X0 4 rfl ?_)
  obtain rfl:=qb hF
  exact rG ⟨_,hK4,rfl,h⟩ rfl
 rintro e4 w19 ⟨b1,hF,rfl,h⟩
 subst hKF2
 refine qi rfl hF ?_ ?_<;>intro hF
 ·exact X0 4 rfl (rb h hF rfl)
 refine X1 6 0 h rfl ?_
 obtain ⟨x1,hx1,hF⟩:=qc hF
 obtain ⟨g1,g2,hx1⟩:=qL hx1
 refine qah qa Int h rfl rfl rfl rfl rfl rfl rfl rfl rfl g1 g2 hx1 rfl fun w3 S1 p5 h=>X1 10 1 h rfl ?_
 obtain ⟨o1,hF,hK1⟩:=qc hF
 refine qm (rL (fun m e w'=>∃ (x2:(List Int)) (i1:Int),qdc a_0 a_1 m x2 i1=some o1∧e=[(2,.pointer (some ⟨bb1,0,none⟩)),(3,.pointer (some ⟨bb2,0,none⟩)),(5,.slice p5 x1.length x1.length),(23,.slice p2 a_1.Ab.length k2),(24,.int .i64 (a_1.Ab.length:Int)),(25,.int .i64 i1)]∧SH w w' [Ch.own S1 (x2:List Int) [.slice p5 x1.length x1.length],Ch.box bb2 (qaM a_1 p2 p3 p4 k2 k3 k4) 50,Ch.box bb1 [.slice p1 a_0.Ap.length k1] 46]) n ⟨_,_,hF,rfl,h⟩ rfl ?_)
 rintro m1 e1 w4 ⟨x2,i1,hF,rfl,h⟩
 rcases m1 with _|m1
 ·cases hF
 refine X0 5 rfl (qi rfl hF ?_ ?_)<;>intro hF
 ·refine zKSBSR ?_
  obtain ⟨y1,hy1,hF,he1,b2,_,q1,cs3,hp1,hq1,hr1,hc3⟩:=s2.ix hF
  obtain ⟨p6,k5,rfl,s5⟩:=qR hr1
  refine zxe hp1 hq1 he1 rfl (zc 0 (hc3.below h.below) rfl (qn qa h rfl rfl rfl fun w5 bb3 h=>zs 0 h rfl fun w6 h=>X3 7 2 3 0 h rfl (zcB h hF (qk4 (h.old ha2) (h.old ha1) (qgo y1 (h.oldS s5))) rfl fun r1 w7 h hF=>X0 2 rfl (qi rfl hF ?_ ?_))))<;>intro hF
  ·refine X0 4 rfl ?_
   obtain rfl:=qb hF;replace hF:=hK1
   exact rb h hF rfl
  refine X2 9 0 0 h rfl ?_
  obtain ⟨y2,hy2,hF,he2,b3,_,q2,cs4,hp2,hq2,rfl,hc5⟩:=s5.ix hF
  refine zxe hp2 hq2 he2 rfl (zc 0 (hc5.below h.below) rfl ?_)
  obtain ⟨y3,hy3,hF,he3,b4,_,q3,cs5,hp3,hq3,rfl,hc6⟩:=(h.sl 1 rfl).1.ix hF
  refine zx hp3 hq3 ⟨he3.1,qK he3.2.1 (h.sl 1 rfl).2⟩ rfl (zc 0 hc6 rfl (zp1 rfl ?_))
  obtain ⟨y4,hy4,hF,he4,b5,_,q4,cs6,hp4,hq4,rfl,hc7⟩:=(h.sl 1 rfl).1.ix hF
  refine zx hp4 hq4 ⟨he4.1,qK he4.2.1 (h.sl 1 rfl).2⟩ rfl (qa7 qa 1 0 (W64 (y3+1)) h rfl hy4 hp4 hq4 rfl hc7 rfl rfl rfl rfl rfl rfl rfl fun w8 h=>X0 6 rfl ?_)
  replace h:=h.pick [1,2,3] rfl
  exact rK ⟨_,_,hF,rfl,h⟩ rfl
 refine qr rfl ?_
 obtain rfl:=qb hF;replace hF:=hK1
 refine X1 8 1 h rfl ?_
 obtain ⟨o2,hF,hK2⟩:=qc hF
 refine qm ?_
 replace h:=h.pick [0,1] rfl
 refine rL (fun m e w'=>∃ (x3:(List Int)) (i2:Int),qcs a_1 m x3 i2=some o2∧e=[(3,.pointer (some ⟨bb2,0,none⟩)),(5,.slice p5 x1.length x1.length),(49,.slice p4 a_1.Ah.length k4),(50,.int .i64 (a_1.Ah.length:Int)),(51,.int .i64 i2)]∧SH w w' [Ch.own S1 (x3:List Int) [.slice p5 x1.length x1.length],Ch.box bb2 (qaM a_1 p2 p3 p4 k2 k3 k4) 50]) n ⟨_,_,hF,rfl,h⟩ rfl ?_
 rintro m2 e2 w9 ⟨x3,i2,hF,rfl,h⟩
 rcases m2 with _|m2
 ·cases hF
 refine X0 5 rfl (qi rfl hF ?_ ?_)<;>intro hF
 ·refine zKSBSR ?_
  obtain ⟨y5,hy5,hF,he5,b6,_,q5,cs7,hp5,hq5,hr6,hc9⟩:=s4.ix hF
  obtain rfl:=qbh hr6
  refine zxe hp5 hq5 he5 rfl (zc 0 (hc9.below h.below) rfl (qn qa h rfl rfl rfl fun w10 bb4 h=>zs 0 h rfl fun w11 h=>zNSS ?_))
  obtain ⟨KF1,hKF1,o3,hF,hK3⟩:=bindE hF
  refine qa0 (fun e w'=>∃ (b7:Bool),KF1 b7=some o2∧e=[(3,.pointer (some ⟨bb2,0,none⟩)),(5,.slice p5 x1.length x1.length),(9,.pointer (some ⟨bb4,0,none⟩)),(49,.slice p4 a_1.Ah.length k4),(50,.int .i64 (a_1.Ah.length:Int)),(51,.int .i64 i2),(69,.bool b7)]∧SH w w' [Ch.box bb4 (qqq y5) 294,Ch.own S1 (x3:List Int) [.slice p5 x1.length x1.length],Ch.box bb2 (qaM a_1 p2 p3 p4 k2 k3 k4) 50]) ?_ ?_
  ·refine X1 5 0 h rfl (qh (t:=58) hF rfl ?_ ?_)<;>intro hF
   ·refine X1 8 0 h rfl (qh (t:=63) hF rfl ?_ ?_)<;>intro hF
    ·refine X0 7 rfl ?_
     obtain rfl:=qb hF
     exact rG ⟨_,hK3,rfl,h⟩ rfl
    refine X2 7 2 0 h rfl (zcB h hF (qds (h.old ha2)) rfl fun r2 w13 h hF=>X0 4 rfl ?_)
    obtain rfl:=qb hF
    exact rG ⟨_,hK3,rfl,h⟩ rfl
   refine X2 12 2 0 h rfl (zcB h hF (qds (h.old ha2)) rfl fun r3 w14 h hF=>X0 4 rfl ?_)
   obtain rfl:=qb hF
   exact rG ⟨_,hK3,rfl,h⟩ rfl
  rintro e3 w15 ⟨b7,hF,rfl,h⟩
  subst hKF1
  refine qi rfl hF ?_ ?_<;>intro hF
  ·refine X0 4 rfl ?_
   obtain rfl:=qb hF;replace hF:=hK2
   exact rb h hF rfl
  refine X1 7 0 h rfl (qi rfl hF ?_ ?_)<;>intro hF
  ·refine X1 4 0 h rfl ?_
   obtain ⟨y6,hy6,hF,he6,b8,_,q6,cs8,hp6,hq6,rfl,hc12⟩:=(h.sl 1 rfl).1.ix hF
   refine zx hp6 hq6 ⟨he6.1,qK he6.2.1 (h.sl 1 rfl).2⟩ rfl (zc 0 hc12 rfl (zp1 rfl ?_))
   obtain ⟨y7,hy7,hF,he7,b9,_,q7,cs9,hp7,hq7,rfl,hc13⟩:=(h.sl 1 rfl).1.ix hF
   refine zx hp7 hq7 ⟨he7.1,qK he7.2.1 (h.sl 1 rfl).2⟩ rfl (qa7 qa 1 0 (W64 (y6+1)) h rfl hy7 hp7 hq7 rfl hc13 rfl rfl rfl rfl rfl rfl rfl fun w12 h=>X0 6 rfl ?_)
   replace h:=h.pick [1,2] rfl
   exact rK ⟨_,_,hF,rfl,h⟩ rfl
  refine X0 6 rfl ?_
  replace h:=h.pick [1,2] rfl
  exact rK ⟨_,_,hF,rfl,h⟩ rfl
 refine qr rfl ?_
 obtain rfl:=qb hF;replace hF:=hK2
 exact X0 3 rfl (zcB h hF (qfS (h.own 0 rfl)) rfl fun r4 w16 h hF=>X0 3 rfl (rb h hF rfl))
def qbK (i1:Int) (y1:qp):Nat→(List Tplace)→Int→Option ((List Tplace) × Int)
 | 0,_,_=>none
 | n+1,x2,i2 =>
  bif decide (i2<(y1.Ai.length:Int)) then
   (idx y1.Ai i2).bind fun y2 =>
   (appS x2 ([(⟨i1,i2,y2,(i2==(W64 ((y1.Ai.length:Int)-1)))⟩:Tplace)]:List Tplace)).bind fun x3 =>
   qbK i1 y1 n x3 (W64 (i2+1))
  else
   some (x2,i2)
def qbJ (d:qf):Nat→(List Tplace)→Int→Option ((List Tplace) × Int)
 | 0,_,_=>none
 | n+1,x4,i3 =>
  bif decide (i3<(d.Ah.length:Int)) then
   (idx d.Ah i3).bind fun y3 =>
   (appS x4 ([(⟨(-1),i3,y3.Bu,(y3.Bs==1)⟩:Tplace)]:List Tplace)).bind fun x5 =>
   qbJ d n x5 (W64 (i3+1))
  else
   some (x4,i3)
def qbI (d:qf):Nat→(List Tplace)→Int→Option ((List Tplace) × Int)
 | 0,_,_=>none
 | n+1,x1,i1 =>
  bif decide (i1<(d.Ab.length:Int)) then
   (idx d.Ab i1).bind fun y1 =>
   (qbK i1 y1 n x1 0).bind fun o=>match o with
   | (x2,_) =>
    qbI d n x2 (W64 (i1+1))
  else
   some (x1,i1)
def qcj (n:Nat) (d:qf):Option (List Tplace) :=
 (qbI d n ([]:List Tplace) 0).bind fun o=>match o with
 | (x1,_) =>
  (qbJ d n x1 0).bind fun o=>match o with
  | (x4,_) =>
   some x4
theorem qeq {d:qf} (ha1:GoT.R w (old w) d cs1) {r:(List Tplace)} (hF:qcj n d=some r):RetV Tryz.prog 162 [GoT.v qf cs1] w r:=by
 obtain ⟨p1,k1,p2,k2,p3,k3,rfl,s1,s2,s3⟩:=qaA ha1
 refine zV 61 Tryz.func162 rfl fun h=>zSR (qt h rfl rfl fun w1 bb1 h=>X1 14 0 h rfl ?_)
 replace h:=h.nil (α:=Tplace)
 obtain ⟨o1,hF,hK1⟩:=qc hF
 refine qm (rL (fun m e w'=>∃ (S1:Nat→Prop) (p4:Option Addr) (ln1:Nat) (k4:Nat) (x1:(List Tplace)) (i1:Int),qbI d m x1 i1=some o1∧e=[(1,.pointer (some ⟨bb1,0,none⟩)),(3,.slice p4 ln1 k4),(11,.slice p1 d.Ab.length k1),(12,.int .i64 (d.Ab.length:Int)),(13,.int .i64 i1)]∧SH w w' [Ch.own S1 (x1:List Tplace) [.slice p4 ln1 k4],Ch.box bb1 (qaM d p1 p2 p3 k1 k2 k3) 50]) n ⟨_,_,_,_,_,_,hF,rfl,h⟩ rfl ?_)
 rintro m1 e1 w2 ⟨S1,p4,ln1,k4,x1,i1,hF,rfl,h⟩
 obtain rfl:=(h.sl 0 rfl).2
 rcases m1 with _|m1
 ·cases hF
 refine X0 5 rfl (qi rfl hF ?_ ?_)<;>intro hF
 ·refine X0 6 rfl ?_
  obtain ⟨y1,hy1,hF,he1,b1,_,q1,cs2,hp1,hq1,hr1,hc2⟩:=s1.ix hF
  obtain ⟨p5,k5,rfl,s4⟩:=qR hr1
  refine zxe hp1 hq1 he1 rfl (zc 0 (hc2.below h.below) rfl (qn qa h rfl rfl rfl fun w3 bb2 h=>zp1 rfl (zs 0 h rfl fun w4 h=>X1 8 0 h rfl ?_)))
  obtain ⟨o2,hF,hK2⟩:=qc hF
  refine qm (rL (fun m e w'=>∃ (S2:Nat→Prop) (p6:Option Addr) (ln2:Nat) (k6:Nat) (x2:(List Tplace)) (i2:Int),qbK i1 y1 m x2 i2=some o2∧e=[(1,.pointer (some ⟨bb1,0,none⟩)),(3,.slice p6 ln2 k6),(4,.int .i64 i1),(5,.pointer (some ⟨bb2,0,none⟩)),(11,.slice p1 d.Ab.length k1),(12,.int .i64 (d.Ab.length:Int)),(13,.int .i64 i1),(19,.slice p5 y1.Ai.length k5),(20,.int .i64 (y1.Ai.length:Int)),(21,.int .i64 i2)]∧SH w w' [Ch.box bb2 (qjz y1 p5 k5) 174,Ch.own S2 (x2:List Tplace) [.slice p6 ln2 k6],Ch.box bb1 (qaM d p1 p2 p3 k1 k2 k3) 50]) m1 ⟨_,_,_,_,_,_,hF,rfl,h⟩ rfl ?_)
  rintro m2 e2 w5 ⟨S2,p6,ln2,k6,x2,i2,hF,rfl,h⟩
  obtain rfl:=(h.sl 1 rfl).2
  rcases m2 with _|m2
  ·cases hF
  refine X0 5 rfl (qi rfl hF ?_ ?_)<;>intro hF
  ·refine X0 6 rfl ?_
   obtain ⟨y2,hy2,hF,he2,b2,_,q2,cs3,hp2,hq2,rfl,hc4⟩:=s4.ix hF
   refine zxe hp2 hq2 he2 rfl (zc 0 (hc4.below h.below) rfl (X1 14 0 h rfl (r_v (qae qa [0,1,2,3] [.tmp 27,.tmp 28,.tmp 29,.tmp 35] rfl rfl rfl rfl rfl rfl rfl rfl) rfl (qG qa [.tmp 36] _ ([(⟨i1,i2,y2,(i2==(W64 ((y1.Ai.length:Int)-1)))⟩:Tplace)]:List Tplace) h rfl rfl rfl rfl rfl rfl rfl rfl rfl ⟨(qkU (⟨i1,i2,y2,(i2==(W64 ((y1.Ai.length:Int)-1)))⟩:Tplace)),trivial⟩ rfl fun w6 p7 S3 h=>?_))))
   obtain ⟨x3,hx1,hF⟩:=qc hF
   obtain ⟨g1,hx1⟩:=qav hx1
   refine qcl qa 2 h rfl (h.sl 0 rfl).1 (h.sl 0 rfl).2 rfl rfl rfl rfl rfl rfl rfl rfl rfl g1 hx1 rfl fun w7 p8 k7 S4 h=>X0 7 rfl ?_
   replace h:=h.pick [1,2,3] rfl
   exact rK ⟨_,_,_,_,_,_,hF,rfl,h⟩ rfl
  refine qr rfl ?_
  obtain rfl:=qb hF;replace hF:=hK2
  refine X0 5 rfl ?_
  replace h:=h.pick [1,2] rfl
  exact rK ⟨_,_,_,_,_,_,hF,rfl,h⟩ rfl
 refine qr rfl ?_
 obtain rfl:=qb hF;replace hF:=hK1
 refine X1 8 1 h rfl ?_
 obtain ⟨o3,hF,hK3⟩:=qc hF
 refine qm ?_
 replace h:=h.pick [0] rfl
 refine rL (fun m e w'=>∃ (S5:Nat→Prop) (p9:Option Addr) (ln3:Nat) (k8:Nat) (x4:(List Tplace)) (i3:Int),qbJ d m x4 i3=some o3∧e=[(3,.slice p9 ln3 k8),(42,.slice p3 d.Ah.length k3),(43,.int .i64 (d.Ah.length:Int)),(44,.int .i64 i3)]∧SH w w' [Ch.own S5 (x4:List Tplace) [.slice p9 ln3 k8]]) n ⟨_,_,_,_,_,_,hF,rfl,h⟩ rfl ?_
 rintro m3 e3 w8 ⟨S5,p9,ln3,k8,x4,i3,hF,rfl,h⟩
 obtain rfl:=(h.sl 0 rfl).2
 rcases m3 with _|m3
 ·cases hF
 refine X0 5 rfl (qi rfl hF ?_ ?_)<;>intro hF
 ·refine X0 6 rfl ?_
  obtain ⟨y3,hy3,hF,he3,b3,_,q3,cs4,hp3,hq3,hr3,hc6⟩:=s3.ix hF
  obtain rfl:=qbh hr3
  refine zxe hp3 hq3 he3 rfl (zc 0 (hc6.below h.below) rfl (qn qa h rfl rfl rfl fun w9 bb3 h=>zp1 rfl (zs 0 h rfl fun w10 h=>X2 9 0 0 h rfl (r_v (qae qa [0,1,2,3] [.const (.int .i64 (-1)),.tmp 50,.tmp 52,.tmp 55] rfl rfl rfl rfl rfl rfl rfl rfl) rfl (qG qa [.tmp 56] _ ([(⟨(-1),i3,y3.Bu,(y3.Bs==1)⟩:Tplace)]:List Tplace) h rfl rfl rfl rfl rfl rfl rfl rfl rfl ⟨(qkU (⟨(-1),i3,y3.Bu,(y3.Bs==1)⟩:Tplace)),trivial⟩ rfl fun w11 p10 S6 h=>?_)))))
  obtain ⟨x5,hx2,hF⟩:=qc hF
  obtain ⟨g2,hx2⟩:=qav hx2
  refine qcl qa 2 h rfl (h.sl 0 rfl).1 (h.sl 0 rfl).2 rfl rfl rfl rfl rfl rfl rfl rfl rfl g2 hx2 rfl fun w12 p11 k9 S7 h=>X0 7 rfl ?_
  replace h:=h.pick [2] rfl
  exact rK ⟨_,_,_,_,_,_,hF,rfl,h⟩ rfl
 refine qr rfl ?_
 obtain rfl:=qb hF;replace hF:=hK3
 refine X0 5 rfl ?_
 obtain rfl:=qb hF
 exact rO 0 h rfl ⟨rfl,trivial⟩
def qbc (a_w:qT):Nat→Int→Option (Flow Bool Int)
 | 0,_=>none
 | n+1,i1 =>
  bif decide (i1<(a_w.Ak.length:Int)) then
   (idx a_w.Ak i1).bind fun y1 =>
   bif (i1==0) then
    bif (y1 != (-1)) then some (.ret false) else
    (idx a_w.Bt 0).bind fun y2 =>
    bif (y2 != 0) then some (.ret false) else
    bif decide (i1 > 0) then
     (qaK n y1 0 (W64 (i1-1))).bind fun r1 =>
     bif (!r1) then some (.ret false) else
     qbc a_w n (W64 (i1+1))
    else
     qbc a_w n (W64 (i1+1))
   else
    bif decide (i1 > 0) then
     (qaK n y1 0 (W64 (i1-1))).bind fun r2 =>
     bif (!r2) then some (.ret false) else
     qbc a_w n (W64 (i1+1))
    else
     qbc a_w n (W64 (i1+1))
  else
   some (.nxt i1)
def qhk (n:Nat) (a_w:qT):Option Bool :=
 (qbc a_w n 0).bind fun o=>match o with
 | .ret r=>some r
 | .nxt _ =>
  some true
theorem qnS {a_w:qT} (ha1:GoT.R w (old w) a_w cs1) {r:Bool} (hF:qhk n a_w=some r):RetV Tryz.prog 232 [GoT.v qT cs1] w r:=by
 obtain ⟨p1,k1,p2,k2,p3,k3,p4,k4,rfl,s1,s2,s3,s4⟩:=qaQ ha1
 refine zV 38 Tryz.func232 rfl fun h=>zSR (qt h rfl rfl fun w1 bb1 h=>X1 10 0 h rfl ?_)
 obtain ⟨o1,hF,hK1⟩:=qc hF
 refine qm (rL (fun m e w'=>∃ (i1:Int),qbc a_w m i1=some o1∧e=[(1,.pointer (some ⟨bb1,0,none⟩)),(6,.slice p1 a_w.Ak.length k1),(7,.int .i64 (a_w.Ak.length:Int)),(8,.int .i64 i1)]∧SH w w' [Ch.box bb1 (qgt a_w p1 p2 p3 p4 k1 k2 k3 k4) 210]) n ⟨_,hF,rfl,h⟩ rfl ?_)
 rintro m1 e1 w2 ⟨i1,hF,rfl,h⟩
 rcases m1 with _|m1
 ·cases hF
 refine X0 5 rfl (qi rfl hF ?_ ?_)<;>intro hF
 ·refine X0 6 rfl ?_
  obtain ⟨y1,hy1,hF,he1,b1,_,q1,cs2,hp1,hq1,rfl,hc2⟩:=s1.ix hF
  refine zxe hp1 hq1 he1 rfl (zc 0 (hc2.below h.below) rfl (X0 8 rfl (qh (t:=15) hF rfl ?_ ?_)))<;>intro hF
  ·refine X0 6 rfl (qh (t:=18) hF rfl ?_ ?_)<;>intro hF
   ·refine X0 20 rfl (qbV rfl rfl (X0 4 rfl ?_))
    obtain rfl:=qb hF;replace hF:=hK1
    exact rb h hF rfl
   refine X1 5 0 h rfl ?_
   obtain ⟨y2,hy2,hF,he2,b2,_,q2,cs3,hp2,hq2,rfl,hc3⟩:=s2.ix hF
   refine zxe hp2 hq2 he2 rfl (X0 1 rfl (zc 0 (hc3.below h.below) rfl (X0 6 rfl (qh (t:=26) hF rfl ?_ ?_))))<;>intro hF
   ·refine X0 11 rfl (qbV rfl rfl (X0 4 rfl ?_))
    obtain rfl:=qb hF;replace hF:=hK1
    exact rb h hF rfl
   refine X0 6 rfl (qh (t:=29) hF rfl ?_ ?_)<;>intro hF
   ·refine X0 7 rfl (zcB h hF qaB rfl fun r1 w3 h hF=>X0 6 rfl (qi rfl hF ?_ ?_))<;>intro hF
    ·refine X0 4 rfl ?_
     obtain rfl:=qb hF;replace hF:=hK1
     exact rb h hF rfl
    exact X0 6 rfl (rK ⟨_,hF,rfl,h⟩ rfl)
   exact X0 9 rfl (qbE rfl rfl (X0 6 rfl (rK ⟨_,hF,rfl,h⟩ rfl)))
  refine X0 17 rfl (qh (t:=29) hF rfl ?_ ?_)<;>intro hF
  ·refine X0 7 rfl (zcB h hF qaB rfl fun r2 w4 h hF=>X0 6 rfl (qi rfl hF ?_ ?_))<;>intro hF
   ·refine X0 4 rfl ?_
    obtain rfl:=qb hF;replace hF:=hK1
    exact rb h hF rfl
   exact X0 6 rfl (rK ⟨_,hF,rfl,h⟩ rfl)
  exact X0 9 rfl (qbE rfl rfl (X0 6 rfl (rK ⟨_,hF,rfl,h⟩ rfl)))
 refine qr rfl ?_
 obtain rfl:=qb hF;replace hF:=hK1
 exact X0 4 rfl (rb h hF rfl)
def qk7 (n:Nat) (a_w:qT) (sinks:Int):Option Bool :=
 (qbs n a_w.Ak).bind fun r1 =>
 (qaK n r1 1 8).bind fun r2 =>
 bif r2 then
  (qbs n a_w.Bt).bind fun r3 =>
  bif (r3==r1) then
   (qbs n a_w.Bq).bind fun r4 =>
   bif (r4==r1) then
    (qhk n a_w).bind fun r5 =>
    bif r5 then
     (qbT n a_w.Bt 0 1000).bind fun r6 =>
     bif r6 then
      (qbT n a_w.Bq 0 500).bind fun r7 =>
      bif r7 then
       (qbs n a_w.Bh).bind fun r8 =>
       bif (r8==sinks) then
        (qbT n a_w.Bh 0 (W64 (r1-1))).bind fun r9 =>
        some r9
       else
        some false
      else
       some false
     else
      some false
    else
     some false
   else
    some false
  else
   some false
 else
  some false
theorem qqP {a_w:qT} {sinks:Int} (ha1:GoT.R w (old w) a_w cs1) {r:Bool} (hF:qk7 n a_w sinks=some r):RetV Tryz.prog 163 [GoT.v qT cs1,.int .i64 sinks] w r:=by
 obtain ⟨p1,k1,p2,k2,p3,k3,p4,k4,rfl,s1,s2,s3,s4⟩:=qaQ ha1
 refine zV 53 Tryz.func163 rfl fun h=>zSR (qt h rfl rfl fun w1 bb1 h=>X1 6 0 h rfl (zcI h hF (qcm ⟨_,_,rfl,(h.oldS s1)⟩) rfl fun r1 w2 h hF=>X0 5 rfl (zcB h hF qaB rfl fun r2 w3 h hF=>zp1 rfl (qh (t:=11) hF rfl ?_ ?_))))<;>intro hF
 ·refine X1 5 0 h rfl (zcI h hF (qcm ⟨_,_,rfl,(h.oldS s2)⟩) rfl fun r3 w4 h hF=>X0 6 rfl (qh (t:=18) hF rfl ?_ ?_))<;>intro hF
  ·refine X1 5 0 h rfl (zcI h hF (qcm ⟨_,_,rfl,(h.oldS s3)⟩) rfl fun r4 w5 h hF=>X0 6 rfl (qh (t:=25) hF rfl ?_ ?_))<;>intro hF
   ·refine X1 3 0 h rfl (zcB h hF (qnS (h.old ha1)) rfl fun r5 w6 h hF=>zp2 rfl (qh (t:=29) hF rfl ?_ ?_))<;>intro hF
    ·refine X1 5 0 h rfl (zcB h hF (qb4 ⟨_,_,rfl,(h.oldS s2)⟩) rfl fun r6 w7 h hF=>zp2 rfl (qh (t:=34) hF rfl ?_ ?_))<;>intro hF
     ·refine X1 5 0 h rfl (zcB h hF (qb4 ⟨_,_,rfl,(h.oldS s3)⟩) rfl fun r7 w8 h hF=>zp2 rfl (qh (t:=39) hF rfl ?_ ?_))<;>intro hF
      ·refine X1 5 0 h rfl (zcI h hF (qcm ⟨_,_,rfl,(h.oldS s4)⟩) rfl fun r8 w9 h hF=>X0 6 rfl (qh (t:=46) hF rfl ?_ ?_))<;>intro hF
       ·exact X1 9 0 h rfl (zcB h hF (qb4 ⟨_,_,rfl,(h.oldS s4)⟩) rfl fun r9 w10 h hF=>X0 3 rfl (rb h hF rfl))
       exact X0 8 rfl (rb h hF rfl)
      exact X0 15 rfl (rb h hF rfl)
     exact X0 20 rfl (rb h hF rfl)
    exact X0 25 rfl (rb h hF rfl)
   exact X0 29 rfl (rb h hF rfl)
  exact X0 36 rfl (rb h hF rfl)
 exact X0 43 rfl (rb h hF rfl)
def qeA (b:qe) (x2:(List Int)):Nat→Int→Option (Flow Bool Int)
 | 0,_=>none
 | n+1,i2 =>
  bif decide (i2<(b.Ac.length:Int)) then
   (idx b.Ac i2).bind fun y4 =>
   (idx x2 i2).bind fun y5 =>
   (qk7 n y4 y5).bind fun r2 =>
   bif (!r2) then some (.ret false) else
   qeA b x2 n (W64 (i2+1))
  else
   some (.nxt i2)
def qcY (r1:(List Tplace)):Nat→(List Int)→Int→Option ((List Int) × Int)
 | 0,_,_=>none
 | n+1,x2,i1 =>
  bif decide (i1<(r1.length:Int)) then
   (idx r1 i1).bind fun y1 =>
   bif (!y1.drives) then
    (idx x2 y1.net).bind fun y2 =>
    (idx x2 y1.net).bind fun _ =>
    qcY r1 n (setS x2 y1.net (W64 (y2+1))) (W64 (i1+1))
   else
    qcY r1 n x2 (W64 (i1+1))
  else
   some (x2,i1)
def qfQ (n:Nat) (b:qe):Option Bool :=
 (
  (qjn n (⟨b.Aq.Ap⟩:qv) (⟨b.Aa.Ab,b.Aa.Ai,b.Aa.Ah⟩:qf)).bind fun r3 =>
  bif (!r3) then some true else
  some ((b.Ac.length:Int) != (b.Aa.Ai.length:Int))).bind fun b1 =>
 bif b1 then some false else
 (mkS (b.Ac.length:Int) (0:Int)).bind fun x1 =>
 (qcj n (⟨b.Aa.Ab,b.Aa.Ai,b.Aa.Ah⟩:qf)).bind fun r1 =>
 (qcY r1 n x1 0).bind fun o=>match o with
 | (x2,_) =>
  (qeA b x2 n 0).bind fun o=>match o with
  | .ret r=>some r
  | .nxt _ =>
   some true
theorem qmH {b:qe} (ha1:GoT.R w (old w) b cs1) {r:Bool} (hF:qfQ n b=some r):RetV Tryz.prog 85 [GoT.v qe cs1] w r:=by
 obtain ⟨p1,k1,p2,k2,p3,k3,p4,k4,p5,k5,rfl,s1,s2,s3,s4,s5⟩:=qD ha1
 refine zV 63 Tryz.func85 rfl fun h=>zSR (qt h rfl rfl fun w1 bb1 h=>X0 4 rfl ?_)
 obtain ⟨KF1,hKF1,o3,hF,hK3⟩:=bindE hF
 refine qa0 (fun e w'=>∃ (b1:Bool),KF1 b1=some r∧e=[(1,.pointer (some ⟨bb1,0,none⟩)),(23,.bool b1)]∧SH w w' [Ch.box bb1 (qZ b p1 p2 p3 p4 p5 k1 k2 k3 k4 k5) 53]) ?_ ?_
 ·refine X2 5 0 0 h rfl (zcB h hF (qo7 (qeX _ (h.oldS s1)) (qan _ (h.oldS s2) (h.oldS s3) (h.oldS s4))) rfl fun r3 w12 h hF=>zp2 rfl (qh (t:=14) hF rfl ?_ ?_))<;>intro hF
  ·refine X0 10 rfl ?_
   obtain rfl:=qb hF
   exact rG ⟨_,hK3,rfl,h⟩ rfl
  refine X2 18 0 0 h rfl ?_
  obtain rfl:=qb hF
  exact rG ⟨_,hK3,rfl,h⟩ rfl
 rintro e3 w13 ⟨b1,hF,rfl,h⟩
 subst hKF1
 refine qi rfl hF ?_ ?_<;>intro hF
 ·exact X0 4 rfl (rb h hF rfl)
 refine X1 6 0 h rfl ?_
 obtain ⟨x1,hx1,hF⟩:=qc hF
 obtain ⟨g1,g2,hx1⟩:=qL hx1
 refine qah qa Int h rfl rfl rfl rfl rfl rfl rfl rfl rfl g1 g2 hx1 rfl fun w2 S1 p6 h=>X1 7 1 h rfl (zcL h hF (qeq (qan _ (h.oldS s2) (h.oldS s3) (h.oldS s4))) rfl fun r1 w3 S2 p7 k6 h hF=>X0 3 rfl ?_)
 obtain ⟨o1,hF,hK1⟩:=qc hF
 refine qm (rL (fun m e w'=>∃ (x2:(List Int)) (i1:Int),qcY r1 m x2 i1=some o1∧e=[(1,.pointer (some ⟨bb1,0,none⟩)),(3,.slice p6 x1.length x1.length),(30,.slice p7 r1.length k6),(31,.int .i64 (r1.length:Int)),(32,.int .i64 i1)]∧SH w w' [Ch.own S2 (r1:List Tplace) [.slice p7 r1.length k6],Ch.own S1 (x2:List Int) [.slice p6 x1.length x1.length],Ch.box bb1 (qZ b p1 p2 p3 p4 p5 k1 k2 k3 k4 k5) 53]) n ⟨_,_,hF,rfl,h⟩ rfl ?_)
 rintro m1 e1 w4 ⟨x2,i1,hF,rfl,h⟩
 rcases m1 with _|m1
 ·cases hF
 refine X0 5 rfl (qi rfl hF ?_ ?_)<;>intro hF
 ·refine zKSBSR ?_
  obtain ⟨y1,hy1,hF,he1,b2,_,q1,cs2,hp1,hq1,hr2,hc3⟩:=(h.sl 0 rfl).1.ix hF
  obtain rfl:=qeZ hr2
  refine zx hp1 hq1 ⟨he1.1,qK he1.2.1 (h.sl 0 rfl).2⟩ rfl (zc 0 hc3 rfl (qn qa h rfl rfl rfl fun w5 bb2 h=>zs 0 h rfl fun w6 h=>X1 7 0 h rfl (qi rfl hF ?_ ?_)))<;>intro hF
  ·refine X1 4 0 h rfl ?_
   obtain ⟨y2,hy2,hF,he2,b3,_,q2,cs3,hp2,hq2,rfl,hc5⟩:=(h.sl 2 rfl).1.ix hF
   refine zx hp2 hq2 ⟨he2.1,qK he2.2.1 (h.sl 2 rfl).2⟩ rfl (zc 0 hc5 rfl (zp1 rfl ?_))
   obtain ⟨y3,hy3,hF,he3,b4,_,q3,cs4,hp3,hq3,rfl,hc6⟩:=(h.sl 2 rfl).1.ix hF
   refine zx hp3 hq3 ⟨he3.1,qK he3.2.1 (h.sl 2 rfl).2⟩ rfl (qa7 qa 2 0 (W64 (y2+1)) h rfl hy3 hp3 hq3 rfl hc6 rfl rfl rfl rfl rfl rfl rfl fun w7 h=>X0 6 rfl ?_)
   replace h:=h.pick [1,2,3] rfl
   exact rK ⟨_,_,hF,rfl,h⟩ rfl
  refine X0 6 rfl ?_
  replace h:=h.pick [1,2,3] rfl
  exact rK ⟨_,_,hF,rfl,h⟩ rfl
 refine qr rfl ?_
 obtain rfl:=qb hF;replace hF:=hK1
 refine X1 8 2 h rfl ?_
 obtain ⟨o2,hF,hK2⟩:=qc hF
 refine qm ?_
 replace h:=h.pick [1] rfl
 refine rL (fun m e w'=>∃ (i2:Int),qeA b x2 m i2=some o2∧e=[(3,.slice p6 x1.length x1.length),(48,.slice p5 b.Ac.length k5),(49,.int .i64 (b.Ac.length:Int)),(50,.int .i64 i2)]∧SH w w' [Ch.own S1 (x2:List Int) [.slice p6 x1.length x1.length]]) n ⟨_,hF,rfl,h⟩ rfl ?_
 rintro m2 e2 w8 ⟨i2,hF,rfl,h⟩
 rcases m2 with _|m2
 ·cases hF
 refine X0 5 rfl (qi rfl hF ?_ ?_)<;>intro hF
 ·refine X0 6 rfl ?_
  obtain ⟨y4,hy4,hF,he4,b5,_,q4,cs5,hp4,hq4,hr5,hc8⟩:=s5.ix hF
  obtain ⟨p8,k7,p9,k8,p10,k9,p11,k10,rfl,s6,s7,s8,s9⟩:=qaQ hr5
  refine zxe hp4 hq4 he4 rfl (zc 0 (hc8.below h.below) rfl (qn qa h rfl rfl rfl fun w9 bb3 h=>zp1 rfl (zs 0 h rfl fun w10 h=>zNS (rD (Y1 1 0 h rfl ?_)))))
  refine zd2 rfl ?_
  obtain ⟨y5,hy5,hF,he5,b6,_,q5,cs6,hp5,hq5,rfl,hc9⟩:=(h.sl 1 rfl).1.ix hF
  refine zdx hp5 hq5 ⟨he5.1,qK he5.2.1 (h.sl 1 rfl).2⟩ rfl (zdc 0 hc9 rfl ?_)
  obtain ⟨r2,hr7,hF⟩:=qc hF
  refine qbj r2 (vsB _) (cB 163 rfl) (fun _ hb=>qqP (qkl y4 ((h.ext hb).oldS s6) ((h.ext hb).oldS s7) ((h.ext hb).oldS s8) ((h.ext hb).oldS s9)) hr7) rfl rfl rfl rfl (zd1 rfl (dN h fun w11 h=>qi rfl hF ?_ ?_))<;>intro hF
  ·refine X0 4 rfl ?_
   obtain rfl:=qb hF;replace hF:=hK2
   exact rb h hF rfl
  refine X0 6 rfl ?_
  replace h:=h.pick [1] rfl
  exact rK ⟨_,hF,rfl,h⟩ rfl
 refine qr rfl ?_
 obtain rfl:=qb hF;replace hF:=hK2
 exact X0 4 rfl (rb h hF rfl)
end Go.Fw


namespace Go.Fw
open Go
def qcu (a:(List Int)):Nat:=a.length
theorem qdq {a:(List Int)} (h:(rngL rngI) a) (w:qcu a≤1048576):(okL okI) a :=
 ⟨by simp only [qcu] at w;omega,fun x hx=>h.2 x hx⟩
def qia (x:qw):Prop:=(rngL rngI) x.Bi∧(rngL rngI) x.Bc∧(rngL rngI) x.Ba
def qfU (x:qw):Nat:=qcu x.Bi+qcu x.Bc+qcu x.Ba
structure qiv (x:qw):Prop where
 Bi:(okL okI) x.Bi
 Bc:(okL okI) x.Bc
 Ba:(okL okI) x.Ba
theorem quj {x:qw} (h:qia x) (w:qfU x≤1048576):qiv x:=⟨qdq (h.1) (by simp only [qfU] at w;omega),qdq (h.2.1) (by simp only [qfU] at w;omega),qdq (h.2.2) (by simp only [qfU] at w;omega)⟩
def qgc (a:(List qw)):Nat:=a.length+(a.map fun x=>qfU x).sum
theorem qpN {a:(List qw)} (h:(rngL qia) a) (w:qgc a≤1048576):(okL qiv) a :=
 ⟨by simp only [qgc] at w;omega,fun x hx=>quj (h.2 x hx) (by have:=qex (wt:=fun x:qw=>qfU x) hx;simp only [qgc] at w;omega)⟩
def qmn (x:qS):Prop:=rngI x.As∧rngI x.Be∧rngI x.To∧rngI x.Bj∧(rngL qia) x.Bl∧(rngL qia) x.Av
def qlp (x:qS):Nat:=qgc x.Bl+qgc x.Av
structure qod (x:qS):Prop where
 As:okI x.As
 Be:okI x.Be
 To:okI x.To
 Bj:okI x.Bj
 Bl:(okL qiv) x.Bl
 Av:(okL qiv) x.Av
theorem qwp {x:qS} (h:qmn x) (w:qlp x≤1048576):qod x:=⟨h.1,h.2.1,h.2.2.1,h.2.2.2.1,qpN (h.2.2.2.2.1) (by simp only [qlp] at w;omega),qpN (h.2.2.2.2.2) (by simp only [qlp] at w;omega)⟩
theorem qfA {a:(List Int)} (h:qcu a≤1048576):Ev (fun n=>qbt n a a) true:=by
 have hl:a.length≤1048576:=by simp only [qcu] at h;omega
 unfold qbt
 exact Ev.ff (by simp) (Ev.bind (b:=.nxt (a.length:Int)) (qiE (eqf:=fun _ x y=>some (!(x != y))) (fun x _=>Ev.now (by simp))
  (fun n=>by simp only [qfD,qk (je _),cond_false])
  (fun n j x hx=>by
   have hj:=(List.getElem?_eq_some_iff.1 hx).1
   simp only [qfD,qj hj,cond_true,qaq hx,jd,Bool.not_not,wS j])) .done)
theorem qwl {a:qw} (h:qfU a≤1048576):Ev (fun n=>qif n a a) true:=by
 unfold qif
 simp only [qfU] at h
 exact Ev.bind (qfA (a:=a.Bi) (by omega)) (Ev.ff rfl (Ev.bind (qfA (a:=a.Bc) (by omega)) (Ev.ff rfl (Ev.bind (qfA (a:=a.Ba) (by omega)) (Ev.ff rfl (.done))))))
theorem qrO {a:(List qw)} (h:qgc a≤1048576):Ev (fun n=>qhI n a a) true:=by
 have hl:a.length≤1048576:=by simp only [qgc] at h;omega
 unfold qhI
 exact Ev.ff (by simp) (Ev.bind (b:=.nxt (a.length:Int)) (qiE (eqf:=qif) (fun x hx=>qwl (by have:=qex (wt:=fun x:qw=>qfU x) hx;simp only [qgc] at h;omega))
  (fun n=>by simp only [qft,qk (je _),cond_false])
  (fun n j x hx=>by
   have hj:=(List.getElem?_eq_some_iff.1 hx).1
   simp only [qft,qj hj,cond_true,qaq hx,jd,wS j])) .done)
theorem qyK {a:qS} (h:qlp a≤1048576):Ev (fun n=>qkx n a a) true:=by
 unfold qkx
 simp only [qlp] at h
 exact Ev.ff qbb (Ev.ff qbb (Ev.ff qbb (Ev.ff qbb (Ev.bind (qrO (a:=a.Bl) (by omega)) (Ev.ff rfl (Ev.bind (qrO (a:=a.Av) (by omega)) (Ev.ff rfl (.done))))))))
def qkE (a:(List qS)):Nat:=a.length+(a.map fun x=>qlp x).sum
theorem qvW {a:(List qS)} (h:(rngL qmn) a) (w:qkE a≤1048576):(okL qod) a :=
 ⟨by simp only [qkE] at w;omega,fun x hx=>qwp (h.2 x hx) (by have:=qex (wt:=fun x:qS=>qlp x) hx;simp only [qkE] at w;omega)⟩
theorem qxJ {a:(List qS)} (h:qkE a≤1048576):Ev (fun n=>qk6 n a a) true:=by
 have hl:a.length≤1048576:=by simp only [qkE] at h;omega
 unfold qk6
 exact Ev.ff (by simp) (Ev.bind (b:=.nxt (a.length:Int)) (qiE (eqf:=qkx) (fun x hx=>qyK (by have:=qex (wt:=fun x:qS=>qlp x) hx;simp only [qkE] at h;omega))
  (fun n=>by simp only [qgK,qk (je _),cond_false])
  (fun n j x hx=>by
   have hj:=(List.getElem?_eq_some_iff.1 hx).1
   simp only [qgK,qj hj,cond_true,qaq hx,jd,wS j])) .done)
def qmC (x:qax):Prop:=rngS x.Az∧rngI x.Bs∧rngI x.Bq∧rngB x.Bm
def qni (x:qax):Nat:=x.Az.size
structure qnA (x:qax):Prop where
 Az:okS x.Az
 Bs:okI x.Bs
 Bq:okI x.Bq
 Bm:okT x.Bm
theorem qv6 {x:qax} (h:qmC x) (w:qni x≤1048576):qnA x:=⟨(by unfold okS;simp only [qni] at w;omega),h.2.1,h.2.2.1,trivial⟩
def qkz (a:(List qax)):Nat:=a.length+(a.map fun x=>qni x).sum
theorem qvn {a:(List qax)} (h:(rngL qmC) a) (w:qkz a≤1048576):(okL qnA) a :=
 ⟨by simp only [qkz] at w;omega,fun x hx=>qv6 (h.2 x hx) (by have:=qex (wt:=fun x:qax=>qni x) hx;simp only [qkz] at w;omega)⟩
def qkQ (x:qC):Prop:=rngS x.Az∧rngI x.As∧(rngL qmC) x.Ay∧(rngL qmn) x.Am∧(rngL rngI) x.Bn∧rngI x.Bx∧rngI x.Br
def qht (x:qC):Nat:=x.Az.size+qkz x.Ay+qkE x.Am+qcu x.Bn
structure qnF (x:qC):Prop where
 Az:okS x.Az
 As:okI x.As
 Ay:(okL qnA) x.Ay
 Am:(okL qod) x.Am
 Bn:(okL okI) x.Bn
 Bx:okI x.Bx
 Br:okI x.Br
theorem qv2 {x:qC} (h:qkQ x) (w:qht x≤1048576):qnF x:=⟨(by unfold okS;simp only [qht] at w;omega),h.2.1,qvn (h.2.2.1) (by simp only [qht] at w;omega),qvW (h.2.2.2.1) (by simp only [qht] at w;omega),qdq (h.2.2.2.2.1) (by simp only [qht] at w;omega),h.2.2.2.2.2.1,h.2.2.2.2.2.2⟩
def qiN (a:(List qC)):Nat:=a.length+(a.map fun x=>qht x).sum
theorem qt8 {a:(List qC)} (h:(rngL qkQ) a) (w:qiN a≤1048576):(okL qnF) a :=
 ⟨by simp only [qiN] at w;omega,fun x hx=>qv2 (h.2 x hx) (by have:=qex (wt:=fun x:qC=>qht x) hx;simp only [qiN] at w;omega)⟩
def qlf (x:qv):Prop:=(rngL qkQ) x.Ap
def qg8 (x:qv):Nat:=qiN x.Ap
structure qh3 (x:qv):Prop where
 Ap:(okL qnF) x.Ap
theorem qsU {x:qv} (h:qlf x) (w:qg8 x≤1048576):qh3 x:=⟨qt8 (h) (by simp only [qg8] at w;omega)⟩
def qfN (x:qp):Prop:=rngS x.Az∧rngI x.Bp∧(rngL rngI) x.Ai
def qcG (x:qp):Nat:=x.Az.size+qcu x.Ai
structure qm7 (x:qp):Prop where
 Az:okS x.Az
 Bp:okI x.Bp
 Ai:(okL okI) x.Ai
theorem qro {x:qp} (h:qfN x) (w:qcG x≤1048576):qm7 x:=⟨(by unfold okS;simp only [qcG] at w;omega),h.2.1,qdq (h.2.2) (by simp only [qcG] at w;omega)⟩
def qdu (a:(List qp)):Nat:=a.length+(a.map fun x=>qcG x).sum
theorem qrg {a:(List qp)} (h:(rngL qfN) a) (w:qdu a≤1048576):(okL qm7) a :=
 ⟨by simp only [qdu] at w;omega,fun x hx=>qro (h.2 x hx) (by have:=qex (wt:=fun x:qp=>qcG x) hx;simp only [qdu] at w;omega)⟩
def qhb (a:(List ByteArray)):Nat:=a.length+(a.map fun x=>x.size).sum
theorem qsK {a:(List ByteArray)} (_:(rngL rngS) a) (w:qhb a≤1048576):(okL okS) a :=
 ⟨by simp only [qhb] at w;omega,fun x hx=>(by unfold okS;have:=qex (wt:=fun x:ByteArray=>x.size) hx;simp only [qhb] at w;omega)⟩
def qkZ (x:qar):Prop:=rngS x.Az∧rngI x.Bs∧rngI x.Bu
def qkP (x:qar):Nat:=x.Az.size
structure qsY (x:qar):Prop where
 Az:okS x.Az
 Bs:okI x.Bs
 Bu:okI x.Bu
theorem qvh {x:qar} (h:qkZ x) (w:qkP x≤1048576):qsY x:=⟨(by unfold okS;simp only [qkP] at w;omega),h.2.1,h.2.2⟩
def qiJ (a:(List qar)):Nat:=a.length+(a.map fun x=>qkP x).sum
theorem quk {a:(List qar)} (h:(rngL qkZ) a) (w:qiJ a≤1048576):(okL qsY) a :=
 ⟨by simp only [qiJ] at w;omega,fun x hx=>qvh (h.2 x hx) (by have:=qex (wt:=fun x:qar=>qkP x) hx;simp only [qiJ] at w;omega)⟩
def qmB (x:qf):Prop:=(rngL qfN) x.Ab∧(rngL rngS) x.Ai∧(rngL qkZ) x.Ah
def qgQ (x:qf):Nat:=qdu x.Ab+qhb x.Ai+qiJ x.Ah
structure qkq (x:qf):Prop where
 Ab:(okL qm7) x.Ab
 Ai:(okL okS) x.Ai
 Ah:(okL qsY) x.Ah
theorem qs9 {x:qf} (h:qmB x) (w:qgQ x≤1048576):qkq x:=⟨qrg (h.1) (by simp only [qgQ] at w;omega),qsK (h.2.1) (by simp only [qgQ] at w;omega),quk (h.2.2) (by simp only [qgQ] at w;omega)⟩
def qkH (x:qT):Prop:=(rngL rngI) x.Ak∧(rngL rngI) x.Bt∧(rngL rngI) x.Bq∧(rngL rngI) x.Bh
def qhy (x:qT):Nat:=qcu x.Ak+qcu x.Bt+qcu x.Bq+qcu x.Bh
structure qoP (x:qT):Prop where
 Ak:(okL okI) x.Ak
 Bt:(okL okI) x.Bt
 Bq:(okL okI) x.Bq
 Bh:(okL okI) x.Bh
theorem qvk {x:qT} (h:qkH x) (w:qhy x≤1048576):qoP x:=⟨qdq (h.1) (by simp only [qhy] at w;omega),qdq (h.2.1) (by simp only [qhy] at w;omega),qdq (h.2.2.1) (by simp only [qhy] at w;omega),qdq (h.2.2.2) (by simp only [qhy] at w;omega)⟩
def qiQ (a:(List qT)):Nat:=a.length+(a.map fun x=>qhy x).sum
theorem qt9 {a:(List qT)} (h:(rngL qkH) a) (w:qiQ a≤1048576):(okL qoP) a :=
 ⟨by simp only [qiQ] at w;omega,fun x hx=>qvk (h.2 x hx) (by have:=qex (wt:=fun x:qT=>qhy x) hx;simp only [qiQ] at w;omega)⟩
def qnD (x:qe):Prop:=qlf x.Aq∧qmB x.Aa∧(rngL qkH) x.Ac
def qiy (x:qe):Nat:=qg8 x.Aq+qgQ x.Aa+qiQ x.Ac
structure qkT (x:qe):Prop where
 Aq:qh3 x.Aq
 Aa:qkq x.Aa
 Ac:(okL qoP) x.Ac
theorem quB {x:qe} (h:qnD x) (w:qiy x≤1048576):qkT x:=⟨qsU (h.1) (by simp only [qiy] at w;omega),qs9 (h.2.1) (by simp only [qiy] at w;omega),qt9 (h.2.2) (by simp only [qiy] at w;omega)⟩
theorem qyz {a:qax} (_:qni a≤1048576):Ev (fun n=>qkM n a a) true:=by
 unfold qkM
 exact Ev.ff qkj (Ev.ff qbb (Ev.ff qbb (Ev.ff qsh (.done))))
theorem qxw {a:(List qax)} (h:qkz a≤1048576):Ev (fun n=>qlk n a a) true:=by
 have hl:a.length≤1048576:=by simp only [qkz] at h;omega
 unfold qlk
 exact Ev.ff (by simp) (Ev.bind (b:=.nxt (a.length:Int)) (qiE (eqf:=qkM) (fun x hx=>qyz (by have:=qex (wt:=fun x:qax=>qni x) hx;simp only [qkz] at h;omega))
  (fun n=>by simp only [qgL,qk (je _),cond_false])
  (fun n j x hx=>by
   have hj:=(List.getElem?_eq_some_iff.1 hx).1
   simp only [qgL,qj hj,cond_true,qaq hx,jd,wS j])) .done)
theorem qxX {a:qC} (h:qht a≤1048576):Ev (fun n=>qjC n a a) true:=by
 unfold qjC
 simp only [qht] at h
 exact Ev.ff qkj (Ev.ff qbb (Ev.bind (qxw (a:=a.Ay) (by omega)) (Ev.ff rfl (Ev.bind (qxJ (a:=a.Am) (by omega)) (Ev.ff rfl (Ev.bind (qfA (a:=a.Bn) (by omega)) (Ev.ff rfl (Ev.ff qbb (Ev.ff qbb (.done))))))))))
theorem qwK {a:(List qC)} (h:qiN a≤1048576):Ev (fun n=>qj4 n a a) true:=by
 have hl:a.length≤1048576:=by simp only [qiN] at h;omega
 unfold qj4
 exact Ev.ff (by simp) (Ev.bind (b:=.nxt (a.length:Int)) (qiE (eqf:=qjC) (fun x hx=>qxX (by have:=qex (wt:=fun x:qC=>qht x) hx;simp only [qiN] at h;omega))
  (fun n=>by simp only [qgg,qk (je _),cond_false])
  (fun n j x hx=>by
   have hj:=(List.getElem?_eq_some_iff.1 hx).1
   simp only [qgg,qj hj,cond_true,qaq hx,jd,wS j])) .done)
theorem qt2 {a:qv} (h:qg8 a≤1048576):Ev (fun n=>qiR n a a) true:=by
 unfold qiR
 simp only [qg8] at h
 exact Ev.bind (qwK (a:=a.Ap) (by omega)) (Ev.ff rfl (.done))
theorem qte {a:qp} (h:qcG a≤1048576):Ev (fun n=>qgf n a a) true:=by
 unfold qgf
 simp only [qcG] at h
 exact Ev.ff qkj (Ev.ff qbb (Ev.bind (qfA (a:=a.Ai) (by omega)) (Ev.ff rfl (.done))))
theorem qsk {a:(List qp)} (h:qdu a≤1048576):Ev (fun n=>qg4 n a a) true:=by
 have hl:a.length≤1048576:=by simp only [qdu] at h;omega
 unfold qg4
 exact Ev.ff (by simp) (Ev.bind (b:=.nxt (a.length:Int)) (qiE (eqf:=qgf) (fun x hx=>qte (by have:=qex (wt:=fun x:qp=>qcG x) hx;simp only [qdu] at h;omega))
  (fun n=>by simp only [qdT,qk (je _),cond_false])
  (fun n j x hx=>by
   have hj:=(List.getElem?_eq_some_iff.1 hx).1
   simp only [qdT,qj hj,cond_true,qaq hx,jd,wS j])) .done)
theorem qt7 {a:(List ByteArray)} (h:qhb a≤1048576):Ev (fun n=>qij n a a) true:=by
 have hl:a.length≤1048576:=by simp only [qhb] at h;omega
 unfold qij
 exact Ev.ff (by simp) (Ev.bind (b:=.nxt (a.length:Int)) (qiE (eqf:=fun _ x y=>some (!(x.toList != y.toList))) (fun x _=>Ev.now (by simp))
  (fun n=>by simp only [qeU,qk (je _),cond_false])
  (fun n j x hx=>by
   have hj:=(List.getElem?_eq_some_iff.1 hx).1
   simp only [qeU,qj hj,cond_true,qaq hx,jd,Bool.not_not,wS j])) .done)
theorem qyd {a:qar} (_:qkP a≤1048576):Ev (fun n=>qjA n a a) true:=by
 unfold qjA
 exact Ev.ff qkj (Ev.ff qbb (Ev.ff qbb (.done)))
theorem qwn {a:(List qar)} (h:qiJ a≤1048576):Ev (fun n=>qj6 n a a) true:=by
 have hl:a.length≤1048576:=by simp only [qiJ] at h;omega
 unfold qj6
 exact Ev.ff (by simp) (Ev.bind (b:=.nxt (a.length:Int)) (qiE (eqf:=qjA) (fun x hx=>qyd (by have:=qex (wt:=fun x:qar=>qkP x) hx;simp only [qiJ] at h;omega))
  (fun n=>by simp only [qf7,qk (je _),cond_false])
  (fun n j x hx=>by
   have hj:=(List.getElem?_eq_some_iff.1 hx).1
   simp only [qf7,qj hj,cond_true,qaq hx,jd,wS j])) .done)
theorem qvc {a:qf} (h:qgQ a≤1048576):Ev (fun n=>qji n a a) true:=by
 unfold qji
 simp only [qgQ] at h
 exact Ev.bind (qsk (a:=a.Ab) (by omega)) (Ev.ff rfl (Ev.bind (qt7 (a:=a.Ai) (by omega)) (Ev.ff rfl (Ev.bind (qwn (a:=a.Ah) (by omega)) (Ev.ff rfl (.done))))))
theorem qx3 {a:qT} (h:qhy a≤1048576):Ev (fun n=>qju n a a) true:=by
 unfold qju
 simp only [qhy] at h
 exact Ev.bind (qfA (a:=a.Ak) (by omega)) (Ev.ff rfl (Ev.bind (qfA (a:=a.Bt) (by omega)) (Ev.ff rfl (Ev.bind (qfA (a:=a.Bq) (by omega)) (Ev.ff rfl (Ev.bind (qfA (a:=a.Bh) (by omega)) (Ev.ff rfl (.done))))))))
theorem qw5 {a:(List qT)} (h:qiQ a≤1048576):Ev (fun n=>qj8 n a a) true:=by
 have hl:a.length≤1048576:=by simp only [qiQ] at h;omega
 unfold qj8
 exact Ev.ff (by simp) (Ev.bind (b:=.nxt (a.length:Int)) (qiE (eqf:=qju) (fun x hx=>qx3 (by have:=qex (wt:=fun x:qT=>qhy x) hx;simp only [qiQ] at h;omega))
  (fun n=>by simp only [qf0,qk (je _),cond_false])
  (fun n j x hx=>by
   have hj:=(List.getElem?_eq_some_iff.1 hx).1
   simp only [qf0,qj hj,cond_true,qaq hx,jd,wS j])) .done)
theorem qwf {a:qe} (h:qiy a≤1048576):Ev (fun n=>qj9 n a a) true:=by
 unfold qj9
 simp only [qiy] at h
 exact Ev.bind (qt2 (a:=a.Aq) (by omega)) (Ev.ff rfl (Ev.bind (qvc (a:=a.Aa) (by omega)) (Ev.ff rfl (Ev.bind (qw5 (a:=a.Ac) (by omega)) (Ev.ff rfl (.done))))))
theorem qhl {a:(List Int)} {left:Int} (h:(rngL rngI) a) (h0:0≤left) (h1:left≤1048576):Sz (fun n=>qce n a left) (fun r=>r=left-(qcu a:Int)) :=
 Sz.less h0 h1 (by omega) (by have:=h.1;omega) (fun _=>rfl)
theorem qwD {a:qw} {left:Int} (h:qia a) (h0:0≤left) (h1:left≤1048576):Sz (fun n=>qiC n a left) (fun r=>r=left-(qfU a:Int)):=by
 unfold qiC
 obtain ⟨h_0,h_1,h_2⟩:=h
 exact Sz.step (qhl (a:=a.Bi) h_0 (by omega) (by omega)) fun r0 p0 q0=>Sz.step (qhl (a:=a.Bc) h_1 (by omega) (by omega)) fun r1 p1 q1=>Sz.step (qhl (a:=a.Ba) h_2 (by omega) (by omega)) fun r2 p2 q2=>Sz.done p2 (by simp only [qfU];omega)
theorem qrZ {a:(List qw)} {left:Int} (h:(rngL qia) a) (h0:0≤left) (h1:left≤1048576):Sz (fun n=>qjo n a left) (fun r=>r=left-(qgc a:Int)) :=
 Sz.list (Lf:=qd7 a) (wt:=fun x:qw=>qfU x) (el:=qiC) h0 h1 h.1 (fun x hx left p q=>qwD (h.2 x hx) p q)
  (fun acc n=>by simp only [qd7,qk (je _),cond_false])
  (fun acc n j x hx=>by
   have hj:=(List.getElem?_eq_some_iff.1 hx).1
   have hl:=h.1
   simp only [qd7,qj hj,cond_true,qaq hx,jd,wS j])
  (fun _=>rfl)
theorem qyZ {a:qS} {left:Int} (h:qmn a) (h0:0≤left) (h1:left≤1048576):Sz (fun n=>qkX n a left) (fun r=>r=left-(qlp a:Int)):=by
 unfold qkX
 obtain ⟨h_0,h_1,h_2,h_3,h_4,h_5⟩:=h
 exact Sz.step (qrZ (a:=a.Bl) h_4 (by omega) (by omega)) fun r0 p0 q0=>Sz.step (qrZ (a:=a.Av) h_5 (by omega) (by omega)) fun r1 p1 q1=>Sz.done p1 (by simp only [qlp];omega)
theorem qyi {a:(List qS)} {left:Int} (h:(rngL qmn) a) (h0:0≤left) (h1:left≤1048576):Sz (fun n=>qnx n a left) (fun r=>r=left-(qkE a:Int)) :=
 Sz.list (Lf:=qfz a) (wt:=fun x:qS=>qlp x) (el:=qkX) h0 h1 h.1 (fun x hx left p q=>qyZ (h.2 x hx) p q)
  (fun acc n=>by simp only [qfz,qk (je _),cond_false])
  (fun acc n j x hx=>by
   have hj:=(List.getElem?_eq_some_iff.1 hx).1
   have hl:=h.1
   simp only [qfz,qj hj,cond_true,qaq hx,jd,wS j])
  (fun _=>rfl)
theorem qyI {a:qax} {left:Int} (h:qmC a) (h0:0≤left) (h1:left≤1048576):Sz (fun n=>qkA n a left) (fun r=>r=left-(qni a:Int)):=by
 unfold qkA
 obtain ⟨h_0,h_1,h_2,h_3⟩:=h
 exact Sz.strStep h_0 (by omega) (by omega) fun p0 q0=>Sz.done p0 (by simp only [qni];omega)
theorem qxI {a:(List qax)} {left:Int} (h:(rngL qmC) a) (h0:0≤left) (h1:left≤1048576):Sz (fun n=>qnw n a left) (fun r=>r=left-(qkz a:Int)) :=
 Sz.list (Lf:=qfj a) (wt:=fun x:qax=>qni x) (el:=qkA) h0 h1 h.1 (fun x hx left p q=>qyI (h.2 x hx) p q)
  (fun acc n=>by simp only [qfj,qk (je _),cond_false])
  (fun acc n j x hx=>by
   have hj:=(List.getElem?_eq_some_iff.1 hx).1
   have hl:=h.1
   simp only [qfj,qj hj,cond_true,qaq hx,jd,wS j])
  (fun _=>rfl)
theorem qxU {a:qC} {left:Int} (h:qkQ a) (h0:0≤left) (h1:left≤1048576):Sz (fun n=>qjK n a left) (fun r=>r=left-(qht a:Int)):=by
 unfold qjK
 obtain ⟨h_0,h_1,h_2,h_3,h_4,h_5,h_6⟩:=h
 exact Sz.strStep h_0 (by omega) (by omega) fun p0 q0=>Sz.step (qxI (a:=a.Ay) h_2 (by omega) (by omega)) fun r1 p1 q1=>Sz.step (qyi (a:=a.Am) h_3 (by omega) (by omega)) fun r2 p2 q2=>Sz.step (qhl (a:=a.Bn) h_4 (by omega) (by omega)) fun r3 p3 q3=>Sz.done p3 (by simp only [qht];omega)
theorem qwH {a:(List qC)} {left:Int} (h:(rngL qkQ) a) (h0:0≤left) (h1:left≤1048576):Sz (fun n=>qma n a left) (fun r=>r=left-(qiN a:Int)) :=
 Sz.list (Lf:=qeC a) (wt:=fun x:qC=>qht x) (el:=qjK) h0 h1 h.1 (fun x hx left p q=>qxU (h.2 x hx) p q)
  (fun acc n=>by simp only [qeC,qk (je _),cond_false])
  (fun acc n j x hx=>by
   have hj:=(List.getElem?_eq_some_iff.1 hx).1
   have hl:=h.1
   simp only [qeC,qj hj,cond_true,qaq hx,jd,wS j])
  (fun _=>rfl)
theorem quM {a:qv} {left:Int} (h:qlf a) (h0:0≤left) (h1:left≤1048576):Sz (fun n=>qiI n a left) (fun r=>r=left-(qg8 a:Int)):=by
 unfold qiI
 have h_0:=h
 exact Sz.step (qwH (a:=a.Ap) h_0 (by omega) (by omega)) fun r0 p0 q0=>Sz.done p0 (by simp only [qg8];omega)
theorem qtP {a:qp} {left:Int} (h:qfN a) (h0:0≤left) (h1:left≤1048576):Sz (fun n=>qf5 n a left) (fun r=>r=left-(qcG a:Int)):=by
 unfold qf5
 obtain ⟨h_0,h_1,h_2⟩:=h
 exact Sz.strStep h_0 (by omega) (by omega) fun p0 q0=>Sz.step (qhl (a:=a.Ai) h_2 (by omega) (by omega)) fun r1 p1 q1=>Sz.done p1 (by simp only [qcG];omega)
theorem qsG {a:(List qp)} {left:Int} (h:(rngL qfN) a) (h0:0≤left) (h1:left≤1048576):Sz (fun n=>qi2 n a left) (fun r=>r=left-(qdu a:Int)) :=
 Sz.list (Lf:=qcN a) (wt:=fun x:qp=>qcG x) (el:=qf5) h0 h1 h.1 (fun x hx left p q=>qtP (h.2 x hx) p q)
  (fun acc n=>by simp only [qcN,qk (je _),cond_false])
  (fun acc n j x hx=>by
   have hj:=(List.getElem?_eq_some_iff.1 hx).1
   have hl:=h.1
   simp only [qcN,qj hj,cond_true,qaq hx,jd,wS j])
  (fun _=>rfl)
theorem quf {a:(List ByteArray)} {left:Int} (h:(rngL rngS) a) (h0:0≤left) (h1:left≤1048576):Sz (fun n=>qkF n a left) (fun r=>r=left-(qhb a:Int)) :=
 Sz.list (Lf:=qdx a) (wt:=fun x:ByteArray=>x.size) (el:=fun _ (x:ByteArray) acc=>some (W64 (acc-(x.size:Int)))) h0 h1 h.1 (fun x hx left p q=>Sz.str (h.2 x hx) p q)
  (fun acc n=>by simp only [qdx,qk (je _),cond_false])
  (fun acc n j x hx=>by
   have hj:=(List.getElem?_eq_some_iff.1 hx).1
   have hl:=h.1
   simp only [qdx,qj hj,cond_true,qaq hx,jd,wS j])
  (fun _=>rfl)
theorem qxS {a:qar} {left:Int} (h:qkZ a) (h0:0≤left) (h1:left≤1048576):Sz (fun n=>qjE n a left) (fun r=>r=left-(qkP a:Int)):=by
 unfold qjE
 obtain ⟨h_0,h_1,h_2⟩:=h
 exact Sz.strStep h_0 (by omega) (by omega) fun p0 q0=>Sz.done p0 (by simp only [qkP];omega)
theorem qxk {a:(List qar)} {left:Int} (h:(rngL qkZ) a) (h0:0≤left) (h1:left≤1048576):Sz (fun n=>qmi n a left) (fun r=>r=left-(qiJ a:Int)) :=
 Sz.list (Lf:=qeH a) (wt:=fun x:qar=>qkP x) (el:=qjE) h0 h1 h.1 (fun x hx left p q=>qxS (h.2 x hx) p q)
  (fun acc n=>by simp only [qeH,qk (je _),cond_false])
  (fun acc n j x hx=>by
   have hj:=(List.getElem?_eq_some_iff.1 hx).1
   have hl:=h.1
   simp only [qeH,qj hj,cond_true,qaq hx,jd,wS j])
  (fun _=>rfl)
theorem qu9 {a:qf} {left:Int} (h:qmB a) (h0:0≤left) (h1:left≤1048576):Sz (fun n=>qjk n a left) (fun r=>r=left-(qgQ a:Int)):=by
 unfold qjk
 obtain ⟨h_0,h_1,h_2⟩:=h
 exact Sz.step (qsG (a:=a.Ab) h_0 (by omega) (by omega)) fun r0 p0 q0=>Sz.step (quf (a:=a.Ai) h_1 (by omega) (by omega)) fun r1 p1 q1=>Sz.step (qxk (a:=a.Ah) h_2 (by omega) (by omega)) fun r2 p2 q2=>Sz.done p2 (by simp only [qgQ];omega)
theorem qxT {a:qT} {left:Int} (h:qkH a) (h0:0≤left) (h1:left≤1048576):Sz (fun n=>qjM n a left) (fun r=>r=left-(qhy a:Int)):=by
 unfold qjM
 obtain ⟨h_0,h_1,h_2,h_3⟩:=h
 exact Sz.step (qhl (a:=a.Ak) h_0 (by omega) (by omega)) fun r0 p0 q0=>Sz.step (qhl (a:=a.Bt) h_1 (by omega) (by omega)) fun r1 p1 q1=>Sz.step (qhl (a:=a.Bq) h_2 (by omega) (by omega)) fun r2 p2 q2=>Sz.step (qhl (a:=a.Bh) h_3 (by omega) (by omega)) fun r3 p3 q3=>Sz.done p3 (by simp only [qhy];omega)
theorem qxc {a:(List qT)} {left:Int} (h:(rngL qkH) a) (h0:0≤left) (h1:left≤1048576):Sz (fun n=>qmz n a left) (fun r=>r=left-(qiQ a:Int)) :=
 Sz.list (Lf:=qeG a) (wt:=fun x:qT=>qhy x) (el:=qjM) h0 h1 h.1 (fun x hx left p q=>qxT (h.2 x hx) p q)
  (fun acc n=>by simp only [qeG,qk (je _),cond_false])
  (fun acc n j x hx=>by
   have hj:=(List.getElem?_eq_some_iff.1 hx).1
   have hl:=h.1
   simp only [qeG,qj hj,cond_true,qaq hx,jd,wS j])
  (fun _=>rfl)
theorem qwy {a:qe} {left:Int} (h:qnD a) (h0:0≤left) (h1:left≤1048576):Sz (fun n=>qkb n a left) (fun r=>r=left-(qiy a:Int)):=by
 unfold qkb
 obtain ⟨h_0,h_1,h_2⟩:=h
 exact Sz.step (quM (a:=a.Aq) h_0 (by omega) (by omega)) fun r0 p0 q0=>Sz.step (qu9 (a:=a.Aa) h_1 (by omega) (by omega)) fun r1 p1 q1=>Sz.step (qxc (a:=a.Ac) h_2 (by omega) (by omega)) fun r2 p2 q2=>Sz.done p2 (by simp only [qiy];omega)
theorem qc8 {a:(List Int)} (h:qcu a≤1048576):Ev (fun n=>qaG n a) a:=by
 have hl:a.length≤1048576:=by simp only [qcu] at h;omega
 unfold qaG
 exact Ev.bindN (qhR (by omega)) (Ev.bind (b:=(a,(a.length:Int))) (qii (cp:=fun _ x=>some x) (fun _ _=>.done)
  (fun acc n=>by simp only [qfk,qk (je _),cond_false])
  (fun acc n j x y hx hy=>by
   have hj:=(List.getElem?_eq_some_iff.1 hx).1
   simp only [qfk,qj hj,cond_true,qaq hx,qaq hy,jd,wS j])) .done)
theorem qwX {a:qw} (h:qfU a≤1048576):Ev (fun n=>qil n a) a:=by
 unfold qil
 simp only [qfU] at h
 exact Ev.bind (qc8 (a:=a.Bi) (by omega)) (Ev.bind (qc8 (a:=a.Bc) (by omega)) (Ev.bind (qc8 (a:=a.Ba) (by omega)) (.done)))
theorem qr3 {a:(List qw)} (h:qgc a≤1048576):Ev (fun n=>qhP n a) a:=by
 have hl:a.length≤1048576:=by simp only [qgc] at h;omega
 unfold qhP
 exact Ev.bindN (qhR (by omega)) (Ev.bind (b:=(a,(a.length:Int))) (qii (cp:=qil) (fun x hx=>qwX (by have:=qex (wt:=fun x:qw=>qfU x) hx;simp only [qgc] at h;omega))
  (fun acc n=>by simp only [qfn,qk (je _),cond_false])
  (fun acc n j x y hx hy=>by
   have hj:=(List.getElem?_eq_some_iff.1 hx).1
   simp only [qfn,qj hj,cond_true,qaq hx,qaq hy,jd,wS j])) .done)
theorem qyS {a:qS} (h:qlp a≤1048576):Ev (fun n=>qkR n a) a:=by
 unfold qkR
 simp only [qlp] at h
 exact Ev.bind (qr3 (a:=a.Bl) (by omega)) (Ev.bind (qr3 (a:=a.Av) (by omega)) (.done))
theorem qxL {a:(List qS)} (h:qkE a≤1048576):Ev (fun n=>qlm n a) a:=by
 have hl:a.length≤1048576:=by simp only [qkE] at h;omega
 unfold qlm
 exact Ev.bindN (qhR (by omega)) (Ev.bind (b:=(a,(a.length:Int))) (qii (cp:=qkR) (fun x hx=>qyS (by have:=qex (wt:=fun x:qS=>qlp x) hx;simp only [qkE] at h;omega))
  (fun acc n=>by simp only [qgR,qk (je _),cond_false])
  (fun acc n j x y hx hy=>by
   have hj:=(List.getElem?_eq_some_iff.1 hx).1
   simp only [qgR,qj hj,cond_true,qaq hx,qaq hy,jd,wS j])) .done)
theorem qyV {a:qax} (_:qni a≤1048576):Ev (fun n=>qkI n a) a:=by
 unfold qkI
 exact .done
theorem qyb {a:(List qax)} (h:qkz a≤1048576):Ev (fun n=>qk5 n a) a:=by
 have hl:a.length≤1048576:=by simp only [qkz] at h;omega
 unfold qk5
 exact Ev.bindN (qhR (by omega)) (Ev.bind (b:=(a,(a.length:Int))) (qii (cp:=qkI) (fun x hx=>qyV (by have:=qex (wt:=fun x:qax=>qni x) hx;simp only [qkz] at h;omega))
  (fun acc n=>by simp only [qgE,qk (je _),cond_false])
  (fun acc n j x y hx hy=>by
   have hj:=(List.getElem?_eq_some_iff.1 hx).1
   simp only [qgE,qj hj,cond_true,qaq hx,qaq hy,jd,wS j])) .done)
theorem qxN {a:qC} (h:qht a≤1048576):Ev (fun n=>qjF n a) a:=by
 unfold qjF
 simp only [qht] at h
 exact Ev.bind (qyb (a:=a.Ay) (by omega)) (Ev.bind (qxL (a:=a.Am) (by omega)) (Ev.bind (qc8 (a:=a.Bn) (by omega)) (.done)))
theorem qw4 {a:(List qC)} (h:qiN a≤1048576):Ev (fun n=>qki n a) a:=by
 have hl:a.length≤1048576:=by simp only [qiN] at h;omega
 unfold qki
 exact Ev.bindN (qhR (by omega)) (Ev.bind (b:=(a,(a.length:Int))) (qii (cp:=qjF) (fun x hx=>qxN (by have:=qex (wt:=fun x:qC=>qht x) hx;simp only [qiN] at h;omega))
  (fun acc n=>by simp only [qf8,qk (je _),cond_false])
  (fun acc n j x y hx hy=>by
   have hj:=(List.getElem?_eq_some_iff.1 hx).1
   simp only [qf8,qj hj,cond_true,qaq hx,qaq hy,jd,wS j])) .done)
theorem quy {a:qv} (h:qg8 a≤1048576):Ev (fun n=>qiM n a) a:=by
 unfold qiM
 simp only [qg8] at h
 exact Ev.bind (qw4 (a:=a.Ap) (by omega)) (.done)
theorem qtj {a:qp} (h:qcG a≤1048576):Ev (fun n=>qf4 n a) a:=by
 unfold qf4
 simp only [qcG] at h
 exact Ev.bind (qc8 (a:=a.Ai) (by omega)) (.done)
theorem qsV {a:(List qp)} (h:qdu a≤1048576):Ev (fun n=>qhi n a) a:=by
 have hl:a.length≤1048576:=by simp only [qdu] at h;omega
 unfold qhi
 exact Ev.bindN (qhR (by omega)) (Ev.bind (b:=(a,(a.length:Int))) (qii (cp:=qf4) (fun x hx=>qtj (by have:=qex (wt:=fun x:qp=>qcG x) hx;simp only [qdu] at h;omega))
  (fun acc n=>by simp only [qdR,qk (je _),cond_false])
  (fun acc n j x y hx hy=>by
   have hj:=(List.getElem?_eq_some_iff.1 hx).1
   simp only [qdR,qj hj,cond_true,qaq hx,qaq hy,jd,wS j])) .done)
theorem qt6 {a:(List ByteArray)} (h:qhb a≤1048576):Ev (fun n=>qih n a) a:=by
 have hl:a.length≤1048576:=by simp only [qhb] at h;omega
 unfold qih
 exact Ev.bindN (qhR (by omega)) (Ev.bind (b:=(a,(a.length:Int))) (qii (cp:=fun _ x=>some x) (fun _ _=>.done)
  (fun acc n=>by simp only [qeR,qk (je _),cond_false])
  (fun acc n j x y hx hy=>by
   have hj:=(List.getElem?_eq_some_iff.1 hx).1
   simp only [qeR,qj hj,cond_true,qaq hx,qaq hy,jd,wS j])) .done)
theorem qxC {a:qar} (_:qkP a≤1048576):Ev (fun n=>qjL n a) a:=by
 unfold qjL
 exact .done
theorem qwa {a:(List qar)} (h:qiJ a≤1048576):Ev (fun n=>qkc n a) a:=by
 have hl:a.length≤1048576:=by simp only [qiJ] at h;omega
 unfold qkc
 exact Ev.bindN (qhR (by omega)) (Ev.bind (b:=(a,(a.length:Int))) (qii (cp:=qjL) (fun x hx=>qxC (by have:=qex (wt:=fun x:qar=>qkP x) hx;simp only [qiJ] at h;omega))
  (fun acc n=>by simp only [qge,qk (je _),cond_false])
  (fun acc n j x y hx hy=>by
   have hj:=(List.getElem?_eq_some_iff.1 hx).1
   simp only [qge,qj hj,cond_true,qaq hx,qaq hy,jd,wS j])) .done)
theorem qvP {a:qf} (h:qgQ a≤1048576):Ev (fun n=>qjd n a) a:=by
 unfold qjd
 simp only [qgQ] at h
 exact Ev.bind (qsV (a:=a.Ab) (by omega)) (Ev.bind (qt6 (a:=a.Ai) (by omega)) (Ev.bind (qwa (a:=a.Ah) (by omega)) (.done)))
theorem qya {a:qT} (h:qhy a≤1048576):Ev (fun n=>qjO n a) a:=by
 unfold qjO
 simp only [qhy] at h
 exact Ev.bind (qc8 (a:=a.Ak) (by omega)) (Ev.bind (qc8 (a:=a.Bt) (by omega)) (Ev.bind (qc8 (a:=a.Bq) (by omega)) (Ev.bind (qc8 (a:=a.Bh) (by omega)) (.done))))
theorem qw2 {a:(List qT)} (h:qiQ a≤1048576):Ev (fun n=>qka n a) a:=by
 have hl:a.length≤1048576:=by simp only [qiQ] at h;omega
 unfold qka
 exact Ev.bindN (qhR (by omega)) (Ev.bind (b:=(a,(a.length:Int))) (qii (cp:=qjO) (fun x hx=>qya (by have:=qex (wt:=fun x:qT=>qhy x) hx;simp only [qiQ] at h;omega))
  (fun acc n=>by simp only [qf1,qk (je _),cond_false])
  (fun acc n j x y hx hy=>by
   have hj:=(List.getElem?_eq_some_iff.1 hx).1
   simp only [qf1,qj hj,cond_true,qaq hx,qaq hy,jd,wS j])) .done)
theorem qqC {a:qe} (h:qiy a≤1048576):Ev (fun n=>qhc n a) a:=by
 unfold qhc
 simp only [qiy] at h
 exact Ev.bind (quy (a:=a.Aq) (by omega)) (Ev.bind (qvP (a:=a.Aa) (by omega)) (Ev.bind (qw2 (a:=a.Ac) (by omega)) (.done)))
end Go.Fw


namespace Go.Fw
open Go
set_option maxRecDepth 100000
theorem qcF {n:Nat} {x lo hi:Int}:qao n x lo hi=some (inI x lo hi):=by
 simp only [qao,qnv,qoF];rfl
theorem qde {n:Nat} {x lo hi:Int}:qaK n x lo hi=some (inI x lo hi):=by
 simp only [qaK,qnv,qoF];rfl
def bt (s:ByteArray) (j:Nat):Nat:=(s.data.toList.getD j 0).toNat
theorem qw0 {s:ByteArray} {j:Nat} (h:j<s.size):atS s (j:Int)=some (bt s j:Int):=by
 have h':j<s.data.size:=h
 have hl:j<s.data.toList.length:=by simpa using h'
 unfold atS
 rw [if_pos (by omega),jn]
 have:s[j]?=some (s.data.toList.getD j 0):=by
  rw [getElem?_pos s j h,jB,ji hl]
  rfl
 rw [this]
 rfl
def letB (b:Nat):Bool:=decide (97≤b)&&decide (b≤122)
def digB (b:Nat):Bool:=decide (48≤b)&&decide (b≤57)
def chB (s:ByteArray) (j:Nat):Bool:=letB (bt s j) || digB (bt s j)&&decide (0<j)
def nameB (s:ByteArray):Bool:=(decide (1≤s.size)&&decide (s.size≤8))&&allN (chB s) s.size
theorem qmd {s:ByteArray} (h:okS s):Ev (fun n=>qfO n s) (nameB s):=by
 unfold okS at h
 have hL:Ev (fun n=>qdQ s n 0) (bif allN (chB s) s.size then .nxt (s.size:Int) else .ret false):=by
  refine qdL ?_ (fun j hj X hX=>?_)
  ·exact Ev.succ (by simp only [qdQ,qk (je _),cond_false];exact .done)
  ·refine Ev.succ ?_
   simp only [qdQ,qj hj,cond_true,qw0 hj,jd,qnv,qoF,wS j]
   have e1:(decide ((bt s j:Int) ≥ 97)&&decide ((bt s j:Int)≤122))=letB (bt s j):=by unfold letB;rw [jj];simp;omega
   have e2:(decide ((bt s j:Int) ≥ 48)&&decide ((bt s j:Int)≤57))=digB (bt s j):=by unfold digB;rw [jj];simp;omega
   have e3:decide ((j:Int) > 0)=decide (0<j):=by rw [jj];simp
   rw [e1,e2,e3]
   unfold chB
   cases letB (bt s j)<;>cases digB (bt s j)<;>cases decide (0<j)<;>first|exact hX|exact .done
 unfold qfO
 refine Ev.cast (r:=bif allN (chB s) s.size then (decide (1≤s.size)&&decide (s.size≤8)) else false) (Ev.bindB hL (fun _=>?_) (fun _=>.done)) ?_
 ·simp only [qnv,qoF]
  exact Ev.now (by congr 1;rw [jj];simp;omega)
 ·unfold nameB
  cases allN (chB s) s.size<;>simp
def cutset:List UInt8:=[97,98,99,100,101,102,103,104,105,106,107,108,109,110,111,112,113,114,115,116,117,118,119,120,121,122,48,49,50,51,52,53,54,55,56,57]
theorem qri (b:UInt8):cutset.contains b=(letB b.toNat || digB b.toNat):=by
 have h0:(List.range 256).all (fun m=>cutset.contains (UInt8.ofNat m)==(letB (UInt8.ofNat m).toNat || digB (UInt8.ofNat m).toNat))=true:=by kernel_rfl
 have h:=List.all_eq_true.1 h0 b.toNat (List.mem_range.2 b.toNat_lt)
 rw [beq_iff_eq] at h
 simpa using h
def letters:List UInt8:=[97,98,99,100,101,102,103,104,105,106,107,108,109,110,111,112,113,114,115,116,117,118,119,120,121,122]
theorem quh (m:Nat) (hm:m<256):decide ((Lib.indexByte letters m.toUInt8) ≥ 0)=letB m:=by
 have h0:(List.range 256).all (fun m=>decide ((Lib.indexByte letters m.toUInt8) ≥ 0)==letB m)=true:=by kernel_rfl
 have h:=List.all_eq_true.1 h0 m (List.mem_range.2 hm)
 rwa [beq_iff_eq] at h
theorem qrs {α:Type} {p:α→Bool} {l:List α}:l.dropWhile p=[]↔∀ x,x ∈ l→p x=true:=by
 induction l with
 | nil=>simp
 | cons y l ih =>
  rw [List.dropWhile_cons]
  by_cases h:p y=true
  ·rw [if_pos h,ih];simp [h]
  ·rw [if_neg h];simp [h]
theorem qrB {α:Type} {p:α→Bool} {l:List α} (h:∀ x,x ∈ l.dropWhile p→p x=true):∀ x,x ∈ l→p x=true:=by
 induction l with
 | nil=>simp
 | cons y l ih =>
  rw [List.dropWhile_cons] at h
  by_cases hy:p y=true
  ·rw [if_pos hy] at h
   intro x hx
   rcases List.mem_cons.1 hx with rfl|hx
   ·exact hy
   ·exact ih h x hx
  ·rw [if_neg hy] at h
   exact h
theorem qwY {l cs:List UInt8}:Lib.trimS l cs=[]↔∀ x,x ∈ l→cs.contains x=true:=by
 unfold Lib.trimS Lib.trimRightS Lib.trimLeftS
 rw [qrs]
 constructor
 ·intro h x hx
  exact qrB (p:=(cs.contains ·)) (l:=l.reverse) (fun y hy=>h y (List.mem_reverse.2 hy)) x (List.mem_reverse.2 hx)
 ·intro h x hx
  exact h x (List.mem_reverse.1 ((List.dropWhile_suffix _).subset (List.mem_reverse.1 hx)))
theorem qhF {a b:ByteArray}:(a.toList==b.toList)=decide (a=b):=by
 rw [jj,beq_iff_eq,decide_eq_true_iff]
 constructor
 ·intro h
  exact ByteArray.ext (by have:=congrArg List.toArray h;simpa [ByteArray.toList_eq] using this)
 ·rintro rfl;rfl
end Go.Fw


namespace Go.Fw
open Go
set_option maxRecDepth 100000
theorem qyr {s:ByteArray} {j:Nat} (h:j<s.data.toList.length):bt s j=(s.data.toList[j]).toNat:=by
 unfold bt;rw [jB,ji h];rfl
theorem qzj {s:ByteArray} {j:Nat}:bt s j<256:=UInt8.toNat_lt _
theorem qpA {n:Nat} {s:ByteArray} (h:okS s):qh9 n s=some (nameB s):=by
 unfold okS at h
 have hl:s.data.toList.length=s.size:=by simp
 simp only [qh9,qde,jd]
 cases hI:inI (s.size:Int) 1 8 with
 | false =>
  have hs:(decide (1≤s.size)&&decide (s.size≤8))=false:=by rw [qvK] at hI;rw [Bool.and_eq_false_iff,decide_eq_false_iff_not,decide_eq_false_iff_not];omega
  simp [nameB,hs]
 | true =>
  have hs:1≤s.size∧s.size≤8:=by rw [qaX] at hI;omega
  have hT:qip n s (⟨#[97,98,99,100,101,102,103,104,105,106,107,108,109,110,111,112,113,114,115,116,117,118,119,120,121,122,48,49,50,51,52,53,54,55,56,57]⟩:ByteArray)=some ⟨(Lib.trimS s.data.toList cutset).toArray⟩:=by
   unfold qip
   rw [if_pos ⟨by omega,by decide,by decide⟩]
   rfl
  rw [hT]
  simp only [cond_true,jd]
  have hE:(((⟨(Lib.trimS s.data.toList cutset).toArray⟩:ByteArray).toList==(⟨#[]⟩:ByteArray).toList))=allN (fun j=>letB (bt s j) || digB (bt s j)) s.size:=by
   rw [qhF,jj,decide_eq_true_iff,qap]
   have:((⟨(Lib.trimS s.data.toList cutset).toArray⟩:ByteArray)=⟨#[]⟩)↔Lib.trimS s.data.toList cutset=[]:=by
    constructor
    ·intro he
     have:=congrArg (fun x:ByteArray=>x.data.toList) he
     simpa using this
    ·intro he;rw [he]
   rw [this,qwY]
   constructor
   ·intro hx j hj
    have hj':j<s.data.toList.length:=by omega
    have:=hx _ (jp hj')
    rw [qri,←qyr hj'] at this
    exact this
   ·intro hx x hm
    obtain ⟨j,hj,rfl⟩:=jR hm
    have:=hx j (by omega)
    rw [qri,←qyr hj]
    exact this
  rw [hE]
  have h0:atS s 0=some (bt s 0:Int):=qw0 (j:=0) (by omega)
  have hI2:decide (Lib.indexByte letters (bt s 0:Int).toNat.toUInt8 ≥ 0)=letB (bt s 0):=by
   rw [jn];exact quh _ qzj
  have hF:∀ b:Bool,(bif b then (atS s 0).bind fun y1=>(qgz n (⟨#[97,98,99,100,101,102,103,104,105,106,107,108,109,110,111,112,113,114,115,116,117,118,119,120,121,122]⟩:ByteArray) (⟨y1⟩:IntK .u8)).bind fun r3=>some (decide (r3 ≥ 0)) else some false)=some (b&&letB (bt s 0)):=by
   intro b
   cases b with
   | false=>rfl
   | true =>
    rw [h0]
    simp only [cond_true,jd,qgz,jx]
    exact congrArg some hI2
  rw [hF]
  congr 1
  have hs':(decide (1≤s.size)&&decide (s.size≤8))=true:=by simp [hs]
  unfold nameB
  rw [hs',jx,jj,jf,qap,qap]
  simp only [chB,Bool.or_eq_true,jf,decide_eq_true_eq]
  constructor
  ·rintro ⟨h1,h2⟩ j hj
   rcases Nat.eq_zero_or_pos j with rfl|hp
   ·exact .inl h2
   ·exact (h1 j hj).imp id (fun h=>⟨h,hp⟩)
  ·intro h1
   refine ⟨fun j hj=>(h1 j hj).imp id (fun h=>h.1),?_⟩
   rcases h1 0 (by omega) with h2|h2
   ·exact h2
   ·omega
def strAt (xs:List ByteArray) (j:Nat):ByteArray:=xs.getD j ByteArray.empty
theorem qoo {xs:List ByteArray} {j:Nat} (h:j<xs.length):strAt xs j=xs[j]:=by simp [strAt,h]
theorem qqm {xs:List ByteArray} {j:Nat} (h:j<xs.length):idx xs (j:Int)=some (strAt xs j):=by rw [qik h,qoo h]
def neB (xs:List ByteArray) (j i:Nat):Bool:=!decide (strAt xs i=strAt xs j)
def namesB (xs:List ByteArray):Bool:=allN (fun j=>nameB (strAt xs j)&&allN (neB xs j) j) xs.length
theorem qnr {xs:List ByteArray} (h:okL okS xs):Ev (fun n=>qgm n xs) (namesB xs):=by
 have hl:=h.len
 have hL2:∀ j,j<xs.length→Ev (fun n=>qed xs (j:Int) n 0) (bif allN (neB xs j) j then .nxt (j:Int) else .ret false):=by
  intro j hj
  refine qdL ?_ (fun i hi X hX=>Ev.succ ?_)
  ·exact Ev.succ (by simp only [qed,qk (je _),cond_false];exact .done)
  ·simp only [qed,qj hi,cond_true,qqm (show i<xs.length by omega),qqm hj,jd,qhF,wS i]
   unfold neB
   cases decide (strAt xs i=strAt xs j)
   ·exact hX
   ·exact .done
 have hL1:Ev (fun n=>qd5 xs n 0) (bif namesB xs then .nxt (xs.length:Int) else .ret false):=by
  refine qdL ?_ (fun j hj X hX=>Ev.succ ?_)
  ·exact Ev.succ (by simp only [qd5,qk (je _),cond_false];exact .done)
  ·simp only [qd5,qj hj,cond_true,qqm hj,jd,wS j]
   refine Ev.bind (qmd (by rw [qoo hj];exact h.at hj)) ?_
   cases nameB (strAt xs j)
   ·exact .done
   ·refine Ev.ff rfl (Ev.bind (hL2 j hj) ?_)
    cases allN (neB xs j) j
    ·exact .done
    ·exact hX
 unfold qgm
 refine Ev.bind hL1 ?_
 cases namesB xs<;>exact .done
theorem qtD {xs:List ByteArray} {v:ByteArray} (hl:xs.length≤1048576):Ev (fun n=>qfg n xs v) (ixL (fun x=>decide (v=x)) xs) :=
 qeo (fin:=(xs.length:Int)) (Lf:=qbY xs v) (pf:=fun _ x=>some (decide (v=x))) (fun _ _=>.done)
  (fun n=>by simp only [qbY,qk (je _),cond_false])
  (fun n j x hx=>by
   have hj:=(List.getElem?_eq_some_iff.1 hx).1
   simp only [qbY,qj hj,cond_true,qaq hx,jd,qhF,wS j])
  (fun n=>by unfold qfg;congr 1;funext o;cases o<;>rfl)
theorem qrb {xs:List ByteArray} {v:ByteArray} (hl:xs.length≤1048576):Ev (fun n=>qdW n xs v) (xs.any fun x=>decide (v=x)):=by
 unfold qdW
 exact Ev.bind (qtD hl) (Ev.now (by rw [qmw]))
theorem qjt {xs:List ByteArray} (h:okL okS xs):Ev (fun n=>qd3 n xs) (namesB xs):=by
 have hl:=h.len
 have hL1:Ev (fun n=>qeg xs n 0) (bif namesB xs then .nxt (xs.length:Int) else .ret false):=by
  refine qdL ?_ (fun j hj X hX=>Ev.succ ?_)
  ·exact Ev.succ (by simp only [qeg,qk (je _),cond_false];exact .done)
  ·have hs:subS xs 0 (j:Int)=some (xs.take j):=by
    unfold subS
    rw [if_pos ⟨by omega,by omega,by omega⟩]
    simp
   simp only [qeg,qj hj,cond_true,qqm hj,jd,hs,qpA (show okS (strAt xs j) by rw [qoo hj];exact h.at hj),wS j]
   cases nameB (strAt xs j)
   ·exact .done
   ·refine Ev.ff rfl (Ev.bind (qrb (by simp;omega)) ?_)
    have:((xs.take j).any fun x=>decide (strAt xs j=x)) = !allN (neB xs j) j:=by
     rw [qtB (d:=ByteArray.empty)]
     congr 1
     rw [jX,Nat.min_eq_left (by omega)]
     refine qh4 (fun i hi=>?_)
     unfold neB strAt
     congr 1
     have:(xs.take j).getD i ByteArray.empty=xs.getD i ByteArray.empty:=by simp [jB,hi]
     rw [this]
     exact decide_eq_decide.2 eq_comm
    rw [this]
    cases allN (neB xs j) j
    ·exact .done
    ·exact hX
 unfold qd3
 refine Ev.bind hL1 ?_
 cases namesB xs<;>exact .done
end Go.Fw


namespace Go.Fw
open Go
set_option maxRecDepth 100000
theorem qry {n:Nat} {x lo hi:Int}:qha n x lo hi=some (!inI x lo hi):=by simp only [qha,qde,jd]
theorem qe3 {xs:List Int} {lo hi:Int} (hl:xs.length≤1048576):Ev (fun n=>qbT n xs lo hi) (xs.all fun x=>inI x lo hi):=by
 have h1:Ev (fun n=>qaW n xs lo hi) (ixL (fun x=>!inI x lo hi) xs) :=
  qeo (fin:=(xs.length:Int)) (Lf:=qac xs lo hi) (pf:=fun _ x=>some (!inI x lo hi)) (fun _ _=>.done)
   (fun n=>by simp only [qac,qk (je _),cond_false])
   (fun n j x hx=>by
    have hj:=(List.getElem?_eq_some_iff.1 hx).1
    simp only [qac,qj hj,cond_true,qaq hx,jd,qry,wS j])
   (fun n=>by unfold qaW;congr 1;funext o;cases o<;>rfl)
 unfold qbT qbB
 refine Ev.bind (Ev.bind h1 (Ev.now rfl)) (Ev.now ?_)
 rw [qmw,qor]
def stepB (xs:List Int) (j:Nat):Bool:=decide (j=0) || decide (at0 xs (j-1)<at0 xs j)
def incB (xs:List Int):Bool:=allN (stepB xs) xs.length
theorem qj0 {xs:List Int} (hl:xs.length≤1048576):Ev (fun n=>qdA n xs) (incB xs):=by
 have hL:Ev (fun n=>qbv xs n 1) (bif incB xs then .nxt (max 1 xs.length:Int) else .ret false):=by
  by_cases h0:xs.length=0
  ·have hb:incB xs=true:=by unfold incB;rw [h0];rfl
   rw [hb]
   refine Ev.succ ?_
   have:decide ((1:Int)<(xs.length:Int))=false:=by rw [h0];decide
   simp only [qbv,this,cond_false]
   exact Ev.now (by rw [h0];rfl)
  ·have:=qu6 (Lf:=qbv xs) (len:=xs.length) (i0:=1) (f:=stepB xs) (bad:=false) (fin:=.nxt (max 1 xs.length:Int)) (by omega)
    (Ev.succ (by
     simp only [qbv,qk (je _),cond_false]
     exact Ev.now (by congr 2;omega)))
    (fun j h1 hj X hX=>Ev.succ (by
     simp only [qbv,qj hj,cond_true,wS j,show (j:Int)-1=((j-1:Nat):Int) by omega,qau (show -9223372036854775808≤((j-1:Nat):Int) by omega) (by omega),qam (show j-1<xs.length by omega),qam hj,jd]
     unfold stepB
     by_cases hc:at0 xs (j-1)<at0 xs j
     ·have e1:decide (at0 xs (j-1) ≥ at0 xs j)=false:=by simp;omega
      rw [e1];simp only [hc,decide_true,Bool.or_true,cond_true,cond_false];exact hX
     ·have e1:decide (at0 xs (j-1) ≥ at0 xs j)=true:=by simp;omega
      have e2:decide (j=0)=false:=by simp;omega
      rw [e1,e2];simp only [hc,decide_false,Bool.or_self,cond_true,cond_false];exact .done))
   have e:allN (fun j=>stepB xs (1+j)) (xs.length-1)=incB xs:=by
    unfold incB
    rw [jj,qap,qap]
    constructor
    ·intro h j hj
     cases j with
     | zero=>rfl
     | succ j=>have:=h j (by omega);rwa [Nat.add_comm] at this
    ·intro h j hj
     exact h (1+j) (by omega)
   rw [e] at this
   exact this
 unfold qdA
 refine Ev.bind hL ?_
 cases incB xs<;>exact .done
def lenB {α:Type} (xs:List α) (lo hi:Nat):Bool:=decide (lo≤xs.length)&&decide (xs.length≤hi)
theorem qsI {α:Type} {xs:List α} {lo hi:Nat}:inI (xs.length:Int) (lo:Int) (hi:Int)=lenB xs lo hi:=by
 unfold inI lenB;rw [jj];simp
def axisB (xs:List Int):Bool:=lenB xs 1 4&&((xs.all fun x=>inI x 0 100000)&&incB xs)
theorem qrP {xs:List Int} (hl:xs.length≤1048576):Ev (fun n=>qjx n xs) (axisB xs):=by
 simp only [qjx,qbs,jd,qde,show inI (xs.length:Int) 1 4=lenB xs 1 4 from qsI (lo:=1) (hi:=4)]
 unfold axisB
 cases lenB xs 1 4
 ·exact .done
 ·refine Ev.tt rfl (Ev.bind (qe3 hl) ?_)
  cases (xs.all fun x=>inI x 0 100000)
  ·exact .done
  ·exact Ev.tt rfl (Ev.bind (qj0 hl) .done)
theorem qqF {xs:List Int} (hl:xs.length≤1048576):Ev (fun n=>qiu n xs) (axisB xs):=by
 have hL:Ev (fun n=>qdN xs n 0) (bif allN (fun j=>inI (at0 xs j) 0 100000&&stepB xs j) xs.length then .nxt (xs.length:Int) else .ret false):=by
  refine qdL ?_ (fun j hj X hX=>Ev.succ ?_)
  ·exact Ev.succ (by simp only [qdN,qk (je _),cond_false];exact .done)
  ·simp only [qdN,qj hj,cond_true,qam hj,jd,qcF,wS j]
   cases inI (at0 xs j) 0 100000
   ·exact .done
   ·simp only [Ja,cond_false,jx]
    unfold stepB
    by_cases h0:j=0
    ·subst h0
     exact Ev.ff (by decide) hX
    ·simp only [show (j:Int)-1=((j-1:Nat):Int) by omega,qau (show -9223372036854775808≤((j-1:Nat):Int) by omega) (by omega),qam (show j-1<xs.length by omega),jd]
     have e2:decide (j=0)=false:=by simp;omega
     have e3:decide ((j:Int) > 0)=true:=by simp;omega
     rw [e2,e3]
     simp only [cond_true,Bool.false_or]
     by_cases hc:at0 xs (j-1)<at0 xs j
     ·have e1:decide (at0 xs (j-1) ≥ at0 xs j)=false:=by simp;omega
      rw [e1];simp only [hc,decide_true,cond_true,cond_false];exact hX
     ·have e1:decide (at0 xs (j-1) ≥ at0 xs j)=true:=by simp;omega
      rw [e1];simp only [hc,decide_false,cond_true,cond_false];exact .done
 have e:axisB xs=(allN (fun j=>inI (at0 xs j) 0 100000&&stepB xs j) xs.length&&lenB xs 1 4):=by
  unfold axisB incB
  rw [qlT,qgT (d:=0),Bool.and_comm]
  rfl
 rw [e]
 unfold qiu
 refine Ev.bind hL ?_
 cases allN (fun j=>inI (at0 xs j) 0 100000&&stepB xs j) xs.length
 ·exact .done
 ·simp only [cond_true,qnv,qoF,jx]
  exact Ev.now (by congr 1;unfold lenB;rw [jj];simp;omega)
def tableB (t:qw):Bool:=axisB t.Bi&&(axisB t.Bc&&(decide (t.Ba.length=t.Bi.length*t.Bc.length)&&(t.Ba.all fun x=>inI x (-1000000) 1000000)))
theorem quW {a b:Nat} (ha:a≤1048576) (hb:b≤1048576):W64 ((a:Int)*(b:Int))=((a*b:Nat):Int):=by
 have h:a*b≤1048576*1048576:=Nat.mul_le_mul ha hb
 have e:(a:Int)*(b:Int)=((a*b:Nat):Int):=by simp
 rw [e]
 exact qau (by omega) (by omega)
theorem quu {t:qw} (h:qiv t):Ev (fun n=>qkk n t) (tableB t):=by
 unfold qkk tableB
 refine Ev.bind (qrP h.Bi.len) ?_
 cases axisB t.Bi
 ·exact .done
 ·refine Ev.tt rfl (Ev.bind (qrP h.Bc.len) ?_)
  cases axisB t.Bc
  ·exact .done
  ·rw [quW h.Bi.len h.Bc.len]
   have e:(((t.Ba.length:Nat):Int)==((t.Bi.length*t.Bc.length:Nat):Int))=decide (t.Ba.length=t.Bi.length*t.Bc.length):=by rw [jj];simp;omega
   rw [e]
   cases decide (t.Ba.length=t.Bi.length*t.Bc.length)
   ·exact .done
   ·exact Ev.tt rfl (Ev.tt rfl (Ev.bind (qe3 h.Ba.len) .done))
theorem qtb {t:qw} (h:qiv t):Ev (fun n=>qj3 n t) (tableB t):=by
 have hl:=h.Ba.len
 have hL:Ev (fun n=>qeB t n 0) (bif (t.Ba.all fun x=>inI x (-1000000) 1000000) then .nxt (t.Ba.length:Int) else .ret false) :=
  qoD (fun n=>by simp only [qeB,qk (je _),cond_false]) (fun j hj X hX=>by
   simp only [qeB,qj hj,cond_true,qik hj,jd,qcF,wS j]
   cases inI t.Ba[j] (-1000000) 1000000
   ·exact .done
   ·exact hX)
 unfold qj3 tableB
 refine Ev.bind (b:=!(axisB t.Bi&&(axisB t.Bc&&decide (t.Ba.length=t.Bi.length*t.Bc.length)))) ?_ ?_
 ·refine Ev.bind (qqF h.Bi.len) ?_
  cases axisB t.Bi
  ·exact .done
  ·refine Ev.ff rfl (Ev.bind (qqF h.Bc.len) ?_)
   cases axisB t.Bc
   ·exact .done
   ·refine Ev.ff rfl (Ev.now ?_)
    rw [quW h.Bi.len h.Bc.len]
    congr 1
    rw [jj];simp;omega
 ·cases axisB t.Bi
  ·exact .done
  ·cases axisB t.Bc
   ·exact .done
   ·cases decide (t.Ba.length=t.Bi.length*t.Bc.length)
    ·exact .done
    ·refine Ev.ff rfl (Ev.bind hL ?_)
     cases (t.Ba.all fun x=>inI x (-1000000) 1000000)<;>exact .done
end Go.Fw


namespace Go.Fw
open Go
set_option maxRecDepth 100000
instance:Inhabited qax:=⟨⟨ByteArray.empty,0,0,false⟩⟩
instance:Inhabited qw:=⟨⟨[],[],[]⟩⟩
instance:Inhabited qS:=⟨⟨0,0,0,0,[],[]⟩⟩
instance:Inhabited qC:=⟨⟨ByteArray.empty,0,[],[],[],0,0⟩⟩
instance:Inhabited qp:=⟨⟨ByteArray.empty,0,[]⟩⟩
instance:Inhabited qar:=⟨⟨ByteArray.empty,0,0⟩⟩
instance:Inhabited qT:=⟨⟨[],[],[],[]⟩⟩
theorem lastE {j m:Nat} (h:j<m) (hm:m≤1048576):((j:Int)==W64 ((m:Int)-1))=decide (j+1=m):=by
 rcases qx8 h with h|h
 ·exact h
 ·omega
theorem qkn {α:Type} [Inhabited α] {xs:List α} {g:α→ByteArray} {j:Nat} (h:j<xs.length):strAt (xs.map g) j=g (gt xs j):=by
 rw [qoo (by simpa using h),qfH h];simp
theorem qnL {α:Type} {xs:List α} {g:α→ByteArray} {ok:α→Prop} (h:okL ok xs) (hg:∀ x,ok x→okS (g x)):okL okS (xs.map g) :=
 ⟨by rw [jv];exact h.1,fun y hy=>by
  obtain ⟨x,hx,rfl⟩:=List.mem_map.1 hy
  exact hg x (h.2 x hx)⟩
theorem qlO {α β:Type} {xs:List α} {g:α→β} {j:Nat} (h:j<xs.length) (hl:xs.length≤1048576) {y:β}:appS ((xs.take j).map g) [y]=some ((xs.take j).map g++[y]) :=
 qcZ (by simp;omega)
def pinB (ps:List qax) (j:Nat):Bool :=
 bif decide (j+1=ps.length) then ((gt ps j).Bs==2)&&(((gt ps j).Bq==0)&&!(gt ps j).Bm) else ((gt ps j).Bs==1)&&inI (gt ps j).Bq 0 500
def pinsB (ps:List qax):Bool:=allN (pinB ps) ps.length&&(lenB ps 2 5&&namesB (ps.map qax.Az))
def clkN (ps:List qax) (j:Nat):Nat:=cntP (fun i=>(gt ps i).Bm) j
theorem quG {ps:List qax} (h:okL qnA ps):Ev (fun n=>qkh n ps) (pinsB ps):=by
 have hl:=h.len
 have hL:Ev (fun n=>qcV ps n ([]:List ByteArray) 0) (bif allN (pinB ps) ps.length then .nxt (ps.map qax.Az,(ps.length:Int)) else .ret false):=by
  refine loopN (Lf:=qcV ps) (S:=fun j=>(ps.take j).map qax.Az) (pinB ps) (fun n=>?_) (fun j hj hp X hX=>?_)
  ·simp only [qcV,qk (je _),cond_false,jH]
  ·simp only [qcV,qj hj,cond_true,qA hj,jd,qlO hj hl,qfT (g:=qax.Az) hj,lastE hj hl,bne,qbS,qde,wS j]
   generalize hc:pinB ps j=c at hX ⊢
   unfold pinB at hc
   cases hd:decide (j+1=ps.length)
   ·rw [hd] at hc
    simp only [cond_false] at hc ⊢
    subst hc
    exact Ev.okP (fun h1=>Ev.okP1 (fun h2=>hX (by rw [h1,h2];rfl)))
   ·rw [hd] at hc
    simp only [cond_true] at hc ⊢
    subst hc
    refine Ev.okP (fun h1=>Ev.okP (fun h2=>Ev.chkP1 (fun h3=>hX (by rw [h1,h2,h3];rfl))))
 unfold qkh pinsB
 refine Ev.bind hL ?_
 cases allN (pinB ps) ps.length
 ·exact .done
 ·simp only [cond_true,qcn,qde,jd,show inI (ps.length:Int) 2 5=lenB ps 2 5 from qsI (lo:=2) (hi:=5),jx]
  exact Ev.andP (fun _=>Ev.last (qjt (qnL h (fun x hx=>hx.Az))))
def pinS (ps:List qax) (j:Nat):Bool:=allN (neB (ps.map qax.Az) j) j&&((nameB (gt ps j).Az&&inI (gt ps j).Bq 0 500)&&(bif decide (j+1=ps.length) then ((gt ps j).Bs==2)&&(((gt ps j).Bq==0)&&!(gt ps j).Bm) else ((gt ps j).Bs==1)))
theorem qxK {ps:List qax}:(lenB ps 2 5&&allN (pinS ps) ps.length)=pinsB ps:=by
 have e:namesB (ps.map qax.Az)=allN (fun j=>nameB (gt ps j).Az&&allN (neB (ps.map qax.Az) j) j) ps.length:=by
  unfold namesB
  rw [jv]
  exact qh4 (fun j hj=>by rw [qkn hj])
 unfold pinsB
 rw [e,←Bool.and_assoc,Bool.and_comm (allN (pinB ps) ps.length),Bool.and_assoc,←qlT]
 congr 1
 refine qh4 (fun j hj=>?_)
 unfold pinS pinB
 cases hd:decide (j+1=ps.length)
 ·simp only [cond_false]
  cases allN (neB (ps.map qax.Az) j) j<;>cases nameB (gt ps j).Az<;>cases inI (gt ps j).Bq 0 500<;>cases ((gt ps j).Bs==1)<;>rfl
 ·simp only [cond_true]
  cases hcap:((gt ps j).Bq==0)
  ·simp
  ·have:inI (gt ps j).Bq 0 500=true:=by rw [beq_iff_eq] at hcap;rw [hcap];rfl
   rw [this]
   cases allN (neB (ps.map qax.Az) j) j<;>cases nameB (gt ps j).Az<;>cases ((gt ps j).Bs==2)<;>cases (gt ps j).Bm<;>rfl
theorem qus {c:qC} (h:okL qnA c.Ay):Ev (fun n=>qj5 n c) (bif pinsB c.Ay then (((clkN c.Ay c.Ay.length:Nat):Int),true) else (0,false)):=by
 have hl:=h.len
 have hL2:∀ j,j<c.Ay.length→Ev (fun n=>qeD c (j:Int) (gt c.Ay j) n 0) (bif allN (neB (c.Ay.map qax.Az) j) j then .nxt (j:Int) else .ret (0,false)):=by
  intro j hj
  refine qdL ?_ (fun i hi X hX=>Ev.succ ?_)
  ·exact Ev.succ (by simp only [qeD,qk (je _),cond_false];exact .done)
  ·simp only [qeD,qj hi,cond_true,qA (show i<c.Ay.length by omega),jd,qhF,wS i]
   unfold neB
   rw [qkn (g:=qax.Az) (show i<c.Ay.length by omega),qkn (g:=qax.Az) hj]
   exact Ev.chkP1 (fun _=>hX)
 have hL1:Ev (fun n=>qcU c n 0 0) (bif allN (pinS c.Ay) c.Ay.length then .nxt (((clkN c.Ay c.Ay.length:Nat):Int),(c.Ay.length:Int)) else .ret (0,false)):=by
  refine loopN (Lf:=qcU c) (S:=fun j=>((clkN c.Ay j:Nat):Int)) (pinS c.Ay) (fun n=>?_) (fun j hj hp X hX=>?_)
  ·simp only [qcU,qk (je _),cond_false]
  ·have hn:clkN c.Ay j≤j:=qfP
   have ejl:((j:Int)==W64 ((c.Ay.length:Int)-1))=decide (j+1=c.Ay.length):=lastE hj hl
   have elt:decide ((j:Int)<W64 ((c.Ay.length:Int)-1)) = !decide (j+1=c.Ay.length):=by
    rw [qau (by omega) (by omega),jj];simp;omega
   simp only [qcU,qj hj,cond_true,qA hj,jd,wS j,qig (show clkN c.Ay j<9223372036854775807 by omega),ejl,elt,qcF]
   unfold pinS
   refine Ev.bind (hL2 j hj) ?_
   cases ha:allN (neB (c.Ay.map qax.Az) j) j
   ·exact .done
   ·simp only [cond_true,jx]
    refine Ev.chkT ?_ (fun h1=>?_)
    ·exact Ev.or (qmd (qnp h hj).Az) (fun _=>.done)
    ·refine Ev.chkT1 ?_ (fun h2=>?_)
     ·cases decide (j+1=c.Ay.length)
      ·exact .done
      ·simp only [cond_true,Ja,cond_false,bne,qbS]
       cases ((gt c.Ay j).Bs==2)<;>cases ((gt c.Ay j).Bq==0)<;>cases (gt c.Ay j).Bm<;>exact .done
     ·have hX:=hX (by unfold pinS;rw [ha,h1,h2];rfl)
      have hck:clkN c.Ay (j+1)=clkN c.Ay j+(bif (gt c.Ay j).Bm then 1 else 0):=rfl
      rw [hck] at hX
      cases hc:(gt c.Ay j).Bm
      ·rw [hc] at hX;exact Ev.ff rfl hX
      ·rw [hc] at hX;exact Ev.tt rfl hX
 rw [←qxK]
 unfold qj5
 refine Ev.guard ?_ (fun h1=>?_)
 ·unfold lenB
  have e1:decide ((c.Ay.length:Int)<2) = !decide (2≤c.Ay.length):=by rw [jj];simp;omega
  have e2:decide ((c.Ay.length:Int) > 5) = !decide (c.Ay.length≤5):=by rw [jj];simp;omega
  rw [e1,e2]
  cases decide (2≤c.Ay.length)<;>cases decide (c.Ay.length≤5)<;>exact .done
 ·refine Ev.bind hL1 ?_
  cases allN (pinS c.Ay) c.Ay.length<;>exact .done
def mnL (xs:List Int):Int:=(xs.drop 1).foldl (fun m y=>if y<m then y else m) (at0 xs 0)
def mxL (xs:List Int):Int:=(xs.drop 1).foldl (fun m y=>if y > m then y else m) (at0 xs 0)
theorem qrk {t:qw} (h:tableB t=true):1≤t.Ba.length:=by
 unfold tableB axisB lenB at h
 simp only [jf,decide_eq_true_eq] at h
 obtain ⟨⟨⟨h1,_⟩,_⟩,⟨⟨h2,_⟩,_⟩,h3,_⟩:=h
 rw [h3]
 exact Nat.mul_pos h1 h2
theorem qxx {xs:List Int} (h1:1≤xs.length) (hl:xs.length≤1048576):Ev (fun n=>qhp n xs) (mnL xs):=by
 have hL:=(qpr (Lf:=fun n t j=>qcM xs n t j) (xs:=xs) (step:=fun (m y:Int)=>if y<m then y else m) (fin:=fun t=>(t,(xs.length:Int))) 1 (at0 xs 0) (fun _ _=>True) h1 trivial (fun _ _ _ _=>trivial)
  (fun n t=>by simp only [qcM,qk (je _),cond_false])
  (fun j t hj _ X hX=>by simpa only [qcM,qj hj,cond_true,qik hj,jd,wS j] using hX)).1
 unfold qhp
 rw [show decide ((xs.length:Int)<1)=false by simp;omega,show idx xs (0:Int)=some (at0 xs 0) from qam (j:=0) (by omega)]
 simp only [cond_false,jd]
 exact Ev.bind hL .done
theorem qur {t:qw} (h:qiv t):Ev (fun n=>qhr n t) (bif tableB t then (⟨mnL t.Ba,mxL t.Ba⟩,0) else (⟨0,0⟩,1)):=by
 unfold qhr
 refine Ev.chk1 (qtb h) (fun hb=>?_)
 have h1:=qrk hb
 have hl:=h.Ba.len
 have hL:=(qpr (Lf:=fun n (t':Int × Int) j=>qcO t n t'.1 t'.2 j) (xs:=t.Ba) (step:=fun (m:Int × Int) y=>(if y<m.1 then y else m.1,if y > m.2 then y else m.2)) (fin:=fun t'=>(t'.1,t'.2,(t.Ba.length:Int))) 1 (at0 t.Ba 0,at0 t.Ba 0) (fun _ _=>True) h1 trivial (fun _ _ _ _=>trivial)
  (fun n t=>by simp only [qcO,qk (je _),cond_false])
  (fun j t hj _ X hX=>by simpa only [qcO,qj hj,cond_true,qik hj,jd,wS j] using hX)).1
 have hf:∀ (ys:List Int) (a b:Int),ys.foldl (fun (m:Int × Int) y=>(if y<m.1 then y else m.1,if y > m.2 then y else m.2)) (a,b)=(ys.foldl (fun m y=>if y<m then y else m) a,ys.foldl (fun m y=>if y > m then y else m) b):=by
  intro ys
  induction ys with
  | nil=>intro a b;rfl
  | cons y ys ih=>intro a b;simp only [List.foldl_cons,ih]
 rw [hf] at hL
 rw [show idx t.Ba (0:Int)=some (at0 t.Ba 0) from qam (j:=0) (by omega)]
 simp only [jd]
 exact Ev.bind hL .done
def tabB (pos:Bool) (t:qw):Bool:=tableB t&&(!pos || decide (0≤mnL t.Ba))
def tablesB (ts:List qw) (pos:Bool):Bool:=decide (ts.length=2)&&ts.all (tabB pos)
theorem qmb {ts:List qw} {pos:Bool} (h:okL qiv ts):Ev (fun n=>qfq n ts pos) (tablesB ts pos):=by
 have hl:=h.len
 have h1:Ev (fun n=>qaF n ts pos) (ixL (fun x=>!tabB pos x) ts) :=
  qeo (fin:=(ts.length:Int)) (Lf:=qQ ts pos) (pf:=fun n x=>qhj n x pos) (fun x hx=>by
    unfold qhj tabB
    refine Ev.or (quu (h.2 x hx)) (fun hb=>?_)
    cases pos
    ·exact .done
    ·refine Ev.tt rfl (Ev.bind (qxx (qrk hb) (h.2 x hx).Ba.len) (Ev.now ?_))
     congr 1
     rw [jj];simp)
   (fun n=>by simp only [qQ,qk (je _),cond_false])
   (fun n j x hx=>by
    have hj:=(List.getElem?_eq_some_iff.1 hx).1
    simp only [qQ,qj hj,cond_true,qaq hx,jd,wS j])
   (fun n=>by unfold qaF;congr 1;funext o;cases o<;>rfl)
 unfold qfq qa4 tablesB
 rw [show ((ts.length:Int)==2)=decide (ts.length=2) by rw [jj];simp;omega]
 refine Ev.andP (fun _=>Ev.bind (Ev.bind h1 (Ev.now rfl)) (Ev.now ?_))
 rw [qmw,qor]
theorem qiD {ts:List qw} {pos:Bool} (h:okL qiv ts):Ev (fun n=>qdo n ts pos) (tablesB ts pos):=by
 unfold qdo tablesB
 rw [show ((ts.length:Int) != 2) = !decide (ts.length=2) by rw [jj];simp;omega]
 simp only [qbS]
 refine Ev.andP (fun h2=>?_)
 have h2:ts.length=2:=by simpa using h2
 have hL:Ev (fun n=>qcC ts pos n 0) (bif allN (fun j=>tabB pos (gt ts j)) ts.length then .nxt (2:Int) else .ret false):=by
  refine qdL (len:=ts.length) ?_ (fun j hj X hX=>Ev.succ ?_)
  ·rw [h2];exact Ev.succ (by simp only [qcC];exact .done)
  ·simp only [qcC,show decide ((j:Int)<2)=true by simp;omega,cond_true,qA hj,jd,wS j]
   refine Ev.bind (qur (qnp h hj)) ?_
   unfold tabB
   cases tableB (gt ts j)
   ·exact .done
   ·simp only [cond_true,jx]
    refine Ev.ff rfl ?_
    cases pos
    ·exact hX
    ·refine Ev.tt rfl ?_
     rw [show decide (mnL (gt ts j).Ba<0) = !decide (0≤mnL (gt ts j).Ba) by rw [jj];simp]
     simp only [qbS]
     exact Ev.okP1 (fun _=>hX)
 rw [qiP]
 refine Ev.bind hL ?_
 cases allN (fun j=>tabB pos (gt ts j)) ts.length<;>exact .done
end Go.Fw


namespace Go.Fw
open Go
set_option maxRecDepth 100000
theorem qfd {α:Type} [Inhabited α] {xs:List α} {x:Int} (h0:0≤x) (h1:x<xs.length):idx xs x=some (gt xs x.toNat):=by
  have:=qA (xs:=xs) (j:=x.toNat) (by omega)
  rwa [←qew h0] at this
theorem qr7 {q:Nat→Bool} {m n:Nat} (h:m≤n):cntP q m≤cntP q n:=by
  induction n with
  | zero =>
    obtain rfl:m=0:=by omega
    exact je _
  | succ n ih =>
    rcases Nat.lt_or_eq_of_le h with h|rfl
    · exact Jc (ih (by omega)) (Nat.le_add_right _ _)
    · exact je _
theorem qld {m k:Nat}:decide ((m:Int)≤(k:Int))=decide (m≤k):=by rw [jj];simp
theorem qti {q:Nat→Bool} {n i j:Nat} (hi:i<j) (hj:j<n) (h1:q i=true) (h2:q j=true):2≤cntP q n:=by
  have e1:cntP q (i+1)=cntP q i+1:=by rw [cntP,h1];rfl
  have e2:cntP q (j+1)=cntP q j+1:=by rw [cntP,h2];rfl
  have m1:=qr7 (q:=q) (show i+1≤j by omega)
  have m2:=qr7 (q:=q) (show j+1≤n by omega)
  omega
theorem qtn {q:Nat→Bool} {n i j:Nat} (hn:cntP q n≤1) (hi:i<n) (hj:j<n) (h1:q i=true) (h2:q j=true):i=j:=by
  rcases Nat.lt_trichotomy i j with h|h|h
  · have:=qti h hj h1 h2;omega
  · exact h
  · have:=qti h hi h2 h1;omega
def clkIx (ps:List qax):Int:=ixL (fun p=>p.Bm) ps
def clkAt (ps:List qax) (x:Int):Bool:=(gt ps x.toNat).Bm
theorem qwv {c:qC} (hl:c.Ay.length≤1048576):Ev (fun n=>qhS n c) (clkIx c.Ay):=by
  unfold qhS
  refine Ev.bind (b:=clkIx c.Ay) ?_ .done
  exact qeo (fin:=(c.Ay.length:Int)) (Lf:=qV c.Ay) (pf:=fun n x=>qiK n x) (fun _ _=>.done)
    (fun n=>by simp only [qV,qk (je _),cond_false])
    (fun n j x hx=>by
      have hj:=(List.getElem?_eq_some_iff.1 hx).1
      simp only [qV,qj hj,cond_true,qaq hx,jd,wS j])
    (fun n=>by unfold qbu;congr 1;funext o;cases o<;>rfl)
def arcI (ps:List qax) (a:qS):Bool :=
  bif (a.As==4) || (a.As==5) then
    (a.Bj==0)&&(((a.Av.length:Int)==0)&&(tablesB a.Bl false&&((a.Be==clkIx ps)&&(decide (a.Be ≥ 0)&&(inI a.To 0 (ps.length-2)&&!(a.To==a.Be))))))
  else
    (tablesB a.Bl true&&(tablesB a.Av true&&((a.To==(ps.length:Int)-1)&&inI a.Be 0 (ps.length-2)))) &&
      (bif a.As==1 then !clkAt ps a.Be&&inI a.Bj 1 3 else (bif (a.As==2) || (a.As==3) then clkAt ps a.Be&&(a.Bj==0) else false))
def arcS (ps:List qax) (a:qS):Bool :=
  (inI a.Be 0 (ps.length-2)&&inI a.To 0 (ps.length-1)) &&
    (bif a.As==1 then !clkAt ps a.Be&&((a.To==(ps.length:Int)-1)&&(inI a.Bj 1 3&&(tablesB a.Bl true&&tablesB a.Av true)))
     else (bif (a.As==2) || (a.As==3) then clkAt ps a.Be&&((a.To==(ps.length:Int)-1)&&((a.Bj==0)&&(tablesB a.Bl true&&tablesB a.Av true)))
     else (bif (a.As==4) || (a.As==5) then clkAt ps a.Be&&(decide (a.To<(ps.length:Int)-1)&&(!clkAt ps a.To&&((a.Bj==0)&&(tablesB a.Bl false&&((a.Av.length:Int)==0))))) else false)))
theorem qpK {c d:Bool}:(bif c then some c else some d)=some (c || d):=by cases c<;>rfl
theorem qtR {c d:Bool}:(bif c then some true else some d)=some (c || d):=by cases c<;>rfl
theorem quJ {n:Nat} {k:Int}:qj2 n k=some ((k==4) || (k==5)):=by simp only [qj2,qtR]
theorem qw3 {c:qC} {a:qS} (h:okL qnA c.Ay) (ha:qod a) (hm:2≤c.Ay.length):Ev (fun n=>qhU n c a) (arcI c.Ay a):=by
  have hl:=h.len
  have e1:W64 ((c.Ay.length:Int)-1)=(c.Ay.length:Int)-1:=qdl (by omega)
  have e2:W64 ((c.Ay.length:Int)-1-1)=(c.Ay.length:Int)-2:=by rw [qau (by omega) (by omega)];omega
  simp only [qhU,quJ,jd,qgx,qee,qcn,e1,e2,qde,qpK,bne]
  unfold arcI
  refine Ev.iff (fun _=>Ev.last ?_) (fun _=>Ev.guardB ?_ (fun hb=>?_))
  · exact Ev.andP fun _=>Ev.andP fun _=>Ev.and (qmb ha.Bl) fun _=>Ev.bind (qwv hl) (Ev.andP fun _=>Ev.andP fun _=>Ev.andP fun _=>.done)
  · refine Ev.or (qmb ha.Bl) fun _=>Ev.or (qmb ha.Av) fun _=>?_
    simp only [qbS]
    exact Ev.orBP fun _=>.done
  · have hf:0≤a.Be∧a.Be≤(c.Ay.length:Int)-2:=by
      simp only [jf,qaX] at hb
      exact hb.2.2.2
    simp only [qfd hf.1 (show a.Be<(c.Ay.length:Int) by omega),jd]
    exact Ev.iff (fun _=>Ev.andP fun _=>.done) (fun _=>Ev.iff (fun _=>Ev.andP fun _=>.done) (fun _=>.done))
theorem qvR {c:qC} {a:qS} (h:okL qnA c.Ay) (ha:qod a) (hm:2≤c.Ay.length):Ev (fun n=>qlA n c a) (arcS c.Ay a):=by
  have hl:=h.len
  have e1:W64 ((c.Ay.length:Int)-1)=(c.Ay.length:Int)-1:=qdl (by omega)
  have e2:W64 ((c.Ay.length:Int)-1-1)=(c.Ay.length:Int)-2:=by rw [qau (by omega) (by omega)];omega
  simp only [qlA,jd,e1,e2,qcF,qpK]
  unfold arcS
  refine Ev.guardB ?_ (fun hb=>?_)
  · simp only [qbS]
    exact Ev.orBP fun _=>.done
  · have hf:(0≤a.Be∧a.Be≤(c.Ay.length:Int)-2)∧(0≤a.To∧a.To≤(c.Ay.length:Int)-1):=by
      simp only [jf,qaX] at hb
      exact hb
    simp only [qfd hf.1.1 (show a.Be<(c.Ay.length:Int) by omega),qfd hf.2.1 (show a.To<(c.Ay.length:Int) by omega),jd]
    refine Ev.iff (fun _=>?_) (fun _=>Ev.iff (fun _=>?_) (fun _=>Ev.iff (fun _=>?_) (fun _=>.done)))
    · exact Ev.andP fun _=>Ev.andP fun _=>Ev.andP fun _=>Ev.and (qiD ha.Bl) fun _=>Ev.last (qiD ha.Av)
    · exact Ev.andP fun _=>Ev.andP fun _=>Ev.andP fun _=>Ev.and (qiD ha.Bl) fun _=>Ev.last (qiD ha.Av)
    · exact Ev.andP fun _=>Ev.andP fun _=>Ev.andP fun _=>Ev.andP fun _=>Ev.and (qiD ha.Bl) fun _=>.done
theorem qpn {ps:List qax} (h1:clkN ps ps.length≤1) {x:Int} (hx:0≤x):clkIx ps=x↔x<ps.length∧clkAt ps x=true:=by
  unfold clkIx ixL
  cases hf:ps.findIdx? (fun p=>p.Bm) with
  | some j =>
    obtain ⟨hj,hp,_⟩:=List.findIdx?_eq_some_iff_getElem.1 hf
    have hpj:(gt ps j).Bm=true:=by rw [qfH hj];exact hp
    constructor
    · intro e
      have e:(j:Int)=x:=e
      subst e
      exact ⟨by omega,by unfold clkAt;rw [jn];exact hpj⟩
    · rintro ⟨hl,hc⟩
      have:=qtn h1 hj (show x.toNat<ps.length by omega) hpj hc
      show (j:Int)=x
      omega
  | none =>
    have hn:=List.findIdx?_eq_none_iff.1 hf
    constructor
    · intro e
      have e:(-1:Int)=x:=e
      omega
    · rintro ⟨hl,hc⟩
      have hxl:x.toNat<ps.length:=by omega
      unfold clkAt at hc
      rw [qfH hxl] at hc
      have:=hn _ (jp hxl)
      rw [hc] at this
      exact absurd this (by decide)
theorem qgV {ps:List qax} (h:pinsB ps=true):(2≤ps.length∧ps.length≤5)∧clkAt ps ((ps.length:Int)-1)=false:=by
  unfold pinsB lenB at h
  simp only [jf,decide_eq_true_eq] at h
  refine ⟨h.2.1,?_⟩
  have h1:=qap.1 h.1 (ps.length-1) (by omega)
  unfold pinB at h1
  rw [show decide (ps.length-1+1=ps.length)=true by simp;omega] at h1
  simp only [cond_true,jf,jC] at h1
  unfold clkAt
  rw [show ((ps.length:Int)-1).toNat=ps.length-1 by omega]
  exact h1.2.2
theorem qws {ps:List qax} {a:qS} (h:pinsB ps=true) (h1:clkN ps ps.length≤1):arcI ps a=arcS ps a:=by
  obtain ⟨⟨hm,hm5⟩,hlast⟩:=qgV h
  rw [jj]
  unfold arcI arcS
  cases h45:((a.As==4) || (a.As==5)) with
  | true =>
    have k1:(a.As==1)=false:=by simp at h45 ⊢;omega
    have k23:((a.As==2) || (a.As==3))=false:=by simp at h45 ⊢;omega
    rw [k1,k23]
    simp only [cond_true,cond_false,jf,qaX,decide_eq_true_eq,beq_iff_eq,jC,beq_eq_false_iff_ne,ne_eq]
    constructor
    · rintro ⟨hs,hsl,hd,hf,hf0,ht,hne⟩
      obtain ⟨hl,hc⟩:=(qpn h1 hf0).1 hf.symm
      have hfl:a.Be ≠ (ps.length:Int)-1:=by intro e;rw [e,hlast] at hc;cases hc
      refine ⟨⟨⟨hf0,by omega⟩,⟨ht.1,by omega⟩⟩,hc,by omega,?_,hs,hd,hsl⟩
      cases hct:clkAt ps a.To with
      | false=>rfl
      | true =>
        have:=(qpn h1 ht.1).2 ⟨by omega,hct⟩
        omega
    · rintro ⟨⟨hf,ht⟩,hc,hlt,hct,hs,hd,hsl⟩
      have:=(qpn h1 hf.1).2 ⟨by omega,hc⟩
      refine ⟨hs,hsl,hd,this.symm,hf.1,⟨ht.1,by omega⟩,?_⟩
      intro e
      rw [e,hc] at hct
      cases hct
  | false =>
    simp only [cond_false,jf,qaX,beq_iff_eq]
    cases (a.As==1)
    · cases ((a.As==2) || (a.As==3))
      · simp
      · simp only [cond_true,cond_false,jf,beq_iff_eq]
        constructor
        · rintro ⟨⟨h1,h2,h3,h4⟩,h5,h6⟩
          exact ⟨⟨h4,by omega⟩,h5,h3,h6,h1,h2⟩
        · rintro ⟨⟨h4,h7⟩,h5,h3,h6,h1,h2⟩
          exact ⟨⟨h1,h2,h3,h4⟩,h5,h6⟩
    · simp only [cond_true,jf,qaX,jC,beq_iff_eq]
      constructor
      · rintro ⟨⟨h1,h2,h3,h4⟩,h5,h6⟩
        exact ⟨⟨h4,by omega⟩,h5,h3,h6,h1,h2⟩
      · rintro ⟨⟨h4,h7⟩,h5,h3,h6,h1,h2⟩
        exact ⟨⟨h1,h2,h3,h4⟩,h5,h6⟩
theorem qr8 {ps:List qax} {a:qS} (h:arcS ps a=true):1≤a.As∧a.As≤5:=by
  unfold arcS at h
  rw [jf] at h
  have h:=h.2
  cases h1:(a.As==1)
  · cases h2:((a.As==2) || (a.As==3))
    · cases h4:((a.As==4) || (a.As==5))
      · rw [h1,h2,h4] at h;cases h
      · simp at h4;omega
    · simp at h2;omega
  · simp at h1;omega
def sameArc (x y:qS):Bool:=(x.As==y.As)&&((x.Be==y.Be)&&(x.To==y.To))
def newArc (ar:List qS) (j:Nat):Bool:=allN (fun i=>!sameArc (gt ar i) (gt ar j)) j
theorem qud {c:qC} (h:okL qnA c.Ay) (ha:okL qod c.Am) (hm:2≤c.Ay.length):Ev (fun n=>qgA n c) (allN (fun j=>arcI c.Ay (gt c.Am j)&&newArc c.Am j) c.Am.length&&decide (c.Am.length≤8)):=by
  have hl:=ha.len
  have h1:∀ (ar:List qS) (y:qS),ar.length≤1048576→Ev (fun n=>qay n ar y) (ar.any fun x=>sameArc x y):=by
    intro ar y hl
    unfold qay
    refine Ev.bind (b:=ixL (fun x=>sameArc x y) ar) (qeo (fin:=(ar.length:Int)) (Lf:=qO ar y) (pf:=fun n x=>qfi n x y) (fun x _=>?_)
      (fun n=>by simp only [qO,qk (je _),cond_false])
      (fun n j x hx=>by
        have hj:=(List.getElem?_eq_some_iff.1 hx).1
        simp only [qO,qj hj,cond_true,qaq hx,jd,wS j])
      (fun n=>by unfold qa9;congr 1;funext o;cases o<;>rfl)) (Ev.now (by rw [qmw]))
    unfold qfi sameArc
    exact Ev.andP fun _=>Ev.andP fun _=>.done
  have hL:Ev (fun n=>qcy c n 0) (bif allN (fun j=>arcI c.Ay (gt c.Am j)&&newArc c.Am j) c.Am.length then .nxt (c.Am.length:Int) else .ret false):=by
    refine qdL ?_ (fun j hj X hX=>Ev.succ ?_)
    · exact Ev.succ (by simp only [qcy,qk (je _),cond_false];exact .done)
    · simp only [qcy,qj hj,cond_true,qA hj,jd,qvG (Nat.le_of_lt hj),wS j]
      refine Ev.chk (qw3 h (qnp ha hj) hm) fun _=>Ev.chkT1 ?_ (fun _=>hX)
      refine (h1 _ _ (by simp;omega)).cast ?_
      rw [qwA (Nat.le_of_lt hj)];rfl
  unfold qgA
  refine Ev.bind hL ?_
  cases allN (fun j=>arcI c.Ay (gt c.Am j)&&newArc c.Am j) c.Am.length
  · exact .done
  · refine Ev.now ?_
    show some (decide ((c.Am.length:Int)≤((8:Nat):Int)))=some (true&&decide (c.Am.length≤8))
    rw [qld,jx]
def hasB (ar:List qS) (k:Int):Bool:=ar.any fun a=>a.As==k
theorem qo3 {c:qC} {k:Int} (hl:c.Am.length≤1048576):Ev (fun n=>qdg n c k) (hasB c.Am k):=by
  unfold qdg qbo
  exact Ev.last (Ev.bind (b:=ixL (fun x=>x.As==k) c.Am) (qeo (fin:=(c.Am.length:Int)) (Lf:=qY c.Am k) (pf:=fun n x=>qjR n x k) (fun x _=>.done)
      (fun n=>by simp only [qY,qk (je _),cond_false])
      (fun n j x hx=>by
        have hj:=(List.getElem?_eq_some_iff.1 hx).1
        simp only [qY,qj hj,cond_true,qaq hx,jd,wS j])
      (fun n=>by unfold qbD;congr 1;funext o;cases o<;>rfl)) (Ev.now (by rw [qmw];rfl)))
def kindN (ar:List qS) (k:Nat) (j:Nat):Nat:=cntP (fun i=>(gt ar i).As==(k:Int)) j
theorem qse {ar:List qS} {k:Nat}:decide (((kindN ar k ar.length:Nat):Int) > 0)=hasB ar k:=by
  rw [show decide (((kindN ar k ar.length:Nat):Int) > 0)=decide (0<kindN ar k ar.length) by simp]
  unfold kindN hasB
  rw [qtE,quH]
theorem qub {ar:List qS} {k:Nat}:(((kindN ar k ar.length:Nat):Int)==0) = !hasB ar k:=by
  rw [←qse,jj];simp
theorem qtz {c:qC} (ha:okL qod c.Am) (hk:∀ j,j<c.Am.length→1≤(gt c.Am j).As∧(gt c.Am j).As≤5):Ev (fun n=>qjq n c) (vecC (fun k=>kindN c.Am k c.Am.length) 6):=by
  have hl:=ha.len
  have hL:Ev (fun n=>qc6 c n (vecC (fun _=>0) 6) 0) (vecC (fun k=>kindN c.Am k c.Am.length) 6,(c.Am.length:Int)):=by
    refine loopF (Lf:=qc6 c) (S:=fun j=>vecC (fun k=>kindN c.Am k j) 6) (len:=c.Am.length) (fun n=>?_) (fun j hj X hX=>?_)
    · simp only [qc6,qk (je _),cond_false]
    · obtain ⟨k1,k5⟩:=hk j hj
      have ek:(gt c.Am j).As=(((gt c.Am j).As.toNat:Nat):Int):=qew (by omega)
      have hc:kindN c.Am (gt c.Am j).As.toNat j≤j:=qfP
      simp only [qc6,qj hj,cond_true,qA hj,jd,wS j]
      rw [ek,qkK (show (gt c.Am j).As.toNat<6 by omega)]
      simp only [jd]
      rw [qrL (c:=fun k=>kindN c.Am k j) (by show kindN c.Am _ j<_;omega)]
      have:vecC (fun i=>kindN c.Am i j+(bif decide ((gt c.Am j).As.toNat=i) then 1 else 0)) 6=vecC (fun k=>kindN c.Am k (j+1)) 6:=by
        refine qku (fun k _=>?_)
        show _=kindN c.Am k j+(bif (gt c.Am j).As==(k:Int) then 1 else 0)
        congr 2
        rw [jj];simp;omega
      rw [this]
      exact hX
  unfold qjq
  rw [show mkS 6 (0:Int)=some (vecC (fun _=>0) 6) from qnH (m:=6) (by omega)]
  simp only [jd]
  exact Ev.bind hL .done
def kindB (c:qC):Bool :=
  bif c.As==1 then (((clkN c.Ay c.Ay.length:Nat):Int)==0)&&(((c.Bn.length:Int)==((2 ^ (c.Ay.length-1):Nat):Int))&&(c.Bn.all fun x=>inI x 0 1))
  else bif c.As==2 then (((clkN c.Ay c.Ay.length:Nat):Int)==1)&&(((c.Bn.length:Int)==0)&&(!hasB c.Am 1&&!(hasB c.Am 2==hasB c.Am 3)))
  else bif c.As==3 then (((clkN c.Ay c.Ay.length:Nat):Int)==1)&&(((c.Bn.length:Int)==0)&&(hasB c.Am 1&&(hasB c.Am 2&&!hasB c.Am 3)))
  else false
theorem qsb {c:qC} (h:kindB c=true):clkN c.Ay c.Ay.length≤1:=by
  unfold kindB at h
  cases h1:(c.As==1)
  · cases h2:(c.As==2)
    · cases h3:(c.As==3)
      · rw [h1,h2,h3] at h;cases h
      · rw [h1,h2,h3] at h
        simp only [cond_true,cond_false,jf,beq_iff_eq] at h
        omega
    · rw [h1,h2] at h
      simp only [cond_true,cond_false,jf,beq_iff_eq] at h
      omega
  · rw [h1] at h
    simp only [cond_true,jf,beq_iff_eq] at h
    omega
theorem qtV {m:Nat} (h1:2≤m) (h2:m≤5):shlS 1 (W64 ((m:Int)-1))=some ((2 ^ (m-1):Nat):Int)∧shlS 1 (IntKind.wrap .u64 (W64 ((m:Int)-1)))=some ((2 ^ (m-1):Nat):Int):=by
  have:m=2∨m=3∨m=4∨m=5:=by omega
  rcases this with rfl|rfl|rfl|rfl<;>exact ⟨by decide,by decide⟩
theorem qs2 {c:qC} (hc:qnF c) (hm:2≤c.Ay.length) (hm5:c.Ay.length≤5):Ev (fun n=>qfK n c) (kindB c):=by
  have hl:=hc.Ay.len
  have hL:Ev (fun n=>qba c n 0 0) (((clkN c.Ay c.Ay.length:Nat):Int),(c.Ay.length:Int)):=by
    refine loopF (Lf:=qba c) (S:=fun j=>((clkN c.Ay j:Nat):Int)) (len:=c.Ay.length) (fun n=>?_) (fun j hj X hX=>?_)
    · simp only [qba,qk (je _),cond_false]
    · have hn:clkN c.Ay j≤j:=qfP
      simp only [qba,qj hj,cond_true,qA hj,jd,wS j,qig (show clkN c.Ay j<9223372036854775807 by omega)]
      have hck:clkN c.Ay (j+1)=clkN c.Ay j+(bif (gt c.Ay j).Bm then 1 else 0):=rfl
      rw [hck] at hX
      cases hc:(gt c.Ay j).Bm
      · rw [hc] at hX;exact Ev.ff rfl hX
      · rw [hc] at hX;exact Ev.tt rfl hX
  unfold qfK kindB
  refine Ev.bind hL ?_
  simp only [qee,qcn,jd,(qtV hm hm5).1]
  have hal:=hc.Am.len
  refine Ev.iff (fun _=>?_) (fun _=>Ev.iff (fun _=>?_) (fun _=>Ev.iff (fun _=>?_) (fun _=>.done)))
  · exact Ev.andP fun _=>Ev.andP fun _=>Ev.last (qe3 hc.Bn.len)
  · exact Ev.andP fun _=>Ev.andP fun _=>Ev.bind (qo3 hal) (Ev.andP fun _=>Ev.bind (qo3 hal) (Ev.bind (qo3 hal) .done))
  · exact Ev.andP fun _=>Ev.andP fun _=>Ev.and (qo3 hal) fun _=>Ev.and (qo3 hal) fun _=>Ev.bind (qo3 hal) .done
def cellB (c:qC):Bool :=
  nameB c.Az&&(pinsB c.Ay&&((allN (fun j=>arcI c.Ay (gt c.Am j)&&newArc c.Am j) c.Am.length&&decide (c.Am.length≤8))&&(inI c.Bx 0 100000&&(inI c.Br 0 100000&&kindB c))))
theorem qvH {c:qC} (hc:qnF c):Ev (fun n=>qk9 n c) (cellB c):=by
  simp only [qk9,qpA hc.Az,qde,jd]
  unfold cellB
  refine Ev.andP fun _=>Ev.and (quG hc.Ay) fun hp=>?_
  obtain ⟨⟨hm,hm5⟩,_⟩:=qgV hp
  exact Ev.and (qud hc.Ay hc.Am hm) fun _=>Ev.andP fun _=>Ev.andP fun _=>Ev.last (qs2 hc hm hm5)
theorem qt0 {c:qC} (hc:qnF c):Ev (fun n=>qlt n c) (cellB c):=by
  have hal:=hc.Am.len
  have htl:=hc.Bn.len
  have e:cellB c=((pinsB c.Ay&&(nameB c.Az&&(decide (c.Am.length≤8)&&(inI c.Bx 0 100000&&inI c.Br 0 100000))))&&(allN (fun j=>arcS c.Ay (gt c.Am j)&&newArc c.Am j) c.Am.length&&kindB c)):=by
    unfold cellB
    cases hk:kindB c
    · simp
    · cases hp:pinsB c.Ay
      · simp
      · rw [qh4 (fun j _=>by rw [qws hp (qsb hk)])]
        cases nameB c.Az<;>cases allN (fun j=>arcS c.Ay (gt c.Am j)&&newArc c.Am j) c.Am.length<;>cases decide (c.Am.length≤8)<;>cases inI c.Bx 0 100000<;>cases inI c.Br 0 100000<;>rfl
  rw [e]
  unfold qlt
  refine Ev.bind (qus hc.Ay) ?_
  cases hp:pinsB c.Ay
  · exact .done
  · obtain ⟨⟨hm,hm5⟩,_⟩:=qgV hp
    simp only [cond_true,jx,Ja,cond_false]
    refine Ev.guardB ?_ (fun _=>?_)
    · simp only [qcF,jd,qbS]
      refine Ev.orB (qmd hc.Az) fun _=>?_
      rw [show decide ((c.Am.length:Int) > 8) = !decide (c.Am.length≤8) by rw [jj];simp;omega,qbS]
      exact Ev.orBP fun _=>Ev.orBP fun _=>.done
    · have hL2:∀ j,j<c.Am.length→Ev (fun n=>qdk c (j:Int) (gt c.Am j) n 0) (bif newArc c.Am j then .nxt (j:Int) else .ret false):=by
        intro j hj
        refine qdL ?_ (fun i hi X hX=>Ev.succ ?_)
        · exact Ev.succ (by simp only [qdk,qk (je _),cond_false];exact .done)
        · simp only [qdk,qj hi,cond_true,qA (show i<c.Am.length by omega),jd,wS i]
          unfold sameArc
          cases ((gt c.Am i).As==(gt c.Am j).As)
          · exact hX
          · cases ((gt c.Am i).Be==(gt c.Am j).Be)
            · exact hX
            · cases ((gt c.Am i).To==(gt c.Am j).To)
              · exact hX
              · exact .done
      have hL1:Ev (fun n=>qfv c n 0) (bif allN (fun j=>arcS c.Ay (gt c.Am j)&&newArc c.Am j) c.Am.length then .nxt (c.Am.length:Int) else .ret false):=by
        refine qdL ?_ (fun j hj X hX=>Ev.succ ?_)
        · exact Ev.succ (by simp only [qfv,qk (je _),cond_false];exact .done)
        · simp only [qfv,qj hj,cond_true,qA hj,jd,wS j]
          refine Ev.chk (qvR hc.Ay (qnp hc.Am hj) hm) fun _=>Ev.bind (hL2 j hj) ?_
          cases newArc c.Am j
          · exact .done
          · exact hX
      have hL3:Ev (fun n=>qfB c n 0) (bif (c.Bn.all fun x=>inI x 0 1) then .nxt (c.Bn.length:Int) else .ret false) :=
        qoD (fun n=>by simp only [qfB,qk (je _),cond_false]) (fun j hj X hX=>by
          simp only [qfB,qj hj,cond_true,qik hj,jd,qcF,wS j,qbS]
          exact Ev.okP1 fun _=>hX)
      refine Ev.bind hL1 ?_
      cases hA:allN (fun j=>arcS c.Ay (gt c.Am j)&&newArc c.Am j) c.Am.length
      · exact .done
      · have hk:∀ j,j<c.Am.length→1≤(gt c.Am j).As∧(gt c.Am j).As≤5:=fun j hj=>by
          have:=qap.1 hA j hj
          rw [jf] at this
          exact qr8 this.1
        simp only [cond_true,jx]
        refine Ev.bind (qtz hc.Am hk) ?_
        simp only [(qtV hm hm5).2,jd,
          show idx (vecC (fun k=>kindN c.Am k c.Am.length) 6) (1:Int)=some ((kindN c.Am 1 c.Am.length:Nat):Int) from qkK (k:=1) (by omega),
          show idx (vecC (fun k=>kindN c.Am k c.Am.length) 6) (2:Int)=some ((kindN c.Am 2 c.Am.length:Nat):Int) from qkK (k:=2) (by omega),
          show idx (vecC (fun k=>kindN c.Am k c.Am.length) 6) (3:Int)=some ((kindN c.Am 3 c.Am.length:Nat):Int) from qkK (k:=3) (by omega),qse,qub]
        unfold kindB
        refine Ev.iff (fun _=>?_) (fun _=>Ev.iff (fun _=>?_) (fun _=>Ev.iff (fun _=>?_) (fun _=>.done)))
        · refine Ev.bind hL3 ?_
          cases (c.Bn.all fun x=>inI x 0 1)
          · exact Ev.now (by simp)
          · exact (Ev.andP (fun _=>.done)).cast (by rw [Bool.and_true])
        · refine (Ev.andP fun _=>Ev.andP fun _=>Ev.andP fun _=>.done).cast ?_
          cases (((clkN c.Ay c.Ay.length:Nat):Int)==1)<;>cases ((c.Bn.length:Int)==0)<;>cases hasB c.Am ((1:Nat):Int)<;>cases hasB c.Am ((2:Nat):Int)<;>cases hasB c.Am ((3:Nat):Int)<;>rfl
        · refine (Ev.andP fun _=>Ev.andP fun _=>Ev.andP fun _=>Ev.andP fun _=>.done).cast ?_
          cases (((clkN c.Ay c.Ay.length:Nat):Int)==1)<;>cases ((c.Bn.length:Int)==0)<;>cases hasB c.Am ((1:Nat):Int)<;>cases hasB c.Am ((2:Nat):Int)<;>cases hasB c.Am ((3:Nat):Int)<;>rfl
def libB (l:qv):Bool:=l.Ap.all cellB&&(decide (l.Ap.length≤8)&&namesB (l.Ap.map qC.Az))
theorem qsQ {l:qv} (h:qh3 l):Ev (fun n=>qir n l) (libB l):=by
  have hl:=h.Ap.len
  have hL:Ev (fun n=>qcJ l n ([]:List ByteArray) 0) (bif allN (fun j=>cellB (gt l.Ap j)) l.Ap.length then .nxt (l.Ap.map qC.Az,(l.Ap.length:Int)) else .ret false):=by
    refine loopN (Lf:=qcJ l) (S:=fun j=>(l.Ap.take j).map qC.Az) (fun j=>cellB (gt l.Ap j)) (fun n=>?_) (fun j hj hp X hX=>?_)
    · simp only [qcJ,qk (je _),cond_false,jH]
    · simp only [qcJ,qj hj,cond_true,qA hj,jd,qlO hj hl,qfT (g:=qC.Az) hj,wS j]
      exact Ev.chk1 (qvH (qnp h.Ap hj)) hX
  unfold qir libB
  rw [qiP]
  refine Ev.bind hL ?_
  cases allN (fun j=>cellB (gt l.Ap j)) l.Ap.length
  · exact .done
  · simp only [cond_true,jx,show decide ((l.Ap.length:Int)≤8)=decide (l.Ap.length≤8) from qld (k:=8)]
    exact Ev.andP fun _=>Ev.last (qjt (qnL h.Ap (fun x hx=>hx.Az)))
end Go.Fw


namespace Go.Fw
open Go
set_option maxRecDepth 100000
theorem quL {c:qC} (h:cellB c=true):nameB c.Az=true:=by
 unfold cellB at h;rw [jf] at h;exact h.1
theorem qi9 {c:qC} (h:cellB c=true):pinsB c.Ay=true:=by
 unfold cellB at h;simp only [jf] at h;exact h.2.1
theorem qrm {l:qv} (h:qh3 l):Ev (fun n=>qid n l) (libB l):=by
 have hl:=h.Ap.len
 have hL2:∀ j,j<l.Ap.length→Ev (fun n=>qdy l (j:Int) n 0) (bif allN (neB (l.Ap.map qC.Az) j) j then .nxt (j:Int) else .ret false):=by
  intro j hj
  refine qdL ?_ (fun i hi X hX=>Ev.succ ?_)
  ·exact Ev.succ (by simp only [qdy,qk (je _),cond_false];exact .done)
  ·simp only [qdy,qj hi,cond_true,qA (show i<l.Ap.length by omega),qA hj,jd,qhF,wS i]
   unfold neB
   rw [qkn (g:=qC.Az) (show i<l.Ap.length by omega),qkn (g:=qC.Az) hj]
   exact Ev.chkP1 (fun _=>hX)
 have hL1:Ev (fun n=>qdz l n 0) (bif allN (fun j=>cellB (gt l.Ap j)&&allN (neB (l.Ap.map qC.Az) j) j) l.Ap.length then .nxt (l.Ap.length:Int) else .ret false):=by
  refine qdL ?_ (fun j hj X hX=>Ev.succ ?_)
  ·exact Ev.succ (by simp only [qdz,qk (je _),cond_false];exact .done)
  ·simp only [qdz,qj hj,cond_true,qA hj,jd,wS j]
   refine Ev.chk (qt0 (qnp h.Ap hj)) fun _=>Ev.bind (hL2 j hj) ?_
   cases allN (neB (l.Ap.map qC.Az) j) j
   ·exact .done
   ·exact hX
 have e:libB l=(allN (fun j=>cellB (gt l.Ap j)&&allN (neB (l.Ap.map qC.Az) j) j) l.Ap.length&&decide (l.Ap.length≤8)):=by
  unfold libB namesB
  rw [qiP,jv,Bool.and_comm (decide (l.Ap.length≤8)),←Bool.and_assoc,←qlT]
  congr 1
  refine qh4 (fun j hj=>?_)
  rw [qkn (g:=qC.Az) hj]
  cases hc:cellB (gt l.Ap j)
  ·rfl
  ·rw [quL hc];rfl
 rw [e]
 unfold qid
 refine Ev.bind hL1 ?_
 cases allN (fun j=>cellB (gt l.Ap j)&&allN (neB (l.Ap.map qC.Az) j) j) l.Ap.length
 ·exact .done
 ·refine Ev.now ?_
  show some (decide ((l.Ap.length:Int)≤((8:Nat):Int)))=some (true&&decide (l.Ap.length≤8))
  rw [qld,jx]
theorem qlU {c c':Nat→Nat} {m:Nat} {x:Int} (h0:0≤x) (h1:x<m) (hc:c x.toNat<9223372036854775807) (he:∀ k,k<m→c' k=c k+(bif x==(k:Int) then 1 else 0)) :
  idx (vecC c m) x=some (c x.toNat:Int)∧setS (vecC c m) x (W64 ((c x.toNat:Int)+1))=vecC c' m:=by
 have ex:x=(x.toNat:Int):=qew h0
 have e1:=qkK (c:=c) (m:=m) (k:=x.toNat) (by omega)
 have e2:=qrL (c:=c) (m:=m) (k:=x.toNat) hc
 rw [←ex] at e1 e2
 refine ⟨e1,e2.trans (qku (fun k hk=>?_))⟩
 rw [he k hk]
 congr 2
 rw [jj];simp;omega
def netB (d:qf) (x:Int):Bool:=inI x 0 ((d.Ai.length:Int)-1)
theorem qrd {n:Nat} {d:qf} {x:Int} (hl:d.Ai.length≤1048576):qb6 n d x=some (netB d x):=by
 simp only [qb6,qh0,jd,qde,qdl (show d.Ai.length≤9223372036854775807 by omega)];rfl
theorem qpB {n:Nat} {d:qf} {x:Int} (hl:d.Ai.length≤1048576):qao n x 0 (W64 ((d.Ai.length:Int)-1))=some (netB d x):=by
 rw [qcF,qdl (show d.Ai.length≤9223372036854775807 by omega)];rfl
def hasNamesB (d:qf):Bool:=(decide (d.Ab.length≤14)&&(decide (d.Ai.length≤30)&&decide (d.Ah.length≤8)))&&(namesB (d.Ab.map qp.Az)&&(namesB d.Ai&&namesB (d.Ah.map qar.Az)))
theorem qty {d:qf} (h:qkq d):Ev (fun n=>qeP n d) (hasNamesB d):=by
 have hli:=h.Ab.len
 have hlp:=h.Ah.len
 have hL1:Ev (fun n=>qbf d n ([]:List ByteArray) 0) (d.Ab.map qp.Az,(d.Ab.length:Int)):=by
  refine loopF (Lf:=qbf d) (S:=fun j=>(d.Ab.take j).map qp.Az) (len:=d.Ab.length) (fun n=>?_) (fun j hj X hX=>?_)
  ·simp only [qbf,qk (je _),cond_false,jH]
  ·simpa only [qbf,qj hj,cond_true,qA hj,jd,qlO hj hli,qfT (g:=qp.Az) hj,wS j] using hX
 have hL2:Ev (fun n=>qbq d n ([]:List ByteArray) 0) (d.Ah.map qar.Az,(d.Ah.length:Int)):=by
  refine loopF (Lf:=qbq d) (S:=fun j=>(d.Ah.take j).map qar.Az) (len:=d.Ah.length) (fun n=>?_) (fun j hj X hX=>?_)
  ·simp only [qbq,qk (je _),cond_false,jH]
  ·simpa only [qbq,qj hj,cond_true,qA hj,jd,qlO hj hlp,qfT (g:=qar.Az) hj,wS j] using hX
 unfold qeP hasNamesB
 refine Ev.bind hL1 (Ev.bind hL2 ?_)
 simp only [jv]
 rw [show decide ((d.Ab.length:Int)≤14)=decide (d.Ab.length≤14) from qld (k:=14),show decide ((d.Ai.length:Int)≤30)=decide (d.Ai.length≤30) from qld (k:=30),show decide ((d.Ah.length:Int)≤8)=decide (d.Ah.length≤8) from qld (k:=8)]
 rw [Bool.and_assoc,Bool.and_assoc]
 exact Ev.andP fun _=>Ev.andP fun _=>Ev.andP fun _=>Ev.and (qjt (qnL h.Ab (fun x hx=>hx.Az))) fun _=>Ev.and (qjt h.Ai) fun _=>Ev.last (qjt (qnL h.Ah (fun x hx=>hx.Az)))
def instB (l:qv) (d:qf) (x:qp):Bool:=inI x.Bp 0 ((l.Ap.length:Int)-1)&&(((x.Ai.length:Int)==((gt l.Ap x.Bp.toNat).Ay.length:Int))&&x.Ai.all (netB d))
theorem qrE {d:qf} {l:qv} {x:qp} (hn:d.Ai.length≤1048576) (hc:l.Ap.length≤1048576) (hx:x.Ai.length≤1048576):Ev (fun n=>qd1 n d l x) (instB l d x):=by
 simp only [qd1,qgp,jd,qde,qdl (show l.Ap.length≤9223372036854775807 by omega)]
 unfold instB
 refine Ev.andP fun hI=>?_
 rw [qaX] at hI
 rw [qfd hI.1 (by omega)]
 simp only [jd]
 refine Ev.andP fun _=>Ev.bind (b:=x.Ai.any fun y=>!netB d y) ?_ (Ev.now (by rw [qor]))
 unfold qaP
 exact Ev.bind (b:=ixL (fun y=>!netB d y) x.Ai) (qeo (fin:=(x.Ai.length:Int)) (Lf:=qI x.Ai d) (pf:=fun n y=>qdj n y d) (fun y _=>⟨0,fun n _=>by simp only [qdj,qrd hn,jd]⟩)
   (fun n=>by simp only [qI,qk (je _),cond_false])
   (fun n j y hx=>by
    have hj:=(List.getElem?_eq_some_iff.1 hx).1
    simp only [qI,qj hj,cond_true,qaq hx,jd,wS j])
   (fun n=>by unfold qa3;congr 1;funext o;cases o<;>rfl)) (Ev.now (by rw [qmw]))
def portB (d:qf) (p:qar):Bool:=inI p.Bs 1 2&&netB d p.Bu
theorem qyB {x:Int}:inI x 1 2=((x==1) || (x==2)):=by
 unfold inI;rw [jj];simp;omega
def lastN (x:qp):Int:=at0 x.Ai (x.Ai.length-1)
theorem qtl {x:qp} (h1:1≤x.Ai.length) (h2:x.Ai.length≤1048576):idx x.Ai (W64 ((x.Ai.length:Int)-1))=some (lastN x):=by
 rw [qdl (by omega),show ((x.Ai.length:Int)-1)=((x.Ai.length-1:Nat):Int) by omega,qam (by omega)];rfl
theorem qvX {d:qf} {x:qp} (h1:1≤x.Ai.length) (h:x.Ai.all (netB d)=true):0≤lastN x∧lastN x<d.Ai.length:=by
 rw [qgT (d:=0),qap] at h
 have:=h (x.Ai.length-1) (by omega)
 unfold netB at this
 rw [qaX] at this
 unfold lastN at0
 omega
theorem qqZ {l:qv} {d:qf} {x:qp} (hl:libB l=true) (h:instB l d x=true):1≤x.Ai.length∧0≤lastN x∧lastN x<d.Ai.length:=by
 unfold instB at h
 simp only [jf,qaX,beq_iff_eq] at h
 obtain ⟨h1,h2,h3⟩:=h
 unfold libB at hl
 simp only [jf] at hl
 have hc:=hl.1
 rw [qiP,qap] at hc
 have:=qgV (qi9 (hc x.Bp.toNat (by omega)))
 have h4:1≤x.Ai.length:=by omega
 exact ⟨h4,qvX h4 h3⟩
def drvI (d:qf) (k j:Nat):Nat:=cntP (fun i=>lastN (gt d.Ab i)==(k:Int)) j
def drvP (d:qf) (k j:Nat):Nat:=cntP (fun i=>((gt d.Ah i).Bs==1)&&((gt d.Ah i).Bu==(k:Int))) j
def drvB (d:qf):Bool:=allN (fun k=>((drvI d k d.Ab.length+drvP d k d.Ah.length:Nat):Int)==1) d.Ai.length
def designB (l:qv) (d:qf):Bool:=(libB l&&hasNamesB d)&&(d.Ab.all (instB l d)&&(d.Ah.all (portB d)&&drvB d))
theorem qpt {d:qf} {k j:Nat}:drvI d k (j+1)=drvI d k j+(bif lastN (gt d.Ab j)==(k:Int) then 1 else 0):=rfl
theorem qnE {d:qf} {k j:Nat}:drvP d k (j+1)=drvP d k j+(bif ((gt d.Ah j).Bs==1)&&((gt d.Ah j).Bu==(k:Int)) then 1 else 0):=rfl
theorem qs3 {l:qv} {d:qf} (h:qh3 l) (hd:qkq d):Ev (fun n=>qjn n l d) (designB l d):=by
 have hli:=hd.Ab.len
 have hlp:=hd.Ah.len
 have hln:=hd.Ai.len
 have hlc:=h.Ap.len
 unfold qjn designB
 refine Ev.guardB (Ev.or (qsQ h) fun _=>Ev.neg (qty hd)) fun hb=>?_
 rw [jf] at hb
 rw [qnH (m:=d.Ai.length) (by omega)]
 simp only [jd]
 have hL1:Ev (fun n=>qdc l d n (vecC (fun _=>0) d.Ai.length) 0) (bif allN (fun j=>instB l d (gt d.Ab j)) d.Ab.length then .nxt (vecC (fun k=>drvI d k d.Ab.length) d.Ai.length,(d.Ab.length:Int)) else .ret false):=by
  refine loopN (Lf:=qdc l d) (S:=fun j=>vecC (fun k=>drvI d k j) d.Ai.length) (fun j=>instB l d (gt d.Ab j)) (fun n=>?_) (fun j hj hp X hX=>?_)
  ·simp only [qdc,qk (je _),cond_false]
  ·simp only [qdc,qj hj,cond_true,qA hj,jd,wS j]
   have hxl:=(qnp hd.Ab hj).Ai.len
   refine Ev.chk1 (qrE hln hlc hxl) fun hi=>?_
   obtain ⟨h1,h2,h3⟩:=qqZ hb.1 hi
   have hc:drvI d (lastN (gt d.Ab j)).toNat j≤j:=qfP
   obtain ⟨e1,e2⟩:=qlU (c:=fun k=>drvI d k j) (c':=fun k=>drvI d k (j+1)) h2 h3 (by show drvI _ _ _<_;omega) (fun k _=>qpt)
   simp only [qtl h1 hxl,jd,e1,e2]
   exact hX hi
 have hL2:Ev (fun n=>qcs d n (vecC (fun k=>drvI d k d.Ab.length) d.Ai.length) 0) (bif allN (fun j=>portB d (gt d.Ah j)) d.Ah.length then .nxt (vecC (fun k=>drvI d k d.Ab.length+drvP d k d.Ah.length) d.Ai.length,(d.Ah.length:Int)) else .ret false):=by
  refine loopN (Lf:=qcs d) (S:=fun j=>vecC (fun k=>drvI d k d.Ab.length+drvP d k j) d.Ai.length) (fun j=>portB d (gt d.Ah j)) (fun n=>?_) (fun j hj hp X hX=>?_)
  ·simp only [qcs,qk (je _),cond_false]
  ·simp only [qcs,qj hj,cond_true,qA hj,jd,qrd hln,bne,wS j]
   refine Ev.chkT1 ?_ fun hi=>?_
   ·unfold portB
    rw [qyB]
    cases ((gt d.Ah j).Bs==1)<;>cases ((gt d.Ah j).Bs==2)<;>exact .done
   ·have hX:=hX hi
    unfold portB netB at hi
    simp only [jf,qaX] at hi
    have hc1:drvI d (gt d.Ah j).Bu.toNat d.Ab.length≤d.Ab.length:=qfP
    have hc2:drvP d (gt d.Ah j).Bu.toNat j≤j:=qfP
    cases h1:((gt d.Ah j).Bs==1)
    ·have:vecC (fun k=>drvI d k d.Ab.length+drvP d k (j+1)) d.Ai.length=vecC (fun k=>drvI d k d.Ab.length+drvP d k j) d.Ai.length:=by
      refine qku (fun k _=>?_)
      rw [qnE,h1];rfl
     rw [this] at hX
     exact hX
    ·obtain ⟨e1,e2⟩:=qlU (c:=fun k=>drvI d k d.Ab.length+drvP d k j) (c':=fun k=>drvI d k d.Ab.length+drvP d k (j+1)) (x:=(gt d.Ah j).Bu) (m:=d.Ai.length) hi.2.1 (by omega) (by show drvI _ _ _+drvP _ _ _<_;omega) (fun k _=>by rw [qnE,h1,jx];omega)
     simp only [cond_true,jd,e1,e2]
     exact hX
 rw [qiP,qiP]
 refine Ev.bind hL1 ?_
 cases allN (fun j=>instB l d (gt d.Ab j)) d.Ab.length
 ·exact .done
 ·refine Ev.bind hL2 ?_
  cases allN (fun j=>portB d (gt d.Ah j)) d.Ah.length
  ·exact .done
  ·simp only [cond_true,jx]
   unfold qbN
   refine Ev.bind (b:=(vecC (fun k=>drvI d k d.Ab.length+drvP d k d.Ah.length) d.Ai.length).any fun x=>!(x==1)) (Ev.bind (b:=ixL (fun x=>!(x==1)) (vecC (fun k=>drvI d k d.Ab.length+drvP d k d.Ah.length) d.Ai.length)) (qeo (fin:=(((vecC (fun k=>drvI d k d.Ab.length+drvP d k d.Ah.length) d.Ai.length).length:Nat):Int)) (Lf:=qal (vecC (fun k=>drvI d k d.Ab.length+drvP d k d.Ah.length) d.Ai.length)) (pf:=fun n y=>qjV n y) (fun y _=>.done)
    (fun n=>by simp only [qal,qk (je _),cond_false])
    (fun n j y hx=>by
     have hj:=(List.getElem?_eq_some_iff.1 hx).1
     have:j<d.Ai.length:=by rw [qnu] at hj;exact hj
     simp only [qal,qj hj,cond_true,qaq hx,jd,wS j])
    (fun n=>by unfold qb2;congr 1;funext o;cases o<;>rfl)) (Ev.now (by rw [qmw]))) (Ev.now ?_)
   rw [qor,qgT (d:=0),qnu]
   unfold drvB
   congr 1
   exact qh4 (fun k hk=>by
    have:=qtc (c:=fun k=>drvI d k d.Ab.length+drvP d k d.Ah.length) hk
    unfold at0 at this
    rw [this])
theorem qtw {l:qv} {d:qf} (h:qh3 l) (hd:qkq d):Ev (fun n=>qjg n l d) (d.Ab.all (instB l d)&&d.Ah.all (portB d)):=by
 have hli:=hd.Ab.len
 have hlp:=hd.Ah.len
 have hln:=hd.Ai.len
 have hlc:=h.Ap.len
 have hL2:∀ x:qp,x.Ai.length≤1048576→Ev (fun n=>qea d x n 0) (bif x.Ai.all (netB d) then .nxt (x.Ai.length:Int) else .ret false):=fun x hx =>
  qoD (fun n=>by simp only [qea,qk (je _),cond_false]) (fun j hj X hX=>by
   simp only [qea,qj hj,cond_true,qik hj,jd,qpB hln,wS j,qbS]
   exact Ev.okP1 fun _=>hX)
 have hL1:Ev (fun n=>qd6 l d n 0) (bif allN (fun j=>instB l d (gt d.Ab j)) d.Ab.length then .nxt (d.Ab.length:Int) else .ret false):=by
  refine qdL ?_ (fun j hj X hX=>Ev.succ ?_)
  ·exact Ev.succ (by simp only [qd6,qk (je _),cond_false];exact .done)
  ·simp only [qd6,qj hj,cond_true,qA hj,jd,qcF,qdl (show l.Ap.length≤9223372036854775807 by omega),wS j,bne]
   have hxl:=(qnp hd.Ab hj).Ai.len
   unfold instB
   rw [←Bool.and_assoc]
   refine Ev.chkT ?_ fun _=>Ev.bind (hL2 _ hxl) ?_
   ·simp only [qbS]
    refine Ev.orBP fun hI=>?_
    rw [qaX] at hI
    rw [qfd hI.1 (by omega)]
    exact .done
   ·cases (gt d.Ab j).Ai.all (netB d)
    ·exact .done
    ·exact hX
 have hL3:Ev (fun n=>qd8 d n 0) (bif allN (fun j=>portB d (gt d.Ah j)) d.Ah.length then .nxt (d.Ah.length:Int) else .ret false):=by
  refine qdL ?_ (fun j hj X hX=>Ev.succ ?_)
  ·exact Ev.succ (by simp only [qd8,qk (je _),cond_false];exact .done)
  ·simp only [qd8,qj hj,cond_true,qA hj,jd,qpB hln,wS j]
   simp only [qcF,jd,qbS]
   unfold portB
   exact Ev.okP fun _=>Ev.okP1 fun _=>hX
 unfold qjg
 rw [qiP,qiP]
 refine Ev.bind hL1 ?_
 cases allN (fun j=>instB l d (gt d.Ab j)) d.Ab.length
 ·exact .done
 ·refine Ev.bind hL3 ?_
  cases allN (fun j=>portB d (gt d.Ah j)) d.Ah.length<;>exact .done
theorem qsP {l:qv} {d:qf} (h:qh3 l) (hd:qkq d):Ev (fun n=>qjm n l d) (designB l d):=by
 have hli:=hd.Ab.len
 have hlp:=hd.Ah.len
 have hln:=hd.Ai.len
 have hlc:=h.Ap.len
 have e:designB l d=((libB l&&(decide (d.Ab.length≤14)&&(decide (d.Ai.length≤30)&&(decide (d.Ah.length≤8)&&(d.Ab.all (instB l d)&&d.Ah.all (portB d))))))&&((namesB (d.Ab.map qp.Az)&&(namesB (d.Ah.map qar.Az)&&namesB d.Ai))&&drvB d)):=by
  unfold designB hasNamesB
  generalize libB l=a1
  generalize decide (d.Ab.length≤14)=a2
  generalize decide (d.Ai.length≤30)=a3
  generalize decide (d.Ah.length≤8)=a4
  generalize d.Ab.all (instB l d)=a5
  generalize d.Ah.all (portB d)=a6
  generalize namesB (d.Ab.map qp.Az)=a7
  generalize namesB (d.Ah.map qar.Az)=a8
  generalize namesB d.Ai=a9
  generalize drvB d=a10
  rw [jj]
  simp only [jf]
  constructor
  ·rintro ⟨⟨h1,⟨h2,h3,h4⟩,h7,h9,h8⟩,h5,h6,h10⟩
   exact ⟨⟨h1,h2,h3,h4,h5,h6⟩,⟨h7,h8,h9⟩,h10⟩
  ·rintro ⟨⟨h1,h2,h3,h4,h5,h6⟩,⟨h7,h8,h9⟩,h10⟩
   exact ⟨⟨h1,⟨h2,h3,h4⟩,h7,h9,h8⟩,h5,h6,h10⟩
 rw [e]
 unfold qjm
 refine Ev.guardB ?_ fun hb=>?_
 ·refine Ev.or (qrm h) fun _=>?_
  rw [show decide ((d.Ab.length:Int) > 14) = !decide (d.Ab.length≤14) by rw [jj];simp;omega,show decide ((d.Ai.length:Int) > 30) = !decide (d.Ai.length≤30) by rw [jj];simp;omega,show decide ((d.Ah.length:Int) > 8) = !decide (d.Ah.length≤8) by rw [jj];simp;omega]
  simp only [qbS]
  exact Ev.orBP fun _=>Ev.orBP fun _=>Ev.orBP fun _=>Ev.neg (qtw h hd)
 ·simp only [jf] at hb
  obtain ⟨hlib,_,_,_,hI,hP⟩:=hb
  rw [qiP,qap] at hI hP
  have hL1:Ev (fun n=>qdd d n ([]:List ByteArray) 0) (d.Ab.map qp.Az,(d.Ab.length:Int)):=by
   refine loopF (Lf:=qdd d) (S:=fun j=>(d.Ab.take j).map qp.Az) (len:=d.Ab.length) (fun n=>?_) (fun j hj X hX=>?_)
   ·simp only [qdd,qk (je _),cond_false,jH]
   ·simpa only [qdd,qj hj,cond_true,qA hj,jd,qlO hj hli,qfT (g:=qp.Az) hj,wS j] using hX
  have hL2:Ev (fun n=>qc3 d n ([]:List ByteArray) 0) (d.Ah.map qar.Az,(d.Ah.length:Int)):=by
   refine loopF (Lf:=qc3 d) (S:=fun j=>(d.Ah.take j).map qar.Az) (len:=d.Ah.length) (fun n=>?_) (fun j hj X hX=>?_)
   ·simp only [qc3,qk (je _),cond_false,jH]
   ·simpa only [qc3,qj hj,cond_true,qA hj,jd,qlO hj hlp,qfT (g:=qar.Az) hj,wS j] using hX
  have hL3:Ev (fun n=>qc5 d n (vecC (fun _=>0) d.Ai.length) 0) (vecC (fun k=>drvI d k d.Ab.length) d.Ai.length,(d.Ab.length:Int)):=by
   refine loopF (Lf:=qc5 d) (S:=fun j=>vecC (fun k=>drvI d k j) d.Ai.length) (len:=d.Ab.length) (fun n=>?_) (fun j hj X hX=>?_)
   ·simp only [qc5,qk (je _),cond_false]
   ·have hxl:=(qnp hd.Ab hj).Ai.len
    obtain ⟨h1,h2,h3⟩:=qqZ hlib (hI j hj)
    have hc:drvI d (lastN (gt d.Ab j)).toNat j≤j:=qfP
    obtain ⟨e1,e2⟩:=qlU (c:=fun k=>drvI d k j) (c':=fun k=>drvI d k (j+1)) h2 h3 (by show drvI _ _ _<_;omega) (fun k _=>qpt)
    simpa only [qc5,qj hj,cond_true,qA hj,jd,wS j,qtl h1 hxl,e1,e2] using hX
  have hL4:Ev (fun n=>qct d n (vecC (fun k=>drvI d k d.Ab.length) d.Ai.length) 0) (vecC (fun k=>drvI d k d.Ab.length+drvP d k d.Ah.length) d.Ai.length,(d.Ah.length:Int)):=by
   refine loopF (Lf:=qct d) (S:=fun j=>vecC (fun k=>drvI d k d.Ab.length+drvP d k j) d.Ai.length) (len:=d.Ah.length) (fun n=>?_) (fun j hj X hX=>?_)
   ·simp only [qct,qk (je _),cond_false]
   ·have hi:=hP j hj
    unfold portB netB at hi
    simp only [jf,qaX] at hi
    have hc1:drvI d (gt d.Ah j).Bu.toNat d.Ab.length≤d.Ab.length:=qfP
    have hc2:drvP d (gt d.Ah j).Bu.toNat j≤j:=qfP
    simp only [qct,qj hj,cond_true,qA hj,jd,wS j]
    cases h1:((gt d.Ah j).Bs==1)
    ·have:vecC (fun k=>drvI d k d.Ab.length+drvP d k (j+1)) d.Ai.length=vecC (fun k=>drvI d k d.Ab.length+drvP d k j) d.Ai.length:=by
      refine qku (fun k _=>?_)
      rw [qnE,h1];rfl
     rw [this] at hX
     exact hX
    ·obtain ⟨e1,e2⟩:=qlU (c:=fun k=>drvI d k d.Ab.length+drvP d k j) (c':=fun k=>drvI d k d.Ab.length+drvP d k (j+1)) (x:=(gt d.Ah j).Bu) (m:=d.Ai.length) hi.2.1 (by omega) (by show drvI _ _ _+drvP _ _ _<_;omega) (fun k _=>by rw [qnE,h1,jx];omega)
     simp only [cond_true,jd,e1,e2]
     exact hX
  have hL5:Ev (fun n=>qd9 (vecC (fun _=>0) d.Ai.length) (vecC (fun k=>drvI d k d.Ab.length+drvP d k d.Ah.length) d.Ai.length) n 0) (bif drvB d then .nxt (d.Ai.length:Int) else .ret false):=by
   refine qdL ?_ (fun j hj X hX=>Ev.succ ?_)
   ·exact Ev.succ (by simp only [qd9,qnu,qk (je _),cond_false];exact .done)
   ·simp only [qd9,qnu,qj hj,cond_true,qkK hj,jd,bne,qbS,wS j]
    exact Ev.okP1 fun _=>hX
  refine Ev.bind hL1 (Ev.bind hL2 ?_)
  refine Ev.guardB (Ev.or (qnr (qnL hd.Ab (fun x hx=>hx.Az))) fun _=>Ev.or (qnr (qnL hd.Ah (fun x hx=>hx.Az))) fun _=>Ev.neg (qnr hd.Ai)) fun _=>?_
  rw [qnH (m:=d.Ai.length) (by omega)]
  simp only [jd]
  refine Ev.bind hL3 (Ev.bind hL4 (Ev.bind hL5 ?_))
  cases drvB d<;>exact .done
end Go.Fw


namespace Go.Fw
open Go
set_option maxRecDepth 100000
theorem qxs {m k:Nat}:decide ((m:Int)<(k:Int)) = !decide (k≤m):=by rw [jj];simp
theorem qxv {m k:Nat}:decide ((m:Int) > (k:Int)) = !decide (m≤k):=by rw [jj];simp
def treeB (w:qT) (j:Nat):Bool:=bif decide (j=0) then (at0 w.Ak j==-1)&&(at0 w.Bt j==0) else inI (at0 w.Ak j) 0 ((j:Int)-1)
def wireB (w:qT) (s:Int):Bool :=
 lenB w.Ak 1 8&&(((w.Bt.length:Int)==(w.Ak.length:Int))&&(((w.Bq.length:Int)==(w.Ak.length:Int))&&(allN (treeB w) w.Ak.length &&
  ((w.Bt.all fun x=>inI x 0 1000)&&((w.Bq.all fun x=>inI x 0 500)&&(((w.Bh.length:Int)==s)&&(w.Bh.all fun x=>inI x 0 ((w.Ak.length:Int)-1))))))))
theorem qvS {w:qT} (hl:w.Ak.length≤1048576) (hr:((w.Bt.length:Int)==(w.Ak.length:Int))=true):Ev (fun n=>qhk n w) (allN (treeB w) w.Ak.length):=by
 rw [beq_iff_eq] at hr
 have hL:Ev (fun n=>qbc w n 0) (bif allN (treeB w) w.Ak.length then .nxt (w.Ak.length:Int) else .ret false):=by
  refine qdL ?_ (fun j hj X hX=>Ev.succ ?_)
  ·exact Ev.succ (by simp only [qbc,qk (je _),cond_false];exact .done)
  ·simp only [qbc,qj hj,cond_true,qam hj,jd,qde,wS j,bne,qbS]
   unfold treeB
   by_cases h0:j=0
   ·subst h0
    rw [show idx w.Bt (0:Int)=some (at0 w.Bt 0) from qam (j:=0) (by omega)]
    simp only [jd]
    refine Ev.tt (by simp) (Ev.okP fun _=>Ev.okP1 fun _=>Ev.ff (by simp) hX)
   ·have e1:decide (j=0)=false:=by simp;omega
    have e2:((j:Int)==0)=false:=by simp;omega
    have e3:decide ((j:Int) > 0)=true:=by simp;omega
    rw [e1,e2,e3,qdl (show j≤9223372036854775807 by omega)]
    simp only [cond_false,cond_true]
    exact Ev.okP1 fun _=>hX
 unfold qhk
 refine Ev.bind hL ?_
 cases allN (treeB w) w.Ak.length<;>exact .done
theorem qvv {w:qT} {s:Int} (h:qoP w):Ev (fun n=>qk7 n w s) (wireB w s):=by
 have hl:=h.Ak.len
 simp only [qk7,qbs,jd,qde,qdl (show w.Ak.length≤9223372036854775807 by omega)]
 unfold wireB
 rw [show inI (w.Ak.length:Int) 1 8=lenB w.Ak 1 8 from qsI (lo:=1) (hi:=8)]
 exact Ev.andP fun _=>Ev.andP fun hr=>Ev.andP fun _=>Ev.and (qvS hl hr) fun _=>Ev.and (qe3 h.Bt.len) fun _=>Ev.and (qe3 h.Bq.len) fun _=>Ev.andP fun _=>Ev.last (qe3 h.Bh.len)
theorem quA {w:qT} {s:Int} (h:qoP w):Ev (fun n=>qlc n w s) (wireB w s):=by
 have hl:=h.Ak.len
 have hsl:=h.Bh.len
 have e:wireB w s=((decide (1≤w.Ak.length)&&(decide (w.Ak.length≤8)&&(((w.Bt.length:Int)==(w.Ak.length:Int))&&(((w.Bq.length:Int)==(w.Ak.length:Int))&&((w.Bh.length:Int)==s)))))&&(allN (fun j=>(inI (at0 w.Bq j) 0 500&&inI (at0 w.Bt j) 0 1000)&&treeB w j) w.Ak.length&&(w.Bh.all fun x=>inI x 0 ((w.Ak.length:Int)-1)))):=by
  unfold wireB lenB
  cases h1:((w.Bt.length:Int)==(w.Ak.length:Int))
  ·simp
  ·cases h2:((w.Bq.length:Int)==(w.Ak.length:Int))
   ·simp
   ·rw [beq_iff_eq] at h1 h2
    rw [qlT,qlT]
    rw [qgT (p:=fun x=>inI x 0 1000) (d:=0),qgT (p:=fun x=>inI x 0 500) (d:=0),show w.Bt.length=w.Ak.length by omega,show w.Bq.length=w.Ak.length by omega]
    show _=(_&&((allN (fun j=>inI (w.Bq.getD j 0) 0 500) _&&allN (fun j=>inI (w.Bt.getD j 0) 0 1000) _&&_)&&_))
    generalize allN (fun j=>inI (w.Bq.getD j 0) 0 500) w.Ak.length=a1
    generalize allN (fun j=>inI (w.Bt.getD j 0) 0 1000) w.Ak.length=a2
    generalize allN (fun j=>treeB w j) w.Ak.length=a3
    generalize ((w.Bh.length:Int)==s)=a4
    generalize decide (1≤w.Ak.length)=a5
    generalize decide (w.Ak.length≤8)=a6
    generalize (w.Bh.all fun x=>inI x 0 ((w.Ak.length:Int)-1))=a7
    cases a1<;>cases a2<;>cases a3<;>cases a4<;>cases a5<;>cases a6<;>rfl
 rw [e]
 unfold qlc
 refine Ev.guardB ?_ fun hb=>?_
 ·rw [show decide ((w.Ak.length:Int)<1) = !decide (1≤w.Ak.length) from qxs (k:=1),show decide ((w.Ak.length:Int) > 8) = !decide (w.Ak.length≤8) from qxv (k:=8)]
  simp only [bne,qbS]
  exact Ev.orBP fun _=>Ev.orBP fun _=>Ev.orBP fun _=>Ev.orBP fun _=>.done
 ·simp only [jf,beq_iff_eq] at hb
  have hL1:Ev (fun n=>qcE w n 0) (bif allN (fun j=>(inI (at0 w.Bq j) 0 500&&inI (at0 w.Bt j) 0 1000)&&treeB w j) w.Ak.length then .nxt (w.Ak.length:Int) else .ret false):=by
   refine qdL ?_ (fun j hj X hX=>Ev.succ ?_)
   ·exact Ev.succ (by simp only [qcE,qk (je _),cond_false];exact .done)
   ·simp only [qcE,qj hj,cond_true,qam hj,qam (show j<w.Bq.length by omega),qam (show j<w.Bt.length by omega),jd,qcF,wS j,bne,qbS]
    refine Ev.chkT (Ev.orBP fun _=>.done) fun _=>?_
    unfold treeB
    by_cases h0:j=0
    ·subst h0
     refine Ev.tt (by simp) (Ev.okP fun _=>Ev.okP1 fun _=>Ev.ff (by simp) hX)
    ·have e1:decide (j=0)=false:=by simp;omega
     have e2:((j:Int)==0)=false:=by simp;omega
     have e3:decide ((j:Int) > 0)=true:=by simp;omega
     rw [e1,e2,e3,qdl (show j≤9223372036854775807 by omega)]
     simp only [cond_false,cond_true]
     exact Ev.okP1 fun _=>hX
  have hL2:Ev (fun n=>qfC w n 0) (bif (w.Bh.all fun x=>inI x 0 ((w.Ak.length:Int)-1)) then .nxt (w.Bh.length:Int) else .ret false) :=
   qoD (fun n=>by simp only [qfC,qk (je _),cond_false]) (fun j hj X hX=>by
    simp only [qfC,qj hj,cond_true,qik hj,jd,qcF,qdl (show w.Ak.length≤9223372036854775807 by omega),wS j,qbS]
    exact Ev.okP1 fun _=>hX)
  refine Ev.bind hL1 ?_
  cases allN (fun j=>(inI (at0 w.Bq j) 0 500&&inI (at0 w.Bt j) 0 1000)&&treeB w j) w.Ak.length
  ·exact .done
  ·refine Ev.bind hL2 ?_
   cases (w.Bh.all fun x=>inI x 0 ((w.Ak.length:Int)-1))<;>exact .done
instance:Inhabited Tplace:=⟨⟨0,0,0,false⟩⟩
instance:Inhabited Tl05Place:=⟨⟨0,0,0,false⟩⟩
def toSp (p:Tplace):Tl05Place:=⟨p.instance_,p.pin,p.net,p.drives⟩
def plX (i:Nat) (x:qp) (j:Nat):List Tplace:=(List.range j).map fun (k:Nat)=>⟨(i:Int),(k:Int),at0 x.Ai k,decide (k+1=x.Ai.length)⟩
def plI (d:qf) (j:Nat):List Tplace:=(List.range j).flatMap fun (i:Nat)=>plX i (gt d.Ab i) (gt d.Ab i).Ai.length
def plP (d:qf) (j:Nat):List Tplace:=(List.range j).map fun (i:Nat)=>⟨-1,(i:Int),(gt d.Ah i).Bu,(gt d.Ah i).Bs==1⟩
def places (d:qf):List Tplace:=plI d d.Ab.length++plP d d.Ah.length
theorem qtq {i:Nat} {x:qp} {j:Nat}:plX i x (j+1)=plX i x j++[⟨(i:Int),(j:Int),at0 x.Ai j,decide (j+1=x.Ai.length)⟩]:=by
 unfold plX;rw [List.range_succ,jS];rfl
theorem qnd {d:qf} {j:Nat}:plI d (j+1)=plI d j++plX j (gt d.Ab j) (gt d.Ab j).Ai.length:=by
 unfold plI;rw [List.range_succ,List.flatMap_append];simp
theorem qtx {d:qf} {j:Nat}:plP d (j+1)=plP d j++[⟨-1,(j:Int),(gt d.Ah j).Bu,(gt d.Ah j).Bs==1⟩]:=by
 unfold plP;rw [List.range_succ,jS];rfl
theorem qqr {i:Nat} {x:qp} {j:Nat}:(plX i x j).length=j:=by simp [plX]
theorem qqu {d:qf} {j:Nat}:(plP d j).length=j:=by simp [plP]
structure smallD (d:qf):Prop where
 ni:d.Ab.length≤14
 nn:d.Ai.length≤30
 np:d.Ah.length≤8
 nx:∀ i,i<d.Ab.length→2≤(gt d.Ab i).Ai.length∧(gt d.Ab i).Ai.length≤5
theorem qab {l:qv} {d:qf} (h:designB l d=true):smallD d:=by
 unfold designB hasNamesB libB at h
 simp only [jf,decide_eq_true_eq] at h
 obtain ⟨⟨⟨hc,_⟩,⟨h1,h2,h3⟩,_⟩,hI,_⟩:=h
 refine ⟨h1,h2,h3,fun i hi=>?_⟩
 rw [qiP,qap] at hI hc
 have:=hI i hi
 unfold instB at this
 simp only [jf,qaX,beq_iff_eq] at this
 have h5:=qgV (qi9 (hc (gt d.Ab i).Bp.toNat (by omega)))
 omega
theorem qoV {d:qf} (h:smallD d) {j:Nat} (hj:j≤d.Ab.length):(plI d j).length≤5*j:=by
 induction j with
 | zero=>exact je _
 | succ j ih =>
  rw [qnd,jh,qqr]
  have:=ih (by omega)
  have:=h.nx j (by omega)
  omega
theorem qbi {d:qf} (h:smallD d):(places d).length≤78:=by
 unfold places
 rw [jh,qqu]
 have:=qoV h (je _)
 have:=h.ni
 have:=h.np
 omega
theorem qnK {d:qf} (h:smallD d):Ev (fun n=>qcj n d) (places d):=by
 have h1:=h.ni
 have h2:=h.np
 have hL2:∀ i,i<d.Ab.length→∀ pre:List Tplace,pre.length≤100→Ev (fun n=>qbK (i:Int) (gt d.Ab i) n pre 0) (pre++plX i (gt d.Ab i) (gt d.Ab i).Ai.length,((gt d.Ab i).Ai.length:Int)):=by
  intro i hi pre hp
  have h5:=h.nx i hi
  have:=loopF (Lf:=qbK (i:Int) (gt d.Ab i)) (S:=fun j=>pre++plX i (gt d.Ab i) j) (len:=(gt d.Ab i).Ai.length) (fin:=(pre++plX i (gt d.Ab i) (gt d.Ab i).Ai.length,((gt d.Ab i).Ai.length:Int))) (fun n=>by
    simp only [qbK,qk (je _),cond_false])
   (fun j hj X hX=>by
    have hc:(pre++plX i (gt d.Ab i) j).length+[(⟨(i:Int),(j:Int),at0 (gt d.Ab i).Ai j,decide (j+1=(gt d.Ab i).Ai.length)⟩:Tplace)].length≤2147483648:=by
     rw [jh,qqr];simp;omega
    simp only [qbK,qj hj,cond_true,qam hj,jd,lastE hj (show (gt d.Ab i).Ai.length≤1048576 by omega),qcZ hc,js,←qtq,wS j]
    exact hX)
  simpa [plX] using this
 have hL1:Ev (fun n=>qbI d n ([]:List Tplace) 0) (plI d d.Ab.length,(d.Ab.length:Int)):=by
  refine loopF (Lf:=qbI d) (S:=fun j=>plI d j) (len:=d.Ab.length) (fun n=>?_) (fun j hj X hX=>?_)
  ·simp only [qbI,qk (je _),cond_false]
  ·simp only [qbI,qj hj,cond_true,qA hj,jd,wS j]
   refine Ev.bind (hL2 j hj _ (by have:=qoV h (Nat.le_of_lt hj);omega)) ?_
   rw [←qnd]
   exact hX
 have hL3:Ev (fun n=>qbJ d n (plI d d.Ab.length) 0) (places d,(d.Ah.length:Int)):=by
  have:=loopF (Lf:=qbJ d) (S:=fun j=>plI d d.Ab.length++plP d j) (len:=d.Ah.length) (fin:=(places d,(d.Ah.length:Int))) (fun n=>by
    simp only [qbJ,qk (je _),cond_false];rfl)
   (fun j hj X hX=>by
    have hc:(plI d d.Ab.length++plP d j).length+[(⟨-1,(j:Int),(gt d.Ah j).Bu,(gt d.Ah j).Bs==1⟩:Tplace)].length≤2147483648:=by
     rw [jh,qqu];have:=qoV h (je _);simp;omega
    simp only [qbJ,qj hj,cond_true,qA hj,jd,qcZ hc,js,←qtx,wS j]
    exact hX)
  simpa [plP] using this
 unfold qcj
 exact Ev.bind hL1 (Ev.bind hL3 .done)
theorem qh1 {d:qf} (h:smallD d):Ev (fun n=>qcd n d) ((places d).map toSp):=by
 have h1:=h.ni
 have h2:=h.np
 have hL2:∀ i,i<d.Ab.length→∀ pre:List Tplace,pre.length≤100→Ev (fun n=>qcK (i:Int) (gt d.Ab i) n (pre.map toSp) 0) ((pre++plX i (gt d.Ab i) (gt d.Ab i).Ai.length).map toSp,((gt d.Ab i).Ai.length:Int)):=by
  intro i hi pre hp
  have h5:=h.nx i hi
  have:=loopF (Lf:=qcK (i:Int) (gt d.Ab i)) (S:=fun j=>(pre++plX i (gt d.Ab i) j).map toSp) (len:=(gt d.Ab i).Ai.length) (fin:=((pre++plX i (gt d.Ab i) (gt d.Ab i).Ai.length).map toSp,((gt d.Ab i).Ai.length:Int))) (fun n=>by
    simp only [qcK,qk (je _),cond_false])
   (fun j hj X hX=>by
    have hc:((pre++plX i (gt d.Ab i) j).map toSp).length+[(⟨(i:Int),(j:Int),at0 (gt d.Ab i).Ai j,decide (j+1=(gt d.Ab i).Ai.length)⟩:Tl05Place)].length≤2147483648:=by
     rw [jv,jh,qqr];simp;omega
    simp only [qcK,qj hj,cond_true,qam hj,jd,lastE hj (show (gt d.Ab i).Ai.length≤1048576 by omega),qcZ hc,wS j]
    rw [qtq,←js,jS] at hX
    exact hX)
  simpa [plX] using this
 have hL1:Ev (fun n=>qcL d n ([]:List Tl05Place) 0) ((plI d d.Ab.length).map toSp,(d.Ab.length:Int)):=by
  refine loopF (Lf:=qcL d) (S:=fun j=>(plI d j).map toSp) (len:=d.Ab.length) (fun n=>?_) (fun j hj X hX=>?_)
  ·simp only [qcL,qk (je _),cond_false]
  ·simp only [qcL,qj hj,cond_true,qA hj,jd,wS j]
   refine Ev.bind (hL2 j hj _ (by have:=qoV h (Nat.le_of_lt hj);omega)) ?_
   rw [←qnd]
   exact hX
 have hL3:Ev (fun n=>qcD d n ((plI d d.Ab.length).map toSp) 0) ((places d).map toSp,(d.Ah.length:Int)):=by
  have:=loopF (Lf:=qcD d) (S:=fun j=>(plI d d.Ab.length++plP d j).map toSp) (len:=d.Ah.length) (fin:=((places d).map toSp,(d.Ah.length:Int))) (fun n=>by
    simp only [qcD,qk (je _),cond_false];rfl)
   (fun j hj X hX=>by
    have hc:((plI d d.Ab.length++plP d j).map toSp).length+[(⟨-1,(j:Int),(gt d.Ah j).Bu,(gt d.Ah j).Bs==1⟩:Tl05Place)].length≤2147483648:=by
     rw [jv,jh,qqu];have:=qoV h (je _);simp;omega
    simp only [qcD,qj hj,cond_true,qA hj,jd,qcZ hc,wS j]
    rw [qtx,←js,jS] at hX
    exact hX)
  simpa [plP] using this
 unfold qcd
 exact Ev.bind hL1 (Ev.bind hL3 .done)
def snkQ (d:qf) (k:Int) (i:Nat):Bool:=((gt (places d) i).net==k)&&!(gt (places d) i).drives
def sinksL (d:qf) (k:Int) (j:Nat):List Int:=((List.range j).filter (snkQ d k)).map fun (i:Nat)=>(i:Int)
def snkN (d:qf) (k:Int):Nat:=cntP (snkQ d k) (places d).length
theorem qjB {d:qf} {k:Int} {j:Nat}:sinksL d k (j+1)=sinksL d k j++(bif snkQ d k j then [(j:Int)] else []):=by
 unfold sinksL
 rw [List.range_succ,List.filter_append,jS]
 congr 1
 cases h:snkQ d k j<;>simp [h]
theorem qi1 {d:qf} {k:Int} {j:Nat}:(sinksL d k j).length=cntP (snkQ d k) j:=by
 induction j with
 | zero=>rfl
 | succ j ih =>
  rw [qjB,jh,ih]
  show _=cntP (snkQ d k) j+_
  congr 1
  cases snkQ d k j<;>rfl
theorem qpz {α β:Type} [Inhabited α] [Inhabited β] {xs:List α} {g:α→β} {j:Nat} (h:j<xs.length):gt (xs.map g) j=g (gt xs j):=by
 rw [qfH (by simpa using h),qfH h];simp
theorem qm2 {d:qf} {k:Int} (h:smallD d):Ev (fun n=>qgj n d k) (sinksL d k (places d).length):=by
 have hl:=qbi h
 have hL:Ev (fun n=>qcv k ((places d).map toSp) n ([]:List Int) 0) (sinksL d k (places d).length,((places d).length:Int)):=by
  refine loopF (Lf:=qcv k ((places d).map toSp)) (S:=fun j=>sinksL d k j) (len:=(places d).length) (fun n=>?_) (fun j hj X hX=>?_)
  ·simp only [qcv,jv,qk (je _),cond_false]
  ·have hj':j<((places d).map toSp).length:=by simpa using hj
   have hc:(sinksL d k j).length+[(j:Int)].length≤2147483648:=by
    rw [qi1]
    have:cntP (snkQ d k) j≤j:=qfP
    simp;omega
   simp only [qcv,qj hj',cond_true,qA hj',qpz hj,jd,wS j]
   rw [show ∀ p:Tplace,(toSp p).net=p.net from fun _=>rfl,show ∀ p:Tplace,(toSp p).drives=p.drives from fun _=>rfl]
   refine Ev.bind (b:=snkQ d k j) (Ev.andP fun _=>.done) ?_
   rw [qjB] at hX
   cases hq:snkQ d k j
   ·rw [hq] at hX
    simp only [cond_false,List.append_nil] at hX ⊢
    exact hX
   ·rw [hq] at hX
    simp only [cond_true,qcZ hc,jd] at hX ⊢
    exact hX
 unfold qgj
 exact Ev.bind (qh1 h) (Ev.bind hL .done)
theorem qmj {l:qv} {d:qf} (h:designB l d=true) {i:Nat} (hi:i<(places d).length):0≤(gt (places d) i).net∧(gt (places d) i).net<d.Ai.length:=by
 unfold designB at h
 simp only [jf] at h
 obtain ⟨_,hI,hP,_⟩:=h
 rw [qiP,qap] at hI hP
 have hm:gt (places d) i ∈ places d:=by rw [qfH hi];exact jp hi
 generalize gt (places d) i=p at hm
 unfold places at hm
 rcases List.mem_append.1 hm with hm|hm
 ·unfold plI at hm
  obtain ⟨i,hi,hm⟩:=List.mem_flatMap.1 hm
  unfold plX at hm
  obtain ⟨k,hk,rfl⟩:=List.mem_map.1 hm
  have:=hI i (List.mem_range.1 hi)
  unfold instB at this
  simp only [jf] at this
  have h3:=this.2.2
  rw [qgT (d:=0),qap] at h3
  have h4:=h3 k (List.mem_range.1 hk)
  unfold netB at h4
  rw [qaX] at h4
  show 0≤at0 _ _∧at0 _ _<_
  unfold at0
  omega
 ·unfold plP at hm
  obtain ⟨i,hi,rfl⟩:=List.mem_map.1 hm
  have:=hP i (List.mem_range.1 hi)
  unfold portB netB at this
  simp only [jf,qaX] at this
  show 0≤(gt d.Ah i).Bu∧(gt d.Ah i).Bu<_
  omega
def blockB (b:qe):Bool:=(designB b.Aq b.Aa&&((b.Ac.length:Int)==(b.Aa.Ai.length:Int)))&&allN (fun j=>wireB (gt b.Ac j) (snkN b.Aa (j:Int))) b.Ac.length
theorem qrj {b:qe} (h:qkT b):Ev (fun n=>qfQ n b) (blockB b):=by
 have hwl:=h.Ac.len
 unfold qfQ blockB
 refine Ev.guardB (Ev.or (qs3 h.Aq h.Aa) fun _=>.done) fun hb=>?_
 rw [jf,beq_iff_eq] at hb
 obtain ⟨hd,hw⟩:=hb
 have hs:=qab hd
 have hl:=qbi hs
 have hn:=hs.nn
 rw [qnH (m:=b.Ac.length) (by omega)]
 simp only [jd]
 have hL1:Ev (fun n=>qcY (places b.Aa) n (vecC (fun _=>0) b.Ac.length) 0) (vecC (fun k=>snkN b.Aa (k:Int)) b.Ac.length,((places b.Aa).length:Int)):=by
  refine loopF (Lf:=qcY (places b.Aa)) (S:=fun j=>vecC (fun k=>cntP (snkQ b.Aa (k:Int)) j) b.Ac.length) (len:=(places b.Aa).length) (fun n=>?_) (fun j hj X hX=>?_)
  ·simp only [qcY,qk (je _),cond_false];rfl
  ·simp only [qcY,qj hj,cond_true,qA hj,jd,wS j]
   obtain ⟨n0,n1⟩:=qmj hd hj
   cases h1:(gt (places b.Aa) j).drives
   ·have hc:cntP (snkQ b.Aa (((gt (places b.Aa) j).net.toNat:Nat):Int)) j≤j:=qfP
    obtain ⟨e1,e2⟩:=qlU (c:=fun k=>cntP (snkQ b.Aa (k:Int)) j) (c':=fun k=>cntP (snkQ b.Aa (k:Int)) (j+1)) (x:=(gt (places b.Aa) j).net) (m:=b.Ac.length) n0 (by omega) (by show cntP _ _<_;omega) (fun k _=>by
     show cntP _ j+(bif snkQ b.Aa (k:Int) j then 1 else 0)=_
     unfold snkQ
     rw [h1,Bool.not_false,Bool.and_true])
    simp only [Bool.not_false,cond_true,jd,e1,e2]
    exact hX
   ·have:vecC (fun k=>cntP (snkQ b.Aa (k:Int)) (j+1)) b.Ac.length=vecC (fun k=>cntP (snkQ b.Aa (k:Int)) j) b.Ac.length:=by
     refine qku (fun k _=>?_)
     show cntP _ j+(bif snkQ b.Aa (k:Int) j then 1 else 0)=_
     unfold snkQ
     rw [h1,Ja,Bool.and_false];rfl
    rw [this] at hX
    exact hX
 have hL2:Ev (fun n=>qeA b (vecC (fun k=>snkN b.Aa (k:Int)) b.Ac.length) n 0) (bif allN (fun j=>wireB (gt b.Ac j) (snkN b.Aa (j:Int))) b.Ac.length then .nxt (b.Ac.length:Int) else .ret false):=by
  refine qdL ?_ (fun j hj X hX=>Ev.succ ?_)
  ·exact Ev.succ (by simp only [qeA,qk (je _),cond_false];exact .done)
  ·simp only [qeA,qj hj,cond_true,qA hj,qkK hj,jd,wS j]
   exact Ev.chk1 (qvv (qnp h.Ac hj)) fun _=>hX
 refine Ev.bind (qnK hs) (Ev.bind hL1 (Ev.bind hL2 ?_))
 cases allN (fun j=>wireB (gt b.Ac j) (snkN b.Aa (j:Int))) b.Ac.length<;>exact .done
theorem qls {b:qe} (h:qkT b):Ev (fun n=>qeT n b) (blockB b):=by
 have hwl:=h.Ac.len
 unfold qeT blockB
 refine Ev.guardB (Ev.or (qsP h.Aq h.Aa) fun _=>.done) fun hb=>?_
 rw [jf] at hb
 have hs:=qab hb.1
 have hL:Ev (fun n=>qeE b n 0) (bif allN (fun j=>wireB (gt b.Ac j) (snkN b.Aa (j:Int))) b.Ac.length then .nxt (b.Ac.length:Int) else .ret false):=by
  refine qdL ?_ (fun j hj X hX=>Ev.succ ?_)
  ·exact Ev.succ (by simp only [qeE,qk (je _),cond_false];exact .done)
  ·simp only [qeE,qj hj,cond_true,qA hj,jd,wS j]
   refine Ev.bind (qm2 hs) ?_
   rw [qi1]
   exact Ev.chk1 (quA (qnp h.Ac hj)) fun _=>hX
 refine Ev.bind hL ?_
 cases allN (fun j=>wireB (gt b.Ac j) (snkN b.Aa (j:Int))) b.Ac.length<;>exact .done
end Go.Fw


namespace Go.Fw
open Go
set_option maxRecDepth 100000
def off (d:qf) (i:Nat):Nat:=(plI d i).length
def place1 (d:qf) (i k:Nat):Tplace:=⟨(i:Int),(k:Int),at0 (gt d.Ab i).Ai k,decide (k+1=(gt d.Ab i).Ai.length)⟩
def place2 (d:qf) (i:Nat):Tplace:=⟨-1,(i:Int),(gt d.Ah i).Bu,(gt d.Ah i).Bs==1⟩
theorem qkB {d:qf} {i:Nat}:off d (i+1)=off d i+(gt d.Ab i).Ai.length:=by
 unfold off;rw [qnd,jh,qqr]
theorem quK {d:qf} {i j:Nat} (h:i≤j):off d i≤off d j:=by
 induction j with
 | zero =>
  obtain rfl:i=0:=by omega
  exact je _
 | succ j ih =>
  rcases Nat.lt_or_eq_of_le h with h|rfl
  ·rw [qkB];have:=ih (by omega);omega
  ·exact je _
theorem qg2 {d:qf}:(places d).length=off d d.Ab.length+d.Ah.length:=by
 unfold places off;rw [jh,qqu]
theorem qyU {d:qf} {n i k:Nat} (hi:i<n) (hk:k<(gt d.Ab i).Ai.length):off d i+k<off d n∧gt (plI d n) (off d i+k)=place1 d i k:=by
 induction n with
 | zero=>omega
 | succ n ih =>
  rw [qnd,qlM]
  rcases Nat.lt_succ_iff_lt_or_eq.1 hi with h|rfl
  ·obtain ⟨h1,h2⟩:=ih h
   refine ⟨by rw [qkB];omega,?_⟩
   rw [if_pos (show off d i+k<(plI d n).length from h1),h2]
  ·refine ⟨by rw [qkB];omega,?_⟩
   rw [if_neg (by unfold off;omega),show off d i+k-(plI d i).length=k by unfold off;omega]
   exact qqA hk
theorem qkp {d:qf} {i k:Nat} (hi:i<d.Ab.length) (hk:k<(gt d.Ab i).Ai.length):off d i+k<(places d).length∧gt (places d) (off d i+k)=place1 d i k:=by
 obtain ⟨h1,h2⟩:=qyU hi hk
 refine ⟨by rw [qg2];omega,?_⟩
 unfold places
 rw [qlM,if_pos (show off d i+k<(plI d d.Ab.length).length from h1),h2]
theorem qr4 {d:qf} {i:Nat} (hi:i<d.Ah.length):off d d.Ab.length+i<(places d).length∧gt (places d) (off d d.Ab.length+i)=place2 d i:=by
 refine ⟨by rw [qg2];omega,?_⟩
 unfold places
 rw [qlM,if_neg (by unfold off;omega),show off d d.Ab.length+i-(plI d d.Ab.length).length=i by unfold off;omega]
 exact qqA hi
theorem qvJ {d:qf} {n j:Nat} (hj:j<off d n):∃ i k,i<n∧k<(gt d.Ab i).Ai.length∧j=off d i+k:=by
 induction n with
 | zero=>exact absurd hj (Nat.not_lt_zero _)
 | succ n ih =>
  by_cases h:j<off d n
  ·obtain ⟨i,k,h1,h2,h3⟩:=ih h
   exact ⟨i,k,by omega,h2,h3⟩
  ·rw [qkB] at hj
   exact ⟨n,j-off d n,by omega,by omega,by omega⟩
theorem qln {d:qf} {j:Nat} (hj:j<(places d).length) :
  (∃ i k,i<d.Ab.length∧k<(gt d.Ab i).Ai.length∧j=off d i+k∧gt (places d) j=place1 d i k) ∨
  (∃ i,i<d.Ah.length∧j=off d d.Ab.length+i∧gt (places d) j=place2 d i):=by
 rw [qg2] at hj
 by_cases h:j<off d d.Ab.length
 ·obtain ⟨i,k,h1,h2,rfl⟩:=qvJ h
  exact .inl ⟨i,k,h1,h2,rfl,(qkp h1 h2).2⟩
 ·refine .inr ⟨j-off d d.Ab.length,by omega,by omega,?_⟩
  have:=(qr4 (d:=d) (i:=j-off d d.Ab.length) (by omega)).2
  rwa [show off d d.Ab.length+(j-off d d.Ab.length)=j by omega] at this
def drvQ (d:qf) (k:Int) (j:Nat):Bool:=((gt (places d) j).net==k)&&(gt (places d) j).drives
theorem qtI {q:Nat→Bool} {m n:Nat}:cntP q (m+n)=cntP q m+cntP (fun j=>q (m+j)) n:=by
 induction n with
 | zero=>rfl
 | succ n ih =>
  show cntP q (m+n)+(bif q (m+n) then 1 else 0)=cntP q m+(cntP (fun j=>q (m+j)) n+(bif q (m+n) then 1 else 0))
  rw [ih];omega
theorem qvb {q:Nat→Bool} {n:Nat} {b:Bool} (h:1≤n) (h1:∀ j,j+1<n→q j=false) (h2:q (n-1)=b):cntP q n=bif b then 1 else 0:=by
 obtain ⟨m,rfl⟩:∃ m,n=m+1:=⟨n-1,by omega⟩
 show cntP q m+(bif q m then 1 else 0)=_
 rw [qnJ.2 (fun j hj=>h1 j (by omega)),show m=m+1-1 by omega,h2,jZ]
theorem qug {d:qf} {k:Nat} (hs:smallD d):cntP (drvQ d (k:Int)) (places d).length=drvI d k d.Ab.length+drvP d k d.Ah.length:=by
 rw [qg2,qtI]
 congr 1
 ·have:∀ n,n≤d.Ab.length→cntP (drvQ d (k:Int)) (off d n)=drvI d k n:=by
   intro n
   induction n with
   | zero=>intro _;rfl
   | succ n ih =>
    intro hn
    rw [qkB,qtI,ih (by omega),qpt]
    congr 1
    have h2:=(hs.nx n (by omega)).1
    refine qvb (by omega) (fun j hj=>?_) ?_
    ·show drvQ d _ (off d n+j)=false
     unfold drvQ
     rw [(qkp (by omega) (by omega)).2]
     unfold place1
     simp;omega
    ·show drvQ d _ (off d n+_)=_
     unfold drvQ
     rw [(qkp (by omega) (by omega)).2]
     unfold place1 lastN
     simp;omega
  exact this _ (je _)
 ·refine qre (fun j hj=>?_)
  show drvQ d _ (off d _+j)=_
  unfold drvQ
  rw [(qr4 hj).2]
  unfold place2
  exact Bool.and_comm _ _
theorem qu7 {l:qv} {d:qf} (h:designB l d=true) {k:Nat} (hk:k<d.Ai.length):cntP (drvQ d (k:Int)) (places d).length=1:=by
 rw [qug (qab h)]
 unfold designB drvB at h
 simp only [jf] at h
 have:=qap.1 h.2.2.2 k hk
 rw [beq_iff_eq] at this
 omega
theorem qtf {l:qv} {d:qf} (h:designB l d=true) {i j:Nat} (hi:i<(places d).length) (hj:j<(places d).length) (he:(gt (places d) i).net=(gt (places d) j).net) (h1:(gt (places d) i).drives=true) (h2:(gt (places d) j).drives=true):i=j:=by
 obtain ⟨n0,n1⟩:=qmj h hi
 have e:=qew n0
 have:=qu7 h (k:=(gt (places d) i).net.toNat) (by omega)
 refine qtn (Nat.le_of_eq this) hi hj ?_ ?_
 ·unfold drvQ;rw [←e,h1];simp
 ·unfold drvQ;rw [←e,h2,he];simp
theorem qyW {l:qv} {d:qf} (h:designB l d=true) {k:Int} (h0:0≤k) (h1:k<d.Ai.length):∃ j,j<(places d).length∧(gt (places d) j).net=k∧(gt (places d) j).drives=true:=by
 have e:=qew h0
 have:=qu7 h (k:=k.toNat) (by omega)
 have hp:decide (0<cntP (drvQ d ((k.toNat:Nat):Int)) (places d).length)=true:=by rw [this];rfl
 rw [qtE,jC,qmf] at hp
 obtain ⟨j,hj,hq⟩:=hp
 rw [Bool.not_eq_false',←e] at hq
 unfold drvQ at hq
 simp only [jf,beq_iff_eq] at hq
 exact ⟨j,hj,hq.1,hq.2⟩
def cellAt (b:qe) (i:Int):qC:=gt b.Aq.Ap (gt b.Aa.Ab i.toNat).Bp.toNat
theorem qhg {l:qv} {d:qf} (h:designB l d=true) {i:Nat} (hi:i<d.Ab.length) :
  (0≤(gt d.Ab i).Bp∧(gt d.Ab i).Bp<l.Ap.length)∧(gt d.Ab i).Ai.length=(gt l.Ap (gt d.Ab i).Bp.toNat).Ay.length∧cellB (gt l.Ap (gt d.Ab i).Bp.toNat)=true:=by
 unfold designB libB at h
 simp only [jf] at h
 obtain ⟨⟨⟨hc,_⟩,_⟩,hI,_⟩:=h
 rw [qiP,qap] at hI hc
 have:=hI i hi
 unfold instB at this
 simp only [jf,qaX,beq_iff_eq] at this
 exact ⟨⟨this.1.1,by omega⟩,by omega,hc _ (by omega)⟩
theorem qnm {c:qC} (h:cellB c=true) {j:Nat} (hj:j<c.Am.length):(1≤(gt c.Am j).As∧(gt c.Am j).As≤5)∧(0≤(gt c.Am j).Be∧(gt c.Am j).Be<(c.Ay.length:Int)-1)∧(0≤(gt c.Am j).To∧(gt c.Am j).To≤(c.Ay.length:Int)-1)∧arcS c.Ay (gt c.Am j)=true:=by
 unfold cellB at h
 simp only [jf] at h
 obtain ⟨_,hp,⟨ha,_⟩,_,_,hk⟩:=h
 have:=qap.1 ha j hj
 rw [jf,qws hp (qsb hk)] at this
 have h1:=this.1
 refine ⟨qr8 h1,?_⟩
 have h2:=h1
 unfold arcS at h2
 simp only [jf,qaX] at h2
 refine ⟨⟨h2.1.1.1,by omega⟩,h2.1.2,h1⟩
theorem qoa {c:qC} (h:cellB c=true):c.Am.length≤8:=by
 unfold cellB at h
 simp only [jf,decide_eq_true_eq] at h
 exact h.2.2.1.2
theorem qat {b:qe} (h:blockB b=true):designB b.Aq b.Aa=true:=by
 unfold blockB at h;simp only [jf] at h;exact h.1.1
end Go.Fw
