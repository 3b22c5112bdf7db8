/- By a program of mine (gen.py): for each function a plain function and the proof that the code computes it. -/
import Derived.Test.YteofoidaapgdkaaGreatDoorA2
import Derived.Test.YteofoidaapgdkaaGreatDoorFw30
open Option renaming bind_some → jd
open Nat renaming le_refl → je, le_of_ble_eq_true → jr, mul_le_mul_right → js, lt_of_lt_of_le → jv, succ_mul → jL, zero_add → Jd, add_zero → Je
open Bool renaming and_eq_true → jf, eq_iff_iff → jk, true_and → jz, not_eq_true' → jG, not_true → jX
open Go.Result renaming andThen_ok → jg
open List renaming length_append → jh, getElem?_eq_getElem → ji, mem_cons_of_mem → jn, getElem_mem → jp, append_assoc → jq, length_singleton → jt, getElem?_append_left → ju, mem_cons_self → jw, length_map → jx, take_succ_eq_append_getElem → jy, getElem?_take → jA, getElem?_append_right → jB, getD_eq_getElem?_getD → jC, getElem?_toArray → jE, take_length → jF, eq_nil_of_length_eq_zero → jI, drop_eq_getElem_cons → jJ, map_append → jK, all_eq_true → jM, not_mem_nil → jN, getElem_of_mem → jO, length_replicate → jP, size_toArray → jQ, mem_append_left → jR, append_nil → jT, mem_of_getElem? → jU, mem_cons → jW, range_succ → Ja, length_take → Jb, ext_getElem → Jc
open Go.Sem renaming run_bind → jj, run_pure → jm
open Int renaming toNat_natCast → jo, tdiv_eq_ediv_of_nonneg → jD, mul_nonneg → jS, mul_assoc → jV, mul_le_mul → jY, le_refl → jZ, add_zero → Jf
open Array renaming getElem?_append_left → jH

namespace Go.Fw
open Go Go.Proofs
open Go.RowKit (Below)
set_option maxRecDepth 100000
set_option maxHeartbeats 1600000
variable {n:Nat} {w:World} {cs1 cs2 cs3 cs4 cs5 cs6 cs7 cs8 cs9:List Value}
def qdL (l:qr) (i1:Int):Nat→Int→Option (Flow Bool Int)
 | 0,_=>none
 | n+1,i2 =>
  bif decide (i2<i1) then
   (idx l.Ap i2).bind fun y2 =>
   (idx l.Ap i1).bind fun y3 =>
   bif (y2.Az.toList==y3.Az.toList) then some (.ret false) else
   qdL l i1 n (W64 (i2+1))
  else
   some (.nxt i2)
def qdA (l:qr):Nat→Int→Option (Flow Bool Int)
 | 0,_=>none
 | n+1,i1 =>
  bif decide (i1<(l.Ap.length:Int)) then
   (idx l.Ap i1).bind fun y1 =>
   (qlt n y1).bind fun r1 =>
   bif (!r1) then some (.ret false) else
   (qdL l i1 n 0).bind fun o=>match o with
   | .ret r=>some (.ret r)
   | .nxt _ =>
    qdA l n (W64 (i1+1))
  else
   some (.nxt i1)
def qiP (n:Nat) (l:qr):Option Bool :=
 (qdA l n 0).bind fun o=>match o with
 | .ret r=>some r
 | .nxt _ =>
  some (decide ((l.Ap.length:Int)≤8))
theorem qox {l:qr} (ha1:GoT.R w (old w) l cs1) {r:Bool} (hF:qiP n l=some r):RetV Tryz.prog 215 [GoT.v qr cs1] w r:=by
 obtain ⟨p1,k1,rfl,s1⟩:=qbG ha1
 refine zV 41 Tryz.func215 rfl fun h=>zSR (qv h rfl rfl fun w1 bb1 h=>X0 7 rfl ?_)
 obtain ⟨o1,hF,hK1⟩:=qd hF
 refine qm (rL (fun m e w'=>∃ (i1:Int),qdA l m i1=some o1∧e=[(1,.pointer (some ⟨bb1,0,none⟩)),(3,.int .i64 i1)]∧SH w w' [Ch.box bb1 [.slice p1 l.Ap.length k1] 46]) n ⟨_,hF,rfl,h⟩ rfl ?_)
 rintro m1 e1 w2 ⟨i1,hF,rfl,h⟩
 rcases m1 with _|m1
 ·cases hF
 refine X1 9 0 h rfl (qh rfl hF ?_ ?_)<;>intro hF
 ·refine X1 9 0 h rfl ?_
  obtain ⟨y1,hy1,hF,he1,b1,_,q1,cs2,hp1,hq1,hr1,hc2⟩:=s1.ix hF
  obtain ⟨p2,k2,p3,k3,p4,k4,rfl,s2,s3,s4⟩:=qae hr1
  refine zxe hp1 hq1 he1 rfl (zc 0 (hc2.below h.below) rfl (zcB h hF (qrm (qkp y1 (h.oldS s2) (h.oldS s3) (h.oldS s4))) rfl fun r1 w3 h hF=>X0 2 rfl (qh rfl hF ?_ ?_)))<;>intro hF
  ·refine X0 4 rfl ?_
   obtain rfl:=qb hF;replace hF:=hK1
   exact rb h hF rfl
  refine X0 5 rfl ?_
  obtain ⟨o2,hF,hK2⟩:=qd hF
  refine qm (rL (fun m e w'=>∃ (i2:Int),qdL l i1 m i2=some o2∧e=[(1,.pointer (some ⟨bb1,0,none⟩)),(3,.int .i64 i1),(4,.int .i64 i2)]∧SH w w' [Ch.box bb1 [.slice p1 l.Ap.length k1] 46]) m1 ⟨_,hF,rfl,h⟩ rfl ?_)
  rintro m2 e2 w4 ⟨i2,hF,rfl,h⟩
  rcases m2 with _|m2
  ·cases hF
  refine X0 7 rfl (qh rfl hF ?_ ?_)<;>intro hF
  ·refine X0 4 rfl (rD (Y1 2 0 h rfl ?_))
   refine zd1 rfl ?_
   obtain ⟨y2,hy2,hF,he2,b2,_,q2,cs3,hp2,hq2,hr3,hc5⟩:=s1.ix hF
   obtain ⟨p5,k5,p6,k6,p7,k7,rfl,s5,s6,s7⟩:=qae hr3
   refine zdxe hp2 hq2 he2 rfl (zd1 rfl (zdc 0 (hc5.below h.below) rfl (Y1 2 0 h rfl ?_)))
   refine zd1 rfl ?_
   obtain ⟨y3,hy3,hF,he3,b3,_,q3,cs4,hp3,hq3,hr4,hc6⟩:=s1.ix hF
   obtain ⟨p8,k8,p9,k9,p10,k10,rfl,s8,s9,s10⟩:=qae hr4
   refine zdxe hp3 hq3 he3 rfl (zd1 rfl (zdc 0 (hc6.below h.below) rfl (zd1 rfl (dN h fun w5 h=>qh rfl hF ?_ ?_))))<;>intro hF
   ·refine X0 4 rfl ?_
    obtain rfl:=qb hF;replace hF:=hK2
    obtain rfl:=qb hF;replace hF:=hK1
    exact rb h hF rfl
   exact X0 7 rfl (rK ⟨_,hF,rfl,h⟩ rfl)
  refine qq rfl ?_
  obtain rfl:=qb hF;replace hF:=hK2
  exact X0 6 rfl (rK ⟨_,hF,rfl,h⟩ rfl)
 refine qq rfl ?_
 obtain rfl:=qb hF;replace hF:=hK1
 exact X1 8 0 h rfl (rb h hF rfl)
def qeu (a_1:qf) (y1:qi):Nat→Int→Option (Flow Bool Int)
 | 0,_=>none
 | n+1,i2 =>
  bif decide (i2<(y1.Ai.length:Int)) then
   (idx y1.Ai i2).bind fun y2 =>
   (qay n y2 0 (W64 ((a_1.Ai.length:Int)-1))).bind fun r1 =>
   bif (!r1) then some (.ret false) else
   qeu a_1 y1 n (W64 (i2+1))
  else
   some (.nxt i2)
def qet (a_1:qf):Nat→Int→Option (Flow Bool Int)
 | 0,_=>none
 | n+1,i3 =>
  bif decide (i3<(a_1.Ah.length:Int)) then
   (idx a_1.Ah i3).bind fun y4 =>
   (qay n y4.Br 1 2).bind fun r3 =>
   bif (!r3) then some (.ret false) else
   (idx a_1.Ah i3).bind fun y5 =>
   (qay n y5.Bt 0 (W64 ((a_1.Ai.length:Int)-1))).bind fun r4 =>
   bif (!r4) then some (.ret false) else
   qet a_1 n (W64 (i3+1))
  else
   some (.nxt i3)
def qen (a_0:qr) (a_1:qf):Nat→Int→Option (Flow Bool Int)
 | 0,_=>none
 | n+1,i1 =>
  bif decide (i1<(a_1.Ab.length:Int)) then
   (idx a_1.Ab i1).bind fun y1 =>
   (
    (qay n y1.Bp 0 (W64 ((a_0.Ap.length:Int)-1))).bind fun r2 =>
    bif (!r2) then some true else
    (idx a_0.Ap y1.Bp).bind fun y3 =>
    some ((y1.Ai.length:Int) != (y3.Au.length:Int))).bind fun b2 =>
   bif b2 then some (.ret false) else
   (qeu a_1 y1 n 0).bind fun o=>match o with
   | .ret r=>some (.ret r)
   | .nxt _ =>
    qen a_0 a_1 n (W64 (i1+1))
  else
   some (.nxt i1)
def qjl (n:Nat) (a_0:qr) (a_1:qf):Option Bool :=
 (qen a_0 a_1 n 0).bind fun o=>match o with
 | .ret r=>some r
 | .nxt _ =>
  (qet a_1 n 0).bind fun o=>match o with
  | .ret r=>some r
  | .nxt _ =>
   some true
theorem qo7 {a_0:qr} {a_1:qf} (ha1:GoT.R w (old w) a_0 cs1) (ha2:GoT.R w (old w) a_1 cs2) {r:Bool} (hF:qjl n a_0 a_1=some r):RetV Tryz.prog 216 [GoT.v qr cs1,GoT.v qf cs2] w r:=by
 obtain ⟨p1,k1,rfl,s1⟩:=qbG ha1
 obtain ⟨p2,k2,p3,k3,p4,k4,rfl,s2,s3,s4⟩:=qaA ha2
 refine zV 90 Tryz.func216 rfl fun h=>zSR (qv h rfl rfl fun w1 bb1 h=>qv h rfl rfl fun w2 bb2 h=>X1 14 0 h rfl ?_)
 obtain ⟨o1,hF,hK1⟩:=qd hF
 refine qm (rL (fun m e w'=>∃ (i1:Int),qen a_0 a_1 m i1=some o1∧e=[(2,.pointer (some ⟨bb1,0,none⟩)),(3,.pointer (some ⟨bb2,0,none⟩)),(5,.int .i64 (a_1.Ai.length:Int)),(6,.int .i64 i1)]∧SH w w' [Ch.box bb2 (qaQ a_1 p2 p3 p4 k2 k3 k4) 50,Ch.box bb1 [.slice p1 a_0.Ap.length k1] 46]) n ⟨_,hF,rfl,h⟩ rfl ?_)
 rintro m1 e1 w3 ⟨i1,hF,rfl,h⟩
 rcases m1 with _|m1
 ·cases hF
 refine X1 9 0 h rfl (qh rfl hF ?_ ?_)<;>intro hF
 ·refine X1 8 0 h rfl ?_
  obtain ⟨y1,hy1,hF,he1,b1,_,q1,cs3,hp1,hq1,hr1,hc2⟩:=s2.ix hF
  obtain ⟨p5,k5,rfl,s5⟩:=qO hr1
  refine zxe hp1 hq1 he1 rfl (zc 0 (hc2.below h.below) rfl (qp qa h rfl rfl rfl fun w4 bb3 h=>zs 0 h rfl fun w5 h=>zNSS ?_))
  obtain ⟨KF1,hKF1,o3,hF,hK3⟩:=bindE hF
  refine qba (fun e w'=>∃ (b2:Bool),KF1 b2=some o1∧e=[(2,.pointer (some ⟨bb1,0,none⟩)),(3,.pointer (some ⟨bb2,0,none⟩)),(5,.int .i64 (a_1.Ai.length:Int)),(6,.int .i64 i1),(7,.pointer (some ⟨bb3,0,none⟩)),(46,.bool b2)]∧SH w w' [Ch.box bb3 (qjU y1 p5 k5) 174,Ch.box bb2 (qaQ a_1 p2 p3 p4 k2 k3 k4) 50,Ch.box bb1 [.slice p1 a_0.Ap.length k1] 46]) ?_ ?_
  ·refine rD (Y1 2 0 h rfl ?_)
   refine Y1 2 2 h rfl ?_
   refine zd2 rfl ?_
   obtain ⟨r2,hr4,hF⟩:=qd hF
   refine qbm r2 (vsB _) (cB 84 rfl) (fun _ hb=>qak  hr4) rfl rfl rfl rfl (zd2 rfl (qa6 (t:=33) hF rfl ?_ ?_))<;>intro hF
   ·refine Y0 13 rfl (dN h fun w8 h=>?_)
    obtain rfl:=qb hF
    exact rG ⟨_,hK3,rfl,h⟩ rfl
   refine Y1 4 0 h rfl ?_
   refine Y1 6 2 h rfl ?_
   refine Y1 4 0 h rfl ?_
   refine Y0 1 rfl ?_
   obtain ⟨y3,hy3,hF,he3,b4,_,q3,cs5,hp3,hq3,hr5,hc7⟩:=s1.ix hF
   obtain ⟨p6,k6,p7,k7,p8,k8,rfl,s6,s7,s8⟩:=qae hr5
   refine zdxe hp3 hq3 he3 rfl (Y0 3 rfl (zdc 2 (hc7.below h.below) rfl (Y0 5 rfl (dN h fun w9 h=>?_))))
   obtain rfl:=qb hF
   exact rG ⟨_,hK3,rfl,h⟩ rfl
  rintro e3 w10 ⟨b2,hF,rfl,h⟩
  subst hKF1
  refine qh rfl hF ?_ ?_<;>intro hF
  ·refine X0 4 rfl ?_
   obtain rfl:=qb hF;replace hF:=hK1
   exact rb h hF rfl
  refine X0 5 rfl ?_
  obtain ⟨o2,hF,hK2⟩:=qd hF
  refine qm (rL (fun m e w'=>∃ (i2:Int),qeu a_1 y1 m i2=some o2∧e=[(2,.pointer (some ⟨bb1,0,none⟩)),(3,.pointer (some ⟨bb2,0,none⟩)),(5,.int .i64 (a_1.Ai.length:Int)),(6,.int .i64 i1),(7,.pointer (some ⟨bb3,0,none⟩)),(8,.int .i64 i2)]∧SH w w' [Ch.box bb3 (qjU y1 p5 k5) 174,Ch.box bb2 (qaQ a_1 p2 p3 p4 k2 k3 k4) 50,Ch.box bb1 [.slice p1 a_0.Ap.length k1] 46]) m1 ⟨_,hF,rfl,h⟩ rfl ?_)
  rintro m2 e2 w6 ⟨i2,hF,rfl,h⟩
  rcases m2 with _|m2
  ·cases hF
  refine X1 9 0 h rfl (qh rfl hF ?_ ?_)<;>intro hF
  ·refine X1 8 0 h rfl ?_
   obtain ⟨y2,hy2,hF,he2,b3,_,q2,cs4,hp2,hq2,rfl,hc5⟩:=s5.ix hF
   refine zxe hp2 hq2 he2 rfl (zc 0 (hc5.below h.below) rfl (zp2 rfl (zcB h hF qak rfl fun r1 w7 h hF=>X0 2 rfl (qh rfl hF ?_ ?_))))<;>intro hF
   ·refine X0 4 rfl ?_
    obtain rfl:=qb hF;replace hF:=hK2
    obtain rfl:=qb hF;replace hF:=hK1
    exact rb h hF rfl
   exact X0 7 rfl (rK ⟨_,hF,rfl,h⟩ rfl)
  refine qq rfl ?_
  obtain rfl:=qb hF;replace hF:=hK2
  refine X0 6 rfl ?_
  replace h:=h.pick [1,2] rfl
  exact rK ⟨_,hF,rfl,h⟩ rfl
 refine qq rfl ?_
 obtain rfl:=qb hF;replace hF:=hK1
 refine X0 5 rfl ?_
 obtain ⟨o4,hF,hK4⟩:=qd hF
 refine qm ?_
 replace h:=h.pick [0] rfl
 refine rL (fun m e w'=>∃ (i3:Int),qet a_1 m i3=some o4∧e=[(3,.pointer (some ⟨bb2,0,none⟩)),(5,.int .i64 (a_1.Ai.length:Int)),(9,.int .i64 i3)]∧SH w w' [Ch.box bb2 (qaQ a_1 p2 p3 p4 k2 k3 k4) 50]) n ⟨_,hF,rfl,h⟩ rfl ?_
 rintro m3 e4 w11 ⟨i3,hF,rfl,h⟩
 rcases m3 with _|m3
 ·cases hF
 refine X1 9 0 h rfl (qh rfl hF ?_ ?_)<;>intro hF
 ·refine X1 8 0 h rfl ?_
  obtain ⟨y4,hy4,hF,he4,b5,_,q4,cs6,hp4,hq4,hr6,hc9⟩:=s4.ix hF
  obtain rfl:=qaS hr6
  refine zxe hp4 hq4 he4 rfl (zp1 rfl (zc 1 (hc9.below h.below) rfl (zcB h hF qak rfl fun r3 w12 h hF=>zp2 rfl (qk (t:=78) hF rfl ?_ ?_))))<;>intro hF
  ·refine X0 12 rfl (qb8 rfl rfl (X0 4 rfl ?_))
   obtain rfl:=qb hF;replace hF:=hK4
   exact rb h hF rfl
  refine X1 7 0 h rfl ?_
  obtain ⟨y5,hy5,hF,he5,b6,_,q5,cs7,hp5,hq5,hr8,hc10⟩:=s4.ix hF
  obtain rfl:=qaS hr8
  refine zxe hp5 hq5 he5 rfl (X0 3 rfl (zc 2 (hc10.below h.below) rfl (X0 5 rfl (zcB h hF qak rfl fun r4 w13 h hF=>X0 4 rfl (qh rfl hF ?_ ?_)))))<;>intro hF
  ·refine X0 4 rfl ?_
   obtain rfl:=qb hF;replace hF:=hK4
   exact rb h hF rfl
  exact X0 7 rfl (rK ⟨_,hF,rfl,h⟩ rfl)
 refine qq rfl ?_
 obtain rfl:=qb hF;replace hF:=hK4
 exact X0 4 rfl (rb h hF rfl)
def qeA (list:(List ByteArray)) (i1:Int):Nat→Int→Option (Flow Bool Int)
 | 0,_=>none
 | n+1,i2 =>
  bif decide (i2<i1) then
   (idx list i2).bind fun y2 =>
   (idx list i1).bind fun y3 =>
   bif (y2.toList==y3.toList) then some (.ret false) else
   qeA list i1 n (W64 (i2+1))
  else
   some (.nxt i2)
def qeo (list:(List ByteArray)):Nat→Int→Option (Flow Bool Int)
 | 0,_=>none
 | n+1,i1 =>
  bif decide (i1<(list.length:Int)) then
   (idx list i1).bind fun y1 =>
   (qgc n y1).bind fun r1 =>
   bif (!r1) then some (.ret false) else
   (qeA list i1 n 0).bind fun o=>match o with
   | .ret r=>some (.ret r)
   | .nxt _ =>
    qeo list n (W64 (i1+1))
  else
   some (.nxt i1)
def qgA (n:Nat) (list:(List ByteArray)):Option Bool :=
 (qeo list n 0).bind fun o=>match o with
 | .ret r=>some r
 | .nxt _ =>
  some true
theorem qi9 {list:(List ByteArray)} (ha1:GoT.R w (old w) list cs1) {r:Bool} (hF:qgA n list=some r):RetV Tryz.prog 217 [GoT.v (List ByteArray) cs1] w r:=by
 obtain ⟨p1,k1,rfl,s1⟩:=ha1
 refine zV 31 Tryz.func217 rfl fun h=>X0 9 rfl ?_
 obtain ⟨o1,hF,hK1⟩:=qd hF
 refine qm (rL (fun m e w'=>∃ (i1:Int),qeo list m i1=some o1∧e=[(0,.slice p1 list.length k1),(3,.int .i64 i1)]∧SH w w' []) n ⟨_,hF,rfl,h⟩ rfl ?_)
 rintro m1 e1 w1 ⟨i1,hF,rfl,h⟩
 rcases m1 with _|m1
 ·cases hF
 refine X0 8 rfl (qh rfl hF ?_ ?_)<;>intro hF
 ·refine X0 8 rfl ?_
  obtain ⟨y1,hy1,hF,he1,b1,_,q1,cs2,hp1,hq1,rfl,hc2⟩:=s1.ix hF
  refine zxe hp1 hq1 he1 rfl (zc 0 (hc2.below h.below) rfl (zcB h hF qh2 rfl fun r1 w2 h hF=>X0 2 rfl (qh rfl hF ?_ ?_)))<;>intro hF
  ·refine X0 4 rfl ?_
   obtain rfl:=qb hF;replace hF:=hK1
   exact rb h hF rfl
  refine X0 5 rfl ?_
  obtain ⟨o2,hF,hK2⟩:=qd hF
  refine qm (rL (fun m e w'=>∃ (i2:Int),qeA list i1 m i2=some o2∧e=[(0,.slice p1 list.length k1),(3,.int .i64 i1),(4,.int .i64 i2)]∧SH w w' []) m1 ⟨_,hF,rfl,h⟩ rfl ?_)
  rintro m2 e2 w3 ⟨i2,hF,rfl,h⟩
  rcases m2 with _|m2
  ·cases hF
  refine X0 7 rfl (qh rfl hF ?_ ?_)<;>intro hF
  ·refine X0 4 rfl (rD (zd2 rfl ?_))
   obtain ⟨y2,hy2,hF,he2,b2,_,q2,cs3,hp2,hq2,rfl,hc5⟩:=s1.ix hF
   refine zdxe hp2 hq2 he2 rfl (zdc 0 (hc5.below h.below) rfl (zd2 rfl ?_))
   obtain ⟨y3,hy3,hF,he3,b3,_,q3,cs4,hp3,hq3,rfl,hc6⟩:=s1.ix hF
   refine zdxe hp3 hq3 he3 rfl (zdc 0 (hc6.below h.below) rfl (zd1 rfl (dN h fun w4 h=>qh rfl hF ?_ ?_)))<;>intro hF
   ·refine X0 4 rfl ?_
    obtain rfl:=qb hF;replace hF:=hK2
    obtain rfl:=qb hF;replace hF:=hK1
    exact rb h hF rfl
   exact X0 7 rfl (rK ⟨_,hF,rfl,h⟩ rfl)
  refine qq rfl ?_
  obtain rfl:=qb hF;replace hF:=hK2
  exact X0 6 rfl (rK ⟨_,hF,rfl,h⟩ rfl)
 refine qq rfl ?_
 obtain rfl:=qb hF;replace hF:=hK1
 exact X0 4 rfl (rb h hF rfl)
def qex (x5:(List Int)) (x7:(List Int)):Nat→Int→Option (Flow Bool Int)
 | 0,_=>none
 | n+1,i5 =>
  bif decide (i5<(x5.length:Int)) then
   (idx x7 i5).bind fun y11 =>
   bif (y11 != 1) then some (.ret false) else
   qex x5 x7 n (W64 (i5+1))
  else
   some (.nxt i5)
def qcw (a_1:qf):Nat→(List Int)→Int→Option ((List Int) × Int)
 | 0,_,_=>none
 | n+1,x7,i4 =>
  bif decide (i4<(a_1.Ah.length:Int)) then
   (idx a_1.Ah i4).bind fun y7 =>
   bif (y7.Br==1) then
    (idx a_1.Ah i4).bind fun y8 =>
    (idx x7 y8.Bt).bind fun y9 =>
    (idx x7 y8.Bt).bind fun _ =>
    qcw a_1 n (setS x7 y8.Bt (W64 (y9+1))) (W64 (i4+1))
   else
    qcw a_1 n x7 (W64 (i4+1))
  else
   some (x7,i4)
def qdm (a_1:qf):Nat→(List Int)→Int→Option ((List Int) × Int)
 | 0,_,_=>none
 | n+1,x6,i3 =>
  bif decide (i3<(a_1.Ab.length:Int)) then
   (idx a_1.Ab i3).bind fun y3 =>
   (idx y3.Ai (W64 ((y3.Ai.length:Int)-1))).bind fun y4 =>
   (idx x6 y4).bind fun y5 =>
   (idx x6 y4).bind fun _ =>
   qdm a_1 n (setS x6 y4 (W64 (y5+1))) (W64 (i3+1))
  else
   some (x6,i3)
def qdj (a_1:qf):Nat→(List ByteArray)→Int→Option ((List ByteArray) × Int)
 | 0,_,_=>none
 | n+1,x3,i2 =>
  bif decide (i2<(a_1.Ah.length:Int)) then
   (idx a_1.Ah i2).bind fun y2 =>
   (appS x3 ([y2.Az]:List ByteArray)).bind fun x4 =>
   qdj a_1 n x4 (W64 (i2+1))
  else
   some (x3,i2)
def qdg (a_1:qf):Nat→(List ByteArray)→Int→Option ((List ByteArray) × Int)
 | 0,_,_=>none
 | n+1,x1,i1 =>
  bif decide (i1<(a_1.Ab.length:Int)) then
   (idx a_1.Ab i1).bind fun y1 =>
   (appS x1 ([y1.Az]:List ByteArray)).bind fun x2 =>
   qdg a_1 n x2 (W64 (i1+1))
  else
   some (x1,i1)
def qju (n:Nat) (a_0:qr) (a_1:qf):Option Bool :=
 (
  (qiP n a_0).bind fun r4 =>
  bif (!r4) then some true else
  bif decide ((a_1.Ab.length:Int) > 14) then some true else
  bif decide ((a_1.Ai.length:Int) > 30) then some true else
  bif decide ((a_1.Ah.length:Int) > 8) then some true else
  (qjl n a_0 a_1).bind fun r5 =>
  some (!r5)).bind fun b1 =>
 bif b1 then some false else
 (qdg a_1 n ([]:List ByteArray) 0).bind fun o=>match o with
 | (x1,_) =>
  (qdj a_1 n ([]:List ByteArray) 0).bind fun o=>match o with
  | (x3,_) =>
   (
    (qgA n x1).bind fun r1 =>
    bif (!r1) then some true else
    (qgA n x3).bind fun r2 =>
    bif (!r2) then some true else
    (qgA n a_1.Ai).bind fun r3 =>
    some (!r3)).bind fun b4 =>
   bif b4 then some false else
   (mkS (a_1.Ai.length:Int) (0:Int)).bind fun x5 =>
   (qdm a_1 n x5 0).bind fun o=>match o with
   | (x6,_) =>
    (qcw a_1 n x6 0).bind fun o=>match o with
    | (x7,_) =>
     (qex x5 x7 n 0).bind fun o=>match o with
     | .ret r=>some r
     | .nxt _ =>
      some true
theorem qo6 {a_0:qr} {a_1:qf} (ha1:GoT.R w (old w) a_0 cs1) (ha2:GoT.R w (old w) a_1 cs2) {r:Bool} (hF:qju n a_0 a_1=some r):RetV Tryz.prog 144 [GoT.v qr cs1,GoT.v qf cs2] w r:=by
 obtain ⟨p1,k1,rfl,s1⟩:=qbG ha1
 obtain ⟨p2,k2,p3,k3,p4,k4,rfl,s2,s3,s4⟩:=qaA ha2
 refine zV 153 Tryz.func144 rfl fun h=>zSR (qv h rfl rfl fun w1 bb1 h=>qv h rfl rfl fun w2 bb2 h=>X0 4 rfl ?_)
 obtain ⟨KF2,hKF2,o7,hF,hK7⟩:=bindE hF
 refine qba (fun e w'=>∃ (b1:Bool),KF2 b1=some r∧e=[(3,.pointer (some ⟨bb2,0,none⟩)),(40,.bool b1)]∧SH w w' [Ch.box bb2 (qaQ a_1 p2 p3 p4 k2 k3 k4) 50]) ?_ ?_
 ·refine X1 2 1 h rfl (zcB h hF (qox (h.old ha1)) rfl fun r4 w21 h hF=>zp2 rfl (qk (t:=17) hF rfl ?_ ?_))<;>intro hF
  ·refine X0 24 rfl ?_
   replace h:=h.pick [0] rfl
   obtain rfl:=qb hF
   exact rG ⟨_,hK7,rfl,h⟩ rfl
  refine X1 10 0 h rfl (qk (t:=23) hF rfl ?_ ?_)<;>intro hF
  ·refine X0 18 rfl ?_
   replace h:=h.pick [0] rfl
   obtain rfl:=qb hF
   exact rG ⟨_,hK7,rfl,h⟩ rfl
  refine X1 10 0 h rfl (qk (t:=29) hF rfl ?_ ?_)<;>intro hF
  ·refine X0 12 rfl ?_
   replace h:=h.pick [0] rfl
   obtain rfl:=qb hF
   exact rG ⟨_,hK7,rfl,h⟩ rfl
  refine X1 10 0 h rfl (qk (t:=35) hF rfl ?_ ?_)<;>intro hF
  ·refine X0 6 rfl ?_
   replace h:=h.pick [0] rfl
   obtain rfl:=qb hF
   exact rG ⟨_,hK7,rfl,h⟩ rfl
  refine X2 5 1 0 h rfl (zcB h hF (qo7 (h.old ha1) (h.old ha2)) rfl fun r5 w22 h hF=>X0 4 rfl ?_)
  replace h:=h.pick [0] rfl
  obtain rfl:=qb hF
  exact rG ⟨_,hK7,rfl,h⟩ rfl
 rintro e7 w23 ⟨b1,hF,rfl,h⟩
 subst hKF2
 refine qh rfl hF ?_ ?_<;>intro hF
 ·exact X0 4 rfl (rb h hF rfl)
 refine zKSR (qU qa [] _ ([]:List ByteArray) h rfl rfl rfl rfl rfl rfl rfl rfl rfl trivial rfl fun w3 p5 S1 h=>X0 7 rfl ?_)
 obtain ⟨o1,hF,hK1⟩:=qd hF
 refine qm (rL (fun m e w'=>∃ (S2:Nat→Prop) (p6:Option Addr) (ln1:Nat) (k5:Nat) (x1:(List ByteArray)) (i1:Int),qdg a_1 m x1 i1=some o1∧e=[(3,.pointer (some ⟨bb2,0,none⟩)),(5,.slice p6 ln1 k5),(6,.int .i64 i1)]∧SH w w' [Ch.own S2 (x1:List ByteArray) [.slice p6 ln1 k5],Ch.box bb2 (qaQ a_1 p2 p3 p4 k2 k3 k4) 50]) n ⟨_,_,_,_,_,_,hF,rfl,h⟩ rfl ?_)
 rintro m1 e1 w4 ⟨S2,p6,ln1,k5,x1,i1,hF,rfl,h⟩
 obtain rfl:=(h.sl 0 rfl).2
 rcases m1 with _|m1
 ·cases hF
 refine X1 9 1 h rfl (qh rfl hF ?_ ?_)<;>intro hF
 ·refine X1 8 1 h rfl ?_
  obtain ⟨y1,hy1,hF,he1,b2,_,q1,cs3,hp1,hq1,hr1,hc3⟩:=s2.ix hF
  obtain ⟨p7,k6,rfl,s5⟩:=qO hr1
  refine zxe hp1 hq1 he1 rfl (zp1 rfl (zc 0 (hc3.below h.below) rfl (qU qa [.tmp 55] _ ([y1.Az]:List ByteArray) h rfl rfl rfl rfl rfl rfl rfl rfl rfl ⟨rfl,trivial⟩ rfl fun w5 p8 S3 h=>?_)))
  obtain ⟨x2,hx1,hF⟩:=qd hF
  obtain ⟨g1,hx1⟩:=qaF hx1
  refine qc3 qa 1 h rfl (h.sl 0 rfl).1 (h.sl 0 rfl).2 rfl rfl rfl rfl rfl rfl rfl rfl rfl g1 hx1 rfl fun w6 p9 k7 S4 h=>X0 8 rfl ?_
  replace h:=h.pick [1,2] rfl
  exact rK ⟨_,_,_,_,_,_,hF,rfl,h⟩ rfl
 refine qq rfl ?_
 obtain rfl:=qb hF;replace hF:=hK1
 refine zSR (qU qa [] _ ([]:List ByteArray) h rfl rfl rfl rfl rfl rfl rfl rfl rfl trivial rfl fun w7 p10 S5 h=>X0 7 rfl ?_)
 obtain ⟨o2,hF,hK2⟩:=qd hF
 refine qm (rL (fun m e w'=>∃ (S6:Nat→Prop) (p11:Option Addr) (ln2:Nat) (k8:Nat) (x3:(List ByteArray)) (i2:Int),qdj a_1 m x3 i2=some o2∧e=[(3,.pointer (some ⟨bb2,0,none⟩)),(5,.slice p6 x1.length k5),(7,.slice p11 ln2 k8),(8,.int .i64 i2)]∧SH w w' [Ch.own S6 (x3:List ByteArray) [.slice p11 ln2 k8],Ch.own S2 (x1:List ByteArray) [.slice p6 x1.length k5],Ch.box bb2 (qaQ a_1 p2 p3 p4 k2 k3 k4) 50]) n ⟨_,_,_,_,_,_,hF,rfl,h⟩ rfl ?_)
 rintro m2 e2 w8 ⟨S6,p11,ln2,k8,x3,i2,hF,rfl,h⟩
 obtain rfl:=(h.sl 0 rfl).2
 rcases m2 with _|m2
 ·cases hF
 refine X1 9 2 h rfl (qh rfl hF ?_ ?_)<;>intro hF
 ·refine X1 8 2 h rfl ?_
  obtain ⟨y2,hy2,hF,he2,b3,_,q2,cs4,hp2,hq2,hr2,hc5⟩:=s4.ix hF
  obtain rfl:=qaS hr2
  refine zxe hp2 hq2 he2 rfl (zp1 rfl (zc 0 (hc5.below h.below) rfl (qU qa [.tmp 72] _ ([y2.Az]:List ByteArray) h rfl rfl rfl rfl rfl rfl rfl rfl rfl ⟨rfl,trivial⟩ rfl fun w9 p12 S7 h=>?_)))
  obtain ⟨x4,hx2,hF⟩:=qd hF
  obtain ⟨g2,hx2⟩:=qaF hx2
  refine qc3 qa 1 h rfl (h.sl 0 rfl).1 (h.sl 0 rfl).2 rfl rfl rfl rfl rfl rfl rfl rfl rfl g2 hx2 rfl fun w10 p13 k9 S8 h=>X0 8 rfl ?_
  replace h:=h.pick [1,2,3] rfl
  exact rK ⟨_,_,_,_,_,_,hF,rfl,h⟩ rfl
 refine qq rfl ?_
 obtain rfl:=qb hF;replace hF:=hK2
 refine zSS ?_
 obtain ⟨KF1,hKF1,o6,hF,hK6⟩:=bindE hF
 refine qba (fun e w'=>∃ (b4:Bool),KF1 b4=some r∧e=[(3,.pointer (some ⟨bb2,0,none⟩)),(88,.bool b4)]∧SH w w' [Ch.box bb2 (qaQ a_1 p2 p3 p4 k2 k3 k4) 50]) ?_ ?_
 ·refine X0 2 rfl (zcB h hF (qi9 (h.own 1 rfl)) rfl fun r1 w17 h hF=>zp2 rfl (qk (t:=78) hF rfl ?_ ?_))<;>intro hF
  ·refine X0 11 rfl ?_
   replace h:=h.pick [2] rfl
   obtain rfl:=qb hF
   exact rG ⟨_,hK6,rfl,h⟩ rfl
  refine X0 3 rfl (zcB h hF (qi9 (h.own 0 rfl)) rfl fun r2 w18 h hF=>X0 4 rfl (qk (t:=83) hF rfl ?_ ?_))<;>intro hF
  ·refine X0 6 rfl ?_
   replace h:=h.pick [2] rfl
   obtain rfl:=qb hF
   exact rG ⟨_,hK6,rfl,h⟩ rfl
  refine X1 5 2 h rfl (zcB h hF (qi9 ⟨_,_,rfl,(h.oldS s3)⟩) rfl fun r3 w19 h hF=>X0 4 rfl ?_)
  replace h:=h.pick [2] rfl
  obtain rfl:=qb hF
  exact rG ⟨_,hK6,rfl,h⟩ rfl
 rintro e6 w20 ⟨b4,hF,rfl,h⟩
 subst hKF1
 refine qh rfl hF ?_ ?_<;>intro hF
 ·exact X0 4 rfl (rb h hF rfl)
 refine X1 6 0 h rfl ?_
 obtain ⟨x5,hx3,hF⟩:=qd hF
 obtain ⟨g3,g4,hx3⟩:=qV hx3
 refine qam qa Int h rfl rfl rfl rfl rfl rfl rfl rfl rfl g3 g4 hx3 rfl fun w11 S9 p14 h=>X0 7 rfl ?_
 obtain ⟨o3,hF,hK3⟩:=qd hF
 refine qm (rL (fun m e w'=>∃ (x6:(List Int)) (i3:Int),qdm a_1 m x6 i3=some o3∧e=[(3,.pointer (some ⟨bb2,0,none⟩)),(9,.slice p14 x5.length x5.length),(10,.int .i64 i3)]∧SH w w' [Ch.own S9 (x6:List Int) [.slice p14 x5.length x5.length],Ch.box bb2 (qaQ a_1 p2 p3 p4 k2 k3 k4) 50]) n ⟨_,_,hF,rfl,h⟩ rfl ?_)
 rintro m3 e3 w12 ⟨x6,i3,hF,rfl,h⟩
 rcases m3 with _|m3
 ·cases hF
 refine X1 9 1 h rfl (qh rfl hF ?_ ?_)<;>intro hF
 ·refine X1 8 1 h rfl ?_
  obtain ⟨y3,hy3,hF,he3,b5,_,q3,cs5,hp3,hq3,hr3,hc8⟩:=s2.ix hF
  obtain ⟨p15,k10,rfl,s6⟩:=qO hr3
  refine zxe hp3 hq3 he3 rfl (zp1 rfl (zc 2 (hc8.below h.below) rfl (X0 8 rfl ?_)))
  obtain ⟨y4,hy4,hF,he4,b6,_,q4,cs6,hp4,hq4,rfl,hc9⟩:=s6.ix hF
  refine zxe hp4 hq4 he4 rfl (zc 0 (hc9.below h.below) rfl ?_)
  obtain ⟨y5,hy5,hF,he5,b7,_,q5,cs7,hp5,hq5,rfl,hc10⟩:=(h.sl 0 rfl).1.ix hF
  refine zx hp5 hq5 ⟨he5.1,qD he5.2.1 (h.sl 0 rfl).2⟩ rfl (zc 0 hc10 rfl (zp1 rfl ?_))
  obtain ⟨y6,hy6,hF,he6,b8,_,q6,cs8,hp6,hq6,rfl,hc11⟩:=(h.sl 0 rfl).1.ix hF
  exact zx hp6 hq6 ⟨he6.1,qD he6.2.1 (h.sl 0 rfl).2⟩ rfl (qau qa 0 0 (W64 (y5+1)) h rfl hy6 hp6 hq6 rfl hc11 rfl rfl rfl rfl rfl rfl rfl fun w13 h=>X0 7 rfl (rK ⟨_,_,hF,rfl,h⟩ rfl))
 refine qq rfl ?_
 obtain rfl:=qb hF;replace hF:=hK3
 refine X0 5 rfl ?_
 obtain ⟨o4,hF,hK4⟩:=qd hF
 refine qm (rL (fun m e w'=>∃ (x7:(List Int)) (i4:Int),qcw a_1 m x7 i4=some o4∧e=[(3,.pointer (some ⟨bb2,0,none⟩)),(9,.slice p14 x5.length x5.length),(12,.int .i64 i4)]∧SH w w' [Ch.own S9 (x7:List Int) [.slice p14 x5.length x5.length],Ch.box bb2 (qaQ a_1 p2 p3 p4 k2 k3 k4) 50]) n ⟨_,_,hF,rfl,h⟩ rfl ?_)
 rintro m4 e4 w14 ⟨x7,i4,hF,rfl,h⟩
 rcases m4 with _|m4
 ·cases hF
 refine X1 9 1 h rfl (qh rfl hF ?_ ?_)<;>intro hF
 ·refine X1 8 1 h rfl ?_
  obtain ⟨y7,hy7,hF,he7,b9,_,q7,cs9,hp7,hq7,hr7,hc13⟩:=s4.ix hF
  obtain rfl:=qaS hr7
  refine zxe hp7 hq7 he7 rfl (zp1 rfl (zc 1 (hc13.below h.below) rfl (X0 2 rfl (qh rfl hF ?_ ?_))))<;>intro hF
  ·refine X1 5 1 h rfl ?_
   obtain ⟨y8,hy8,hF,he8,b10,_,q8,cs10,hp8,hq8,hr8,hc15⟩:=s4.ix hF
   obtain rfl:=qaS hr8
   refine zxe hp8 hq8 he8 rfl (zp1 rfl (zc 2 (hc15.below h.below) rfl ?_))
   obtain ⟨y9,hy9,hF,he9,b11,_,q9,cs11,hp9,hq9,rfl,hc16⟩:=(h.sl 0 rfl).1.ix hF
   refine zx hp9 hq9 ⟨he9.1,qD he9.2.1 (h.sl 0 rfl).2⟩ rfl (zc 0 hc16 rfl (zp1 rfl ?_))
   obtain ⟨y10,hy10,hF,he10,b12,_,q10,cs12,hp10,hq10,rfl,hc17⟩:=(h.sl 0 rfl).1.ix hF
   exact zx hp10 hq10 ⟨he10.1,qD he10.2.1 (h.sl 0 rfl).2⟩ rfl (qau qa 0 0 (W64 (y9+1)) h rfl hy10 hp10 hq10 rfl hc17 rfl rfl rfl rfl rfl rfl rfl fun w15 h=>X0 7 rfl (rK ⟨_,_,hF,rfl,h⟩ rfl))
  exact X0 7 rfl (rK ⟨_,_,hF,rfl,h⟩ rfl)
 refine qq rfl ?_
 obtain rfl:=qb hF;replace hF:=hK4
 refine X0 5 rfl ?_
 obtain ⟨o5,hF,hK5⟩:=qd hF
 refine qm ?_
 replace h:=h.pick [0] rfl
 refine rL (fun m e w'=>∃ (i5:Int),qex x5 x7 m i5=some o5∧e=[(9,.slice p14 x5.length x5.length),(13,.int .i64 i5)]∧SH w w' [Ch.own S9 (x7:List Int) [.slice p14 x5.length x5.length]]) n ⟨_,hF,rfl,h⟩ rfl ?_
 rintro m5 e5 w16 ⟨i5,hF,rfl,h⟩
 rcases m5 with _|m5
 ·cases hF
 refine X0 8 rfl (qh rfl hF ?_ ?_)<;>intro hF
 ·refine X0 7 rfl ?_
  obtain ⟨y11,hy11,hF,he11,b13,_,q11,cs13,hp11,hq11,rfl,hc19⟩:=(h.sl 0 rfl).1.ix hF
  refine zx hp11 hq11 ⟨he11.1,qD he11.2.1 (h.sl 0 rfl).2⟩ rfl (zc 0 hc19 rfl (X0 2 rfl (qh rfl hF ?_ ?_)))<;>intro hF
  ·refine X0 4 rfl ?_
   obtain rfl:=qb hF;replace hF:=hK5
   exact rb h hF rfl
  exact X0 7 rfl (rK ⟨_,hF,rfl,h⟩ rfl)
 refine qq rfl ?_
 obtain rfl:=qb hF;replace hF:=hK5
 exact X0 4 rfl (rb h hF rfl)
def qfH (a_0:qE):Nat→Int→Option (Flow Bool Int)
 | 0,_=>none
 | n+1,i2 =>
  bif decide (i2<(a_0.Bh.length:Int)) then
   (idx a_0.Bh i2).bind fun y7 =>
   (qay n y7 0 (W64 ((a_0.Ak.length:Int)-1))).bind fun r5 =>
   bif (!r5) then some (.ret false) else
   qfH a_0 n (W64 (i2+1))
  else
   some (.nxt i2)
def qcC (a_0:qE):Nat→Int→Option (Flow Bool Int)
 | 0,_=>none
 | n+1,i1 =>
  bif decide (i1<(a_0.Ak.length:Int)) then
   (
    (idx a_0.Bo i1).bind fun y5 =>
    (qay n y5 0 500).bind fun r3 =>
    bif (!r3) then some true else
    (idx a_0.Bs i1).bind fun y6 =>
    (qay n y6 0 1000).bind fun r4 =>
    some (!r4)).bind fun b2 =>
   bif b2 then some (.ret false) else
   bif (i1==0) then
    (idx a_0.Ak i1).bind fun y1 =>
    bif (y1 != (-1)) then some (.ret false) else
    (idx a_0.Bs i1).bind fun y2 =>
    bif (y2 != 0) then some (.ret false) else
    bif decide (i1 > 0) then
     (idx a_0.Ak i1).bind fun y3 =>
     (qay n y3 0 (W64 (i1-1))).bind fun r1 =>
     bif (!r1) then some (.ret false) else
     qcC a_0 n (W64 (i1+1))
    else
     qcC a_0 n (W64 (i1+1))
   else
    bif decide (i1 > 0) then
     (idx a_0.Ak i1).bind fun y4 =>
     (qay n y4 0 (W64 (i1-1))).bind fun r2 =>
     bif (!r2) then some (.ret false) else
     qcC a_0 n (W64 (i1+1))
    else
     qcC a_0 n (W64 (i1+1))
  else
   some (.nxt i1)
def qlr (n:Nat) (a_0:qE) (a_1:Int):Option Bool :=
 (
  bif decide ((a_0.Ak.length:Int)<1) then some true else
  bif decide ((a_0.Ak.length:Int) > 8) then some true else
  bif ((a_0.Bs.length:Int) != (a_0.Ak.length:Int)) then some true else
  bif ((a_0.Bo.length:Int) != (a_0.Ak.length:Int)) then some true else
  some ((a_0.Bh.length:Int) != a_1)).bind fun b1 =>
 bif b1 then some false else
 (qcC a_0 n 0).bind fun o=>match o with
 | .ret r=>some r
 | .nxt _ =>
  (qfH a_0 n 0).bind fun o=>match o with
  | .ret r=>some r
  | .nxt _ =>
   some true
theorem qqW {a_0:qE} {a_1:Int} (ha1:GoT.R w (old w) a_0 cs1) {r:Bool} (hF:qlr n a_0 a_1=some r):RetV Tryz.prog 145 [GoT.v qE cs1,.int .i64 a_1] w r:=by
 obtain ⟨p1,k1,p2,k2,p3,k3,p4,k4,rfl,s1,s2,s3,s4⟩:=qaN ha1
 refine zV 108 Tryz.func145 rfl fun h=>zSR (qv h rfl rfl fun w1 bb1 h=>X1 11 0 h rfl ?_)
 obtain ⟨KF2,hKF2,o4,hF,hK4⟩:=bindE hF
 refine qba (fun e w'=>∃ (b1:Bool),KF2 b1=some r∧e=[(2,.pointer (some ⟨bb1,0,none⟩)),(5,.int .i64 (a_0.Ak.length:Int)),(37,.bool b1)]∧SH w w' [Ch.box bb1 (qgO a_0 p1 p2 p3 p4 k1 k2 k3 k4) 210]) ?_ ?_
 ·refine X0 4 rfl (qk (t:=13) hF rfl ?_ ?_)<;>intro hF
  ·refine X0 25 rfl ?_
   obtain rfl:=qb hF
   exact rG ⟨_,hK4,rfl,h⟩ rfl
  refine X0 6 rfl (qk (t:=17) hF rfl ?_ ?_)<;>intro hF
  ·refine X0 21 rfl ?_
   obtain rfl:=qb hF
   exact rG ⟨_,hK4,rfl,h⟩ rfl
  refine X1 12 0 h rfl (qk (t:=24) hF rfl ?_ ?_)<;>intro hF
  ·refine X0 14 rfl ?_
   obtain rfl:=qb hF
   exact rG ⟨_,hK4,rfl,h⟩ rfl
  refine X1 12 0 h rfl (qk (t:=31) hF rfl ?_ ?_)<;>intro hF
  ·refine X0 7 rfl ?_
   obtain rfl:=qb hF
   exact rG ⟨_,hK4,rfl,h⟩ rfl
  refine X1 12 0 h rfl ?_
  obtain rfl:=qb hF
  exact rG ⟨_,hK4,rfl,h⟩ rfl
 rintro e4 w10 ⟨b1,hF,rfl,h⟩
 subst hKF2
 refine qh rfl hF ?_ ?_<;>intro hF
 ·exact X0 4 rfl (rb h hF rfl)
 refine X0 6 rfl ?_
 obtain ⟨o1,hF,hK1⟩:=qd hF
 refine qm (rL (fun m e w'=>∃ (i1:Int),qcC a_0 m i1=some o1∧e=[(2,.pointer (some ⟨bb1,0,none⟩)),(5,.int .i64 (a_0.Ak.length:Int)),(6,.int .i64 i1)]∧SH w w' [Ch.box bb1 (qgO a_0 p1 p2 p3 p4 k1 k2 k3 k4) 210]) n ⟨_,hF,rfl,h⟩ rfl ?_)
 rintro m1 e1 w2 ⟨i1,hF,rfl,h⟩
 rcases m1 with _|m1
 ·cases hF
 refine X0 7 rfl (qh rfl hF ?_ ?_)<;>intro hF
 ·refine X0 5 rfl ?_
  obtain ⟨KF1,hKF1,o2,hF,hK2⟩:=bindE hF
  refine qba (fun e w'=>∃ (b2:Bool),KF1 b2=some o1∧e=[(2,.pointer (some ⟨bb1,0,none⟩)),(5,.int .i64 (a_0.Ak.length:Int)),(6,.int .i64 i1),(58,.bool b2)]∧SH w w' [Ch.box bb1 (qgO a_0 p1 p2 p3 p4 k1 k2 k3 k4) 210]) ?_ ?_
  ·refine X1 4 0 h rfl ?_
   obtain ⟨y5,hy5,hF,he5,b7,_,q5,cs6,hp5,hq5,rfl,hc10⟩:=s3.ix hF
   refine zxe hp5 hq5 he5 rfl (zc 0 (hc10.below h.below) rfl (zcB h hF qak rfl fun r3 w5 h hF=>zp2 rfl (qk (t:=50) hF rfl ?_ ?_)))<;>intro hF
   ·refine X0 9 rfl ?_
    obtain rfl:=qb hF
    exact rG ⟨_,hK2,rfl,h⟩ rfl
   refine X1 7 0 h rfl ?_
   obtain ⟨y6,hy6,hF,he6,b8,_,q6,cs7,hp6,hq6,rfl,hc11⟩:=s2.ix hF
   refine zxe hp6 hq6 he6 rfl (X0 1 rfl (zc 0 (hc11.below h.below) rfl (X0 1 rfl (zcB h hF qak rfl fun r4 w6 h hF=>X0 4 rfl ?_))))
   obtain rfl:=qb hF
   exact rG ⟨_,hK2,rfl,h⟩ rfl
  rintro e2 w7 ⟨b2,hF,rfl,h⟩
  subst hKF1
  refine qh rfl hF ?_ ?_<;>intro hF
  ·refine X0 4 rfl ?_
   obtain rfl:=qb hF;replace hF:=hK1
   exact rb h hF rfl
  refine X0 6 rfl (qk (t:=61) hF rfl ?_ ?_)<;>intro hF
  ·refine X1 7 0 h rfl ?_
   obtain ⟨y1,hy1,hF,he1,b3,_,q1,cs2,hp1,hq1,rfl,hc4⟩:=s1.ix hF
   refine zxe hp1 hq1 he1 rfl (X0 1 rfl (zc 0 (hc4.below h.below) rfl (X0 4 rfl (qk (t:=68) hF rfl ?_ ?_))))<;>intro hF
   ·refine X0 25 rfl (qb8 rfl rfl (X0 4 rfl ?_))
    obtain rfl:=qb hF;replace hF:=hK1
    exact rb h hF rfl
   refine X1 7 0 h rfl ?_
   obtain ⟨y2,hy2,hF,he2,b4,_,q2,cs3,hp2,hq2,rfl,hc5⟩:=s2.ix hF
   refine zxe hp2 hq2 he2 rfl (X0 1 rfl (zc 0 (hc5.below h.below) rfl (X0 6 rfl (qk (t:=77) hF rfl ?_ ?_))))<;>intro hF
   ·refine X0 15 rfl (qb8 rfl rfl (X0 4 rfl ?_))
    obtain rfl:=qb hF;replace hF:=hK1
    exact rb h hF rfl
   refine X0 6 rfl (qk (t:=80) hF rfl ?_ ?_)<;>intro hF
   ·refine X1 7 0 h rfl ?_
    obtain ⟨y3,hy3,hF,he3,b5,_,q3,cs4,hp3,hq3,rfl,hc6⟩:=s1.ix hF
    refine zxe hp3 hq3 he3 rfl (X0 1 rfl (zc 0 (hc6.below h.below) rfl (X0 5 rfl (zcB h hF qak rfl fun r1 w3 h hF=>X0 6 rfl (qh rfl hF ?_ ?_)))))<;>intro hF
    ·refine X0 4 rfl ?_
     obtain rfl:=qb hF;replace hF:=hK1
     exact rb h hF rfl
    exact X0 7 rfl (rK ⟨_,hF,rfl,h⟩ rfl)
   exact X0 13 rfl (qcj rfl rfl (X0 7 rfl (rK ⟨_,hF,rfl,h⟩ rfl)))
  refine X0 22 rfl (qk (t:=80) hF rfl ?_ ?_)<;>intro hF
  ·refine X1 7 0 h rfl ?_
   obtain ⟨y4,hy4,hF,he4,b6,_,q4,cs5,hp4,hq4,rfl,hc8⟩:=s1.ix hF
   refine zxe hp4 hq4 he4 rfl (X0 1 rfl (zc 0 (hc8.below h.below) rfl (X0 5 rfl (zcB h hF qak rfl fun r2 w4 h hF=>X0 6 rfl (qh rfl hF ?_ ?_)))))<;>intro hF
   ·refine X0 4 rfl ?_
    obtain rfl:=qb hF;replace hF:=hK1
    exact rb h hF rfl
   exact X0 7 rfl (rK ⟨_,hF,rfl,h⟩ rfl)
  exact X0 13 rfl (qcj rfl rfl (X0 7 rfl (rK ⟨_,hF,rfl,h⟩ rfl)))
 refine qq rfl ?_
 obtain rfl:=qb hF;replace hF:=hK1
 refine X0 5 rfl ?_
 obtain ⟨o3,hF,hK3⟩:=qd hF
 refine qm (rL (fun m e w'=>∃ (i2:Int),qfH a_0 m i2=some o3∧e=[(2,.pointer (some ⟨bb1,0,none⟩)),(5,.int .i64 (a_0.Ak.length:Int)),(7,.int .i64 i2)]∧SH w w' [Ch.box bb1 (qgO a_0 p1 p2 p3 p4 k1 k2 k3 k4) 210]) n ⟨_,hF,rfl,h⟩ rfl ?_)
 rintro m2 e3 w8 ⟨i2,hF,rfl,h⟩
 rcases m2 with _|m2
 ·cases hF
 refine X1 9 0 h rfl (qh rfl hF ?_ ?_)<;>intro hF
 ·refine X1 8 0 h rfl ?_
  obtain ⟨y7,hy7,hF,he7,b9,_,q7,cs8,hp7,hq7,rfl,hc13⟩:=s4.ix hF
  refine zxe hp7 hq7 he7 rfl (zc 0 (hc13.below h.below) rfl (zp2 rfl (zcB h hF qak rfl fun r5 w9 h hF=>X0 2 rfl (qh rfl hF ?_ ?_))))<;>intro hF
  ·refine X0 4 rfl ?_
   obtain rfl:=qb hF;replace hF:=hK3
   exact rb h hF rfl
  exact X0 7 rfl (rK ⟨_,hF,rfl,h⟩ rfl)
 refine qq rfl ?_
 obtain rfl:=qb hF;replace hF:=hK3
 exact X0 4 rfl (rb h hF rfl)
def qcJ (i1:Int) (y1:qi):Nat→(List Tl05Place)→Int→Option ((List Tl05Place) × Int)
 | 0,_,_=>none
 | n+1,x2,i2 =>
  bif decide (i2<(y1.Ai.length:Int)) then
   (idx y1.Ai i2).bind fun y2 =>
   (appS x2 ([(⟨i1,i2,y2,(i2==(W64 ((y1.Ai.length:Int)-1)))⟩:Tl05Place)]:List Tl05Place)).bind fun x3 =>
   qcJ i1 y1 n x3 (W64 (i2+1))
  else
   some (x2,i2)
def qcN (a_0:qf):Nat→(List Tl05Place)→Int→Option ((List Tl05Place) × Int)
 | 0,_,_=>none
 | n+1,x4,i3 =>
  bif decide (i3<(a_0.Ah.length:Int)) then
   (idx a_0.Ah i3).bind fun y3 =>
   (idx a_0.Ah i3).bind fun y4 =>
   (appS x4 ([(⟨(-1),i3,y3.Bt,(y4.Br==1)⟩:Tl05Place)]:List Tl05Place)).bind fun x5 =>
   qcN a_0 n x5 (W64 (i3+1))
  else
   some (x4,i3)
def qcL (a_0:qf):Nat→(List Tl05Place)→Int→Option ((List Tl05Place) × Int)
 | 0,_,_=>none
 | n+1,x1,i1 =>
  bif decide (i1<(a_0.Ab.length:Int)) then
   (idx a_0.Ab i1).bind fun y1 =>
   (qcJ i1 y1 n x1 0).bind fun o=>match o with
   | (x2,_) =>
    qcL a_0 n x2 (W64 (i1+1))
  else
   some (x1,i1)
def qce (n:Nat) (a_0:qf):Option (List Tl05Place) :=
 (qcL a_0 n ([]:List Tl05Place) 0).bind fun o=>match o with
 | (x1,_) =>
  (qcN a_0 n x1 0).bind fun o=>match o with
  | (x4,_) =>
   some x4
theorem qb7 {a_0:qf} (ha1:GoT.R w (old w) a_0 cs1) {r:(List Tl05Place)} (hF:qce n a_0=some r):RetV Tryz.prog 171 [GoT.v qf cs1] w r:=by
 obtain ⟨p1,k1,p2,k2,p3,k3,rfl,s1,s2,s3⟩:=qaA ha1
 refine zV 69 Tryz.func171 rfl fun h=>zSR (qv h rfl rfl fun w1 bb1 h=>X0 4 rfl (qU qa [] _ ([]:List Tl05Place) h rfl rfl rfl rfl rfl rfl rfl rfl rfl trivial rfl fun w2 p4 S1 h=>X0 7 rfl ?_))
 obtain ⟨o1,hF,hK1⟩:=qd hF
 refine qm (rL (fun m e w'=>∃ (S2:Nat→Prop) (p5:Option Addr) (ln1:Nat) (k4:Nat) (x1:(List Tl05Place)) (i1:Int),qcL a_0 m x1 i1=some o1∧e=[(1,.pointer (some ⟨bb1,0,none⟩)),(3,.slice p5 ln1 k4),(4,.int .i64 i1)]∧SH w w' [Ch.own S2 (x1:List Tl05Place) [.slice p5 ln1 k4],Ch.box bb1 (qaQ a_0 p1 p2 p3 k1 k2 k3) 50]) n ⟨_,_,_,_,_,_,hF,rfl,h⟩ rfl ?_)
 rintro m1 e1 w3 ⟨S2,p5,ln1,k4,x1,i1,hF,rfl,h⟩
 obtain rfl:=(h.sl 0 rfl).2
 rcases m1 with _|m1
 ·cases hF
 refine X1 9 1 h rfl (qh rfl hF ?_ ?_)<;>intro hF
 ·refine X1 8 1 h rfl ?_
  obtain ⟨y1,hy1,hF,he1,b1,_,q1,cs2,hp1,hq1,hr1,hc2⟩:=s1.ix hF
  obtain ⟨p6,k5,rfl,s4⟩:=qO hr1
  refine zxe hp1 hq1 he1 rfl (zp1 rfl (zc 2 (hc2.below h.below) rfl (X0 6 rfl ?_)))
  obtain ⟨o2,hF,hK2⟩:=qd hF
  refine qm (rL (fun m e w'=>∃ (S3:Nat→Prop) (p7:Option Addr) (ln2:Nat) (k6:Nat) (x2:(List Tl05Place)) (i2:Int),qcJ i1 y1 m x2 i2=some o2∧e=[(1,.pointer (some ⟨bb1,0,none⟩)),(3,.slice p7 ln2 k6),(4,.int .i64 i1),(5,.slice p6 y1.Ai.length k5),(6,.int .i64 i2)]∧SH w w' [Ch.own S3 (x2:List Tl05Place) [.slice p7 ln2 k6],Ch.box bb1 (qaQ a_0 p1 p2 p3 k1 k2 k3) 50]) m1 ⟨_,_,_,_,_,_,hF,rfl,h⟩ rfl ?_)
  rintro m2 e2 w4 ⟨S3,p7,ln2,k6,x2,i2,hF,rfl,h⟩
  obtain rfl:=(h.sl 0 rfl).2
  rcases m2 with _|m2
  ·cases hF
  refine X0 8 rfl (qh rfl hF ?_ ?_)<;>intro hF
  ·refine X0 9 rfl ?_
   obtain ⟨y2,hy2,hF,he2,b2,_,q2,cs3,hp2,hq2,rfl,hc4⟩:=s4.ix hF
   refine zxe hp2 hq2 he2 rfl (zc 0 (hc4.below h.below) rfl (zp5 rfl (r_v (qW qa [0,1,2,3] [.tmp 29,.tmp 30,.tmp 34,.tmp 39] rfl rfl rfl rfl rfl rfl rfl rfl) rfl (qU qa [.tmp 40] _ ([(⟨i1,i2,y2,(i2==(W64 ((y1.Ai.length:Int)-1)))⟩:Tl05Place)]:List Tl05Place) h rfl rfl rfl rfl rfl rfl rfl rfl rfl ⟨(qfn (⟨i1,i2,y2,(i2==(W64 ((y1.Ai.length:Int)-1)))⟩:Tl05Place)),trivial⟩ rfl fun w5 p8 S4 h=>?_))))
   obtain ⟨x3,hx1,hF⟩:=qd hF
   obtain ⟨g1,hx1⟩:=qaF hx1
   refine qc3 qa 1 h rfl (h.sl 0 rfl).1 (h.sl 0 rfl).2 rfl rfl rfl rfl rfl rfl rfl rfl rfl g1 hx1 rfl fun w6 p9 k7 S5 h=>X0 8 rfl ?_
   replace h:=h.pick [1,2] rfl
   exact rK ⟨_,_,_,_,_,_,hF,rfl,h⟩ rfl
  refine qq rfl ?_
  obtain rfl:=qb hF;replace hF:=hK2
  exact X0 6 rfl (rK ⟨_,_,_,_,_,_,hF,rfl,h⟩ rfl)
 refine qq rfl ?_
 obtain rfl:=qb hF;replace hF:=hK1
 refine X0 5 rfl ?_
 obtain ⟨o3,hF,hK3⟩:=qd hF
 refine qm (rL (fun m e w'=>∃ (S6:Nat→Prop) (p10:Option Addr) (ln3:Nat) (k8:Nat) (x4:(List Tl05Place)) (i3:Int),qcN a_0 m x4 i3=some o3∧e=[(1,.pointer (some ⟨bb1,0,none⟩)),(3,.slice p10 ln3 k8),(7,.int .i64 i3)]∧SH w w' [Ch.own S6 (x4:List Tl05Place) [.slice p10 ln3 k8],Ch.box bb1 (qaQ a_0 p1 p2 p3 k1 k2 k3) 50]) n ⟨_,_,_,_,_,_,hF,rfl,h⟩ rfl ?_)
 rintro m3 e3 w7 ⟨S6,p10,ln3,k8,x4,i3,hF,rfl,h⟩
 obtain rfl:=(h.sl 0 rfl).2
 rcases m3 with _|m3
 ·cases hF
 refine X1 9 1 h rfl (qh rfl hF ?_ ?_)<;>intro hF
 ·refine zKSB (rA [] [1] h rfl fun w8 h=>M1 31 [0,1,2,3,4] 0 (h.pick [1] rfl) rfl ?_)
  obtain ⟨y3,hy3,hF,he3,b3,_,q3,cs4,hp3,hq3,hr3,hc6⟩:=s3.ix hF
  obtain rfl:=qaS hr3
  refine Ae 5 63 hp3 hq3 he3 (h.pick [1] rfl) rfl (M0 127 [6] (h.pick [1] rfl) rfl (Al 7 255 2 hc6 (h.pick [1] rfl) rfl (M1 2047 [8,9,10] 0 (h.pick [1] rfl) rfl ?_)))
  obtain ⟨y4,hy4,hF,he4,b4,_,q4,cs5,hp4,hq4,hr4,hc7⟩:=s3.ix hF
  obtain rfl:=qaS hr4
  refine Ae 11 4095 hp4 hq4 he4 (h.pick [1] rfl) rfl (M0 8191 [12] (h.pick [1] rfl) rfl (Al 13 16383 1 hc7 (h.pick [1] rfl) rfl (M0 32767 [14] (h.pick [1] rfl) rfl (Aw 15 65535 (fun w' hw=>qW qa [0,1,2,3] [.const (.int .i64 (-1)),.tmp 51,.tmp 57,.tmp 64] rfl rfl rfl rfl rfl rfl rfl rfl) (h.pick [1] rfl) rfl ?_))))
  refine Ao 16 131071 rfl (qU qa [.tmp 65] _ ([(⟨(-1),i3,y3.Bt,(y4.Br==1)⟩:Tl05Place)]:List Tl05Place) h rfl rfl rfl rfl rfl rfl rfl rfl rfl ⟨(qfn (⟨(-1),i3,y3.Bt,(y4.Br==1)⟩:Tl05Place)),trivial⟩ rfl fun w9 p11 S7 h=>Ag (h.pick [2] rfl) (Ao 17 262143 rfl ?_))
  obtain ⟨x5,hx2,hF⟩:=qd hF
  obtain ⟨g2,hx2⟩:=qaF hx2
  refine qc3 qa 1 h rfl (h.sl 0 rfl).1 (h.sl 0 rfl).2 rfl rfl rfl rfl rfl rfl rfl rfl rfl g2 hx2 rfl fun w10 p12 k9 S8 h=>G0 524287 [18] (h.pick [2] rfl) rfl (Ad (X0 6 rfl ?_))
  replace h:=h.pick [1,2] rfl
  exact rK ⟨_,_,_,_,_,_,hF,rfl,h⟩ rfl
 refine qq rfl ?_
 obtain rfl:=qb hF;replace hF:=hK3
 refine X0 5 rfl ?_
 obtain rfl:=qb hF
 exact rO 0 h rfl ⟨rfl,trivial⟩
def qcx (net:Int) (r1:(List Tl05Place)):Nat→(List Int)→Int→Option ((List Int) × Int)
 | 0,_,_=>none
 | n+1,x1,i1 =>
  bif decide (i1<(r1.length:Int)) then
   (
    (idx r1 i1).bind fun y1 =>
    bif (y1.net==net) then
     (idx r1 i1).bind fun y2 =>
     some (!y2.drives)
    else
     some false).bind fun b1 =>
   bif b1 then
    (appS x1 ([i1]:List Int)).bind fun x2 =>
    qcx net r1 n x2 (W64 (i1+1))
   else
    qcx net r1 n x1 (W64 (i1+1))
  else
   some (x1,i1)
def qgE (n:Nat) (d:qf) (net:Int):Option (List Int) :=
 (qce n d).bind fun r1 =>
 (qcx net r1 n ([]:List Int) 0).bind fun o=>match o with
 | (x1,_) =>
  some x1
theorem qi7 {d:qf} {net:Int} (ha1:GoT.R w (old w) d cs1) {r:(List Int)} (hF:qgE n d net=some r):RetV Tryz.prog 146 [GoT.v qf cs1,.int .i64 net] w r:=by
 obtain ⟨p1,k1,p2,k2,p3,k3,rfl,s1,s2,s3⟩:=qaA ha1
 refine zV 37 Tryz.func146 rfl fun h=>zSR (qv h rfl rfl fun w1 bb1 h=>X0 4 rfl (qU qa [] _ ([]:List Int) h rfl rfl rfl rfl rfl rfl rfl rfl rfl trivial rfl fun w2 p4 S1 h=>X1 5 1 h rfl (zcL h hF (qb7 (h.old ha1)) rfl fun r1 w3 S2 p5 k4 h hF=>X0 7 rfl ?_)))
 obtain ⟨o1,hF,hK1⟩:=qd hF
 refine qm ?_
 replace h:=h.pick [0,1] rfl
 refine rL (fun m e w'=>∃ (S3:Nat→Prop) (p6:Option Addr) (ln1:Nat) (k5:Nat) (x1:(List Int)) (i1:Int),qcx net r1 m x1 i1=some o1∧e=[(1,.int .i64 net),(5,.slice p6 ln1 k5),(6,.slice p5 r1.length k4),(7,.int .i64 i1)]∧SH w w' [Ch.own S2 (r1:List Tl05Place) [.slice p5 r1.length k4],Ch.own S3 (x1:List Int) [.slice p6 ln1 k5]]) n ⟨_,_,_,_,_,_,hF,rfl,h⟩ rfl ?_
 rintro m1 e1 w4 ⟨S3,p6,ln1,k5,x1,i1,hF,rfl,h⟩
 obtain rfl:=(h.sl 1 rfl).2
 rcases m1 with _|m1
 ·cases hF
 refine X0 8 rfl (qh rfl hF ?_ ?_)<;>intro hF
 ·refine X0 4 rfl ?_
  obtain ⟨KF1,hKF1,o2,hF,hK2⟩:=bindE hF
  refine qba (fun e w'=>∃ (b1:Bool),KF1 b1=some o1∧e=[(1,.int .i64 net),(5,.slice p6 x1.length k5),(6,.slice p5 r1.length k4),(7,.int .i64 i1),(31,.bool b1)]∧SH w w' [Ch.own S2 (r1:List Tl05Place) [.slice p5 r1.length k4],Ch.own S3 (x1:List Int) [.slice p6 x1.length k5]]) ?_ ?_
  ·refine X0 3 rfl ?_
   obtain ⟨y1,hy1,hF,he1,b2,_,q1,cs2,hp1,hq1,hr2,hc3⟩:=(h.sl 0 rfl).1.ix hF
   obtain rfl:=qbU hr2
   refine zx hp1 hq1 ⟨he1.1,qD he1.2.1 (h.sl 0 rfl).2⟩ rfl (zp1 rfl (zc 2 hc3 rfl (zp3 rfl (qk (t:=24) hF rfl ?_ ?_))))<;>intro hF
   ·refine X0 5 rfl ?_
    obtain ⟨y2,hy2,hF,he2,b3,_,q2,cs3,hp2,hq2,hr3,hc4⟩:=(h.sl 0 rfl).1.ix hF
    obtain rfl:=qbU hr3
    refine zx hp2 hq2 ⟨he2.1,qD he2.2.1 (h.sl 0 rfl).2⟩ rfl (X0 3 rfl (zc 3 hc4 rfl (X0 4 rfl ?_)))
    obtain rfl:=qb hF
    exact rG ⟨_,hK2,rfl,h⟩ rfl
   refine X0 8 rfl ?_
   obtain rfl:=qb hF
   exact rG ⟨_,hK2,rfl,h⟩ rfl
  rintro e2 w7 ⟨b1,hF,rfl,h⟩
  subst hKF1
  refine qh rfl hF ?_ ?_<;>intro hF
  ·refine X0 3 rfl (qU qa [.tmp 33] _ ([i1]:List Int) h rfl rfl rfl rfl rfl rfl rfl rfl rfl ⟨rfl,trivial⟩ rfl fun w5 p7 S4 h=>?_)
   obtain ⟨x2,hx1,hF⟩:=qd hF
   obtain ⟨g1,hx1⟩:=qaF hx1
   refine qc3 qa 2 h rfl (h.sl 0 rfl).1 (h.sl 0 rfl).2 rfl rfl rfl rfl rfl rfl rfl rfl rfl g1 hx1 rfl fun w6 p8 k6 S5 h=>X0 8 rfl ?_
   replace h:=h.pick [1,2] rfl
   exact rK ⟨_,_,_,_,_,_,hF,rfl,h⟩ rfl
  exact X0 7 rfl (rK ⟨_,_,_,_,_,_,hF,rfl,h⟩ rfl)
 refine qq rfl ?_
 obtain rfl:=qb hF;replace hF:=hK1
 refine X0 5 rfl ?_
 obtain rfl:=qb hF
 exact rO 1 h rfl ⟨rfl,trivial⟩
def qeV (b:qg):Nat→Int→Option (Flow Bool Int)
 | 0,_=>none
 | n+1,i1 =>
  bif decide (i1<(b.Ac.length:Int)) then
   (idx b.Ac i1).bind fun y1 =>
   (qgE n (⟨b.Aa.Ab,b.Aa.Ai,b.Aa.Ah⟩:qf) i1).bind fun r1 =>
   (qlr n y1 (r1.length:Int)).bind fun r2 =>
   bif (!r2) then some (.ret false) else
   qeV b n (W64 (i1+1))
  else
   some (.nxt i1)
def qfg (n:Nat) (b:qg):Option Bool :=
 (
  (qju n (⟨b.Ar.Ap⟩:qr) (⟨b.Aa.Ab,b.Aa.Ai,b.Aa.Ah⟩:qf)).bind fun r3 =>
  bif (!r3) then some true else
  some ((b.Ac.length:Int) != (b.Aa.Ai.length:Int))).bind fun b1 =>
 bif b1 then some false else
 (qeV b n 0).bind fun o=>match o with
 | .ret r=>some r
 | .nxt _ =>
  some true
theorem qj0 {b:qg} (ha1:GoT.R w (old w) b cs1) {r:Bool} (hF:qfg n b=some r):RetV Tryz.prog 69 [GoT.v qg cs1] w r:=by
 obtain ⟨p1,k1,p2,k2,p3,k3,p4,k4,p5,k5,rfl,s1,s2,s3,s4,s5⟩:=qI ha1
 refine zV 39 Tryz.func69 rfl fun h=>zSR (qv h rfl rfl fun w1 bb1 h=>X0 4 rfl ?_)
 obtain ⟨KF1,hKF1,o2,hF,hK2⟩:=bindE hF
 refine qba (fun e w'=>∃ (b1:Bool),KF1 b1=some r∧e=[(1,.pointer (some ⟨bb1,0,none⟩)),(19,.bool b1)]∧SH w w' [Ch.box bb1 (qZ b p1 p2 p3 p4 p5 k1 k2 k3 k4 k5) 53]) ?_ ?_
 ·refine X2 5 0 0 h rfl (zcB h hF (qo6 (qd7 _ (h.oldS s1)) (qax _ (h.oldS s2) (h.oldS s3) (h.oldS s4))) rfl fun r3 w6 h hF=>zp2 rfl (qk (t:=10) hF rfl ?_ ?_))<;>intro hF
  ·refine X0 10 rfl ?_
   obtain rfl:=qb hF
   exact rG ⟨_,hK2,rfl,h⟩ rfl
  refine X2 18 0 0 h rfl ?_
  obtain rfl:=qb hF
  exact rG ⟨_,hK2,rfl,h⟩ rfl
 rintro e2 w7 ⟨b1,hF,rfl,h⟩
 subst hKF1
 refine qh rfl hF ?_ ?_<;>intro hF
 ·exact X0 4 rfl (rb h hF rfl)
 refine X0 6 rfl ?_
 obtain ⟨o1,hF,hK1⟩:=qd hF
 refine qm (rL (fun m e w'=>∃ (i1:Int),qeV b m i1=some o1∧e=[(1,.pointer (some ⟨bb1,0,none⟩)),(3,.int .i64 i1)]∧SH w w' [Ch.box bb1 (qZ b p1 p2 p3 p4 p5 k1 k2 k3 k4 k5) 53]) n ⟨_,hF,rfl,h⟩ rfl ?_)
 rintro m1 e1 w2 ⟨i1,hF,rfl,h⟩
 rcases m1 with _|m1
 ·cases hF
 refine X1 9 0 h rfl (qh rfl hF ?_ ?_)<;>intro hF
 ·refine X0 4 rfl (rA [] [0] h rfl fun w3 h=>M1 7 [0,1,2] 0 (h.pick [0] rfl) rfl ?_)
  obtain ⟨y1,hy1,hF,he1,b2,_,q1,cs2,hp1,hq1,hr1,hc3⟩:=s5.ix hF
  obtain ⟨p6,k6,p7,k7,p8,k8,p9,k9,rfl,s6,s7,s8,s9⟩:=qaN hr1
  refine Ae 3 15 hp1 hq1 he1 (h.pick [0] rfl) rfl (Al 4 31 0 hc3 (h.pick [0] rfl) rfl (M1 255 [5,6,7] 0 (h.pick [0] rfl) rfl (Ao 8 511 rfl (zcL h hF (qi7 (qax _ (h.oldS s2) (h.oldS s3) (h.oldS s4))) rfl fun r1 w4 S1 p10 k10 h hF=>G0 1023 [9] (h.pick [1] rfl) rfl (Ao 10 2047 rfl (zcB h hF (qqW (qku y1 (h.oldS s6) (h.oldS s7) (h.oldS s8) (h.oldS s9))) rfl fun r2 w5 h hF=>G0 4095 [11] (h.pick [1] rfl) rfl (Ad (qh rfl hF ?_ ?_))))))))<;>intro hF
  ·refine X0 4 rfl ?_
   obtain rfl:=qb hF;replace hF:=hK1
   exact rb h hF rfl
  refine X0 7 rfl ?_
  replace h:=h.pick [1] rfl
  exact rK ⟨_,hF,rfl,h⟩ rfl
 refine qq rfl ?_
 obtain rfl:=qb hF;replace hF:=hK1
 exact X0 4 rfl (rb h hF rfl)
def qaU (_:Nat) (x:Int) (low:Int) (high:Int):Option Bool :=
 bif decide (x ≥ low) then some (decide (x≤high)) else
 some false
theorem qaH {x:Int} {low:Int} {high:Int}  {r:Bool} (hF:qaU n x low high=some r):RetV Tryz.prog 103 [.int .i64 x,.int .i64 low,.int .i64 high] w r:=by
 refine zV 15 Tryz.func103 rfl fun h=>X0 10 rfl (qk (t:=10) hF rfl ?_ ?_)<;>intro hF
 ·exact X0 9 rfl (rb h hF rfl)
 exact X0 6 rfl (rb h hF rfl)
def qh9 (_:Nat) (list:(List ByteArray)):Option Int :=
 some (list.length:Int)
theorem qmH {list:(List ByteArray)} (ha1:GoT.R w (old w) list cs1) {r:Int} (hF:qh9 n list=some r):RetV Tryz.prog 205 [GoT.v (List ByteArray) cs1] w r:=by
 obtain ⟨p1,k1,rfl,s1⟩:=ha1
 exact zV 5 Tryz.func205 rfl fun h=>X0 10 rfl (ri h hF rfl)
def qdB (n:Nat) (d:qf) (net:Int):Option Bool :=
 (qh9 n d.Ai).bind fun r1 =>
 (qaU n net 0 (W64 (r1-1))).bind fun r2 =>
 some r2
theorem qhe {d:qf} {net:Int} (ha1:GoT.R w (old w) d cs1) {r:Bool} (hF:qdB n d net=some r):RetV Tryz.prog 129 [GoT.v qf cs1,.int .i64 net] w r:=by
 obtain ⟨p1,k1,p2,k2,p3,k3,rfl,s1,s2,s3⟩:=qaA ha1
 exact zV 11 Tryz.func129 rfl fun h=>zSR (qv h rfl rfl fun w1 bb1 h=>X1 7 0 h rfl (zcI h hF (qmH ⟨_,_,rfl,(h.oldS s2)⟩) rfl fun r1 w2 h hF=>zp1 rfl (zcB h hF qaH rfl fun r2 w3 h hF=>X0 2 rfl (rb h hF rfl))))
def qiR (_:Nat) (s cutset:ByteArray):Option ByteArray :=
 if s.size≤9223372036854775807∧cutset.size<4294967281∧cutset.data.toList.all (fun b=>decide (b.toNat<128))=true then some ⟨(Lib.trimS s.data.toList cutset.data.toList).toArray⟩ else none
theorem qqe {s cutset:ByteArray} {r:ByteArray} (hF:qiR n s cutset=some r):RetV Tryz.prog 233 [.string s,.string cutset] w r:=by
 unfold qiR at hF
 split at hF
 ·rename_i hh
  obtain rfl:=qb hF
  refine (Tryz.strings_Trim_any s cutset w hh.1 hh.2.1 hh.2.2).mono ?_
  rintro e w' ⟨rfl,hB⟩
  exact ⟨_,rfl,hB,[.string _],rfl,quN _ _⟩
 cases hF
def qgS (_:Nat) (s:ByteArray) (c:(IntK .u8)):Option Int :=
 some (Lib.indexByte s.data.toList c.val.toNat.toUInt8)
theorem qm3 {s:ByteArray} {c:(IntK .u8)} {r:Int} (hF:qgS n s c=some r):RetV Tryz.prog 234 [.string s,.int .u8 c.val] w r:=by
 obtain rfl:=qb hF
 refine (Tryz.strings_IndexByte s c.val w).mono ?_
 rintro e w' ⟨rfl,rfl⟩
 exact ⟨_,rfl,Below.refl _ _,[.int .i64 _],rfl,qxh _ _⟩
def qij (n:Nat) (s:ByteArray):Option Bool :=
 (qaU n (s.size:Int) 1 8).bind fun r1 =>
 bif r1 then
  (qiR n s (⟨#[97,98,99,100,101,102,103,104,105,106,107,108,109,110,111,112,113,114,115,116,117,118,119,120,121,122,48,49,50,51,52,53,54,55,56,57]⟩:ByteArray)).bind fun r2 =>
  bif (r2.toList==(⟨#[]⟩:ByteArray).toList) then
   (atS s 0).bind fun y1 =>
   (qgS n (⟨#[97,98,99,100,101,102,103,104,105,106,107,108,109,110,111,112,113,114,115,116,117,118,119,120,121,122]⟩:ByteArray) (⟨y1⟩:IntK .u8)).bind fun r3 =>
   some (decide (r3 ≥ 0))
  else
   some false
 else
  some false
theorem qkC {s:ByteArray}  {r:Bool} (hF:qij n s=some r):RetV Tryz.prog 164 [.string s] w r:=by
 refine zV 17 Tryz.func164 rfl fun h=>X0 8 rfl (zcB h hF qaH rfl fun r1 w1 h hF=>zp1 rfl (qk (t:=6) hF rfl ?_ ?_))<;>intro hF
 ·refine X0 3 rfl (zcS h hF qqe rfl fun r2 w2 h hF=>X0 4 rfl (qk (t:=11) hF rfl ?_ ?_))<;>intro hF
  ·refine X0 3 rfl ?_
   obtain ⟨y1,hx1,hF⟩:=qd hF
   have g1:=qnc hx1
   exact r_v (qnr qa g1 rfl rfl rfl rfl) rfl (X0 1 rfl (zcI h hF qm3 rfl fun r3 w3 h hF=>X0 5 rfl (rb h hF rfl)))
  exact X0 7 rfl (rb h hF rfl)
 exact X0 12 rfl (rb h hF rfl)
def qcv (_:Nat) (list:(List qal)):Option Int :=
 some (list.length:Int)
theorem qik {list:(List qal)} (ha1:GoT.R w (old w) list cs1) {r:Int} (hF:qcv n list=some r):RetV Tryz.prog 248 [GoT.v (List qal) cs1] w r:=by
 obtain ⟨p1,k1,rfl,s1⟩:=ha1
 exact zV 5 Tryz.func248 rfl fun h=>X0 10 rfl (ri h hF rfl)
def qbZ (s:(List ByteArray)) (v:ByteArray):Nat→Int→Option (Flow Int Int)
 | 0,_=>none
 | n+1,i1 =>
  bif decide (i1<(s.length:Int)) then
   (idx s i1).bind fun y1 =>
   bif (v.toList==y1.toList) then some (.ret i1) else
   qbZ s v n (W64 (i1+1))
  else
   some (.nxt i1)
def qfx (n:Nat) (s:(List ByteArray)) (v:ByteArray):Option Int :=
 (qbZ s v n 0).bind fun o=>match o with
 | .ret r=>some r
 | .nxt _ =>
  some (-1)
theorem qma {s:(List ByteArray)} {v:ByteArray} (ha1:GoT.R w (old w) s cs1) {r:Int} (hF:qfx n s v=some r):RetV Tryz.prog 320 [GoT.v (List ByteArray) cs1,.string v] w r:=by
 obtain ⟨p1,k1,rfl,s1⟩:=ha1
 refine zV 19 Tryz.func320 rfl fun h=>X0 11 rfl ?_
 obtain ⟨o1,hF,hK1⟩:=qd hF
 refine qm (rL (fun m e w'=>∃ (i1:Int),qbZ s v m i1=some o1∧e=[(0,.slice p1 s.length k1),(1,.string v),(7,.int .i64 (s.length:Int)),(8,.int .i64 i1)]∧SH w w' []) n ⟨_,hF,rfl,h⟩ rfl ?_)
 rintro m1 e1 w1 ⟨i1,hF,rfl,h⟩
 rcases m1 with _|m1
 ·cases hF
 refine X0 5 rfl (qh rfl hF ?_ ?_)<;>intro hF
 ·refine X0 13 rfl ?_
  obtain ⟨y1,hy1,hF,he1,b1,_,q1,cs2,hp1,hq1,rfl,hc2⟩:=s1.ix hF
  refine zxe hp1 hq1 he1 rfl (zc 0 (hc2.below h.below) rfl (X0 2 rfl (qh rfl hF ?_ ?_)))<;>intro hF
  ·refine X0 5 rfl ?_
   obtain rfl:=qb hF;replace hF:=hK1
   exact ri h hF rfl
  exact X0 6 rfl (rK ⟨_,hF,rfl,h⟩ rfl)
 refine qq rfl ?_
 obtain rfl:=qb hF;replace hF:=hK1
 exact X0 4 rfl (ri h hF rfl)
def qd6 (n:Nat) (s:(List ByteArray)) (v:ByteArray):Option Bool :=
 (qfx n s v).bind fun r1 =>
 some (decide (r1 ≥ 0))
theorem qk5 {s:(List ByteArray)} {v:ByteArray} (ha1:GoT.R w (old w) s cs1) {r:Bool} (hF:qd6 n s v=some r):RetV Tryz.prog 301 [GoT.v (List ByteArray) cs1,.string v] w r:=by
 obtain ⟨p1,k1,rfl,s1⟩:=ha1
 exact zV 9 Tryz.func301 rfl fun h=>X0 8 rfl (zcI h hF (qma ⟨_,_,rfl,(h.oldS s1)⟩) rfl fun r1 w1 h hF=>X0 3 rfl (rb h hF rfl))
def qer (list:(List ByteArray)):Nat→Int→Option (Flow Bool Int)
 | 0,_=>none
 | n+1,i1 =>
  bif decide (i1<(list.length:Int)) then
   (idx list i1).bind fun y1 =>
   (qij n y1).bind fun r1 =>
   bif (!r1) then some (.ret false) else
   (subS list 0 i1).bind fun x1 =>
   (qd6 n x1 y1).bind fun r2 =>
   bif r2 then some (.ret false) else
   qer list n (W64 (i1+1))
  else
   some (.nxt i1)
def qeh (n:Nat) (list:(List ByteArray)):Option Bool :=
 (qer list n 0).bind fun o=>match o with
 | .ret r=>some r
 | .nxt _ =>
  some true
theorem qfP {list:(List ByteArray)} (ha1:GoT.R w (old w) list cs1) {r:Bool} (hF:qeh n list=some r):RetV Tryz.prog 267 [GoT.v (List ByteArray) cs1] w r:=by
 obtain ⟨p1,k1,rfl,s1⟩:=ha1
 refine zV 23 Tryz.func267 rfl fun h=>X0 11 rfl ?_
 obtain ⟨o1,hF,hK1⟩:=qd hF
 refine qm (rL (fun m e w'=>∃ (i1:Int),qer list m i1=some o1∧e=[(0,.slice p1 list.length k1),(5,.slice p1 list.length k1),(6,.int .i64 (list.length:Int)),(7,.int .i64 i1)]∧SH w w' []) n ⟨_,hF,rfl,h⟩ rfl ?_)
 rintro m1 e1 w1 ⟨i1,hF,rfl,h⟩
 rcases m1 with _|m1
 ·cases hF
 refine X0 5 rfl (qh rfl hF ?_ ?_)<;>intro hF
 ·refine X0 6 rfl ?_
  obtain ⟨y1,hy1,hF,he1,b1,_,q1,cs2,hp1,hq1,rfl,hc2⟩:=s1.ix hF
  refine zxe hp1 hq1 he1 rfl (zc 0 (hc2.below h.below) rfl (X0 6 rfl (zcB h hF qkC rfl fun r1 w2 h hF=>zp2 rfl (qk (t:=15) hF rfl ?_ ?_))))<;>intro hF
  ·refine X0 7 rfl (qb8 rfl rfl (X0 4 rfl ?_))
   obtain rfl:=qb hF;replace hF:=hK1
   exact rb h hF rfl
  refine X0 5 rfl ?_
  obtain ⟨x1,hx1,hF⟩:=qd hF
  obtain ⟨p2,k2,hp2,hk1,hl1,g1⟩:=qwu (h.oldS s1) hx1
  refine r_v (qt7 qa rfl rfl rfl (qxf g1 rfl) hp2 hk1 hl1 rfl rfl rfl rfl) rfl ?_
  have s2:=qxw s1 hx1 hp2 hk1
  refine X0 3 rfl (zcB h hF (qk5 ⟨_,_,rfl,(h.oldS s2)⟩) rfl fun r2 w3 h hF=>X0 2 rfl (qh rfl hF ?_ ?_))<;>intro hF
  ·refine X0 4 rfl ?_
   obtain rfl:=qb hF;replace hF:=hK1
   exact rb h hF rfl
  exact X0 6 rfl (rK ⟨_,hF,rfl,h⟩ rfl)
 refine qq rfl ?_
 obtain rfl:=qb hF;replace hF:=hK1
 exact X0 4 rfl (rb h hF rfl)
def qc2 (list:(List qal)):Nat→(List ByteArray)→Int→Option (Flow Bool ((List ByteArray) × Int))
 | 0,_,_=>none
 | n+1,x1,i1 =>
  bif decide (i1<(list.length:Int)) then
   (idx list i1).bind fun y1 =>
   (appS x1 ([y1.Az]:List ByteArray)).bind fun x2 =>
   bif (i1==(W64 ((list.length:Int)-1))) then
    bif (y1.Br != 2) then some (.ret false) else
    bif (y1.Bo != 0) then some (.ret false) else
    bif y1.Bn then some (.ret false) else
    qc2 list n x2 (W64 (i1+1))
   else
    bif (y1.Br != 1) then some (.ret false) else
    (qaU n y1.Bo 0 500).bind fun r1 =>
    bif (!r1) then some (.ret false) else
    qc2 list n x2 (W64 (i1+1))
  else
   some (.nxt (x1,i1))
def qkb (n:Nat) (list:(List qal)):Option Bool :=
 (qc2 list n ([]:List ByteArray) 0).bind fun o=>match o with
 | .ret r=>some r
 | .nxt (x1,_) =>
  (qcv n list).bind fun r2 =>
  (qaU n r2 2 5).bind fun r3 =>
  bif r3 then
   (qeh n x1).bind fun r4 =>
   some r4
  else
   some false
theorem qqi {list:(List qal)} (ha1:GoT.R w (old w) list cs1) {r:Bool} (hF:qkb n list=some r):RetV Tryz.prog 298 [GoT.v (List qal) cs1] w r:=by
 obtain ⟨p1,k1,rfl,s1⟩:=ha1
 refine zV 52 Tryz.func298 rfl fun h=>X0 15 rfl ?_
 replace h:=h.nil (α:=ByteArray)
 obtain ⟨o1,hF,hK1⟩:=qd hF
 refine qm (rL (fun m e w'=>∃ (S1:Nat→Prop) (p2:Option Addr) (ln1:Nat) (k2:Nat) (x1:(List ByteArray)) (i1:Int),qc2 list m x1 i1=some o1∧e=[(0,.slice p1 list.length k1),(3,.slice p2 ln1 k2),(6,.slice p1 list.length k1),(7,.int .i64 (list.length:Int)),(8,.int .i64 i1)]∧SH w w' [Ch.own S1 (x1:List ByteArray) [.slice p2 ln1 k2]]) n ⟨_,_,_,_,_,_,hF,rfl,h⟩ rfl ?_)
 rintro m1 e1 w1 ⟨S1,p2,ln1,k2,x1,i1,hF,rfl,h⟩
 obtain rfl:=(h.sl 0 rfl).2
 rcases m1 with _|m1
 ·cases hF
 refine X0 5 rfl (qh rfl hF ?_ ?_)<;>intro hF
 ·refine X0 6 rfl ?_
  obtain ⟨y1,hy1,hF,he1,b1,_,q1,cs2,hp1,hq1,hr1,hc2⟩:=s1.ix hF
  obtain rfl:=qaX hr1
  refine zxe hp1 hq1 he1 rfl (zc 0 (hc2.below h.below) rfl (qp qa h rfl rfl rfl fun w2 bb1 h=>zp1 rfl (zs 0 h rfl fun w3 h=>X1 6 0 h rfl (qU qa [.tmp 15] _ ([y1.Az]:List ByteArray) h rfl rfl rfl rfl rfl rfl rfl rfl rfl ⟨rfl,trivial⟩ rfl fun w4 p3 S2 h=>?_))))
  obtain ⟨x2,hx1,hF⟩:=qd hF
  obtain ⟨g1,hx1⟩:=qaF hx1
  refine qc3 qa 2 h rfl (h.sl 0 rfl).1 (h.sl 0 rfl).2 rfl rfl rfl rfl rfl rfl rfl rfl rfl g1 hx1 rfl fun w5 p4 k3 S3 h=>X0 10 rfl (qh rfl hF ?_ ?_)<;>intro hF
  ·refine X1 6 1 h rfl (qk (t:=26) hF rfl ?_ ?_)<;>intro hF
   ·refine X0 9 rfl (qb8 rfl rfl (X0 4 rfl ?_))
    obtain rfl:=qb hF;replace hF:=hK1
    exact rb h hF rfl
   refine X1 8 1 h rfl (qk (t:=31) hF rfl ?_ ?_)<;>intro hF
   ·refine X0 4 rfl (qb8 rfl rfl (X0 4 rfl ?_))
    obtain rfl:=qb hF;replace hF:=hK1
    exact rb h hF rfl
   refine X1 6 1 h rfl (qh rfl hF ?_ ?_)<;>intro hF
   ·refine X0 4 rfl ?_
    obtain rfl:=qb hF;replace hF:=hK1
    exact rb h hF rfl
   refine X0 6 rfl ?_
   replace h:=h.pick [2] rfl
   exact rK ⟨_,_,_,_,_,_,hF,rfl,h⟩ rfl
  refine X1 6 1 h rfl (qk (t:=38) hF rfl ?_ ?_)<;>intro hF
  ·refine X0 6 rfl (qb8 rfl rfl (X0 4 rfl ?_))
   obtain rfl:=qb hF;replace hF:=hK1
   exact rb h hF rfl
  refine X1 5 1 h rfl (zcB h hF qaH rfl fun r1 w6 h hF=>X0 4 rfl (qh rfl hF ?_ ?_))<;>intro hF
  ·refine X0 4 rfl ?_
   obtain rfl:=qb hF;replace hF:=hK1
   exact rb h hF rfl
  refine X0 6 rfl ?_
  replace h:=h.pick [2] rfl
  exact rK ⟨_,_,_,_,_,_,hF,rfl,h⟩ rfl
 refine qq rfl ?_
 obtain rfl:=qb hF;replace hF:=hK1
 refine X0 3 rfl (zcI h hF (qik ⟨_,_,rfl,(h.oldS s1)⟩) rfl fun r2 w7 h hF=>zcB h hF qaH rfl fun r3 w8 h hF=>zp1 rfl (qk (t:=48) hF rfl ?_ ?_))<;>intro hF
 ·exact X0 3 rfl (zcB h hF (qfP (h.own 0 rfl)) rfl fun r4 w9 h hF=>X0 3 rfl (rb h hF rfl))
 exact X0 5 rfl (rb h hF rfl)
def qez (n:Nat) (c:qw):Option Int :=
 (qcv n c.Au).bind fun r1 =>
 some (W64 (r1-1))
theorem qhJ {c:qw} (ha1:GoT.R w (old w) c cs1) {r:Int} (hF:qez n c=some r):RetV Tryz.prog 188 [GoT.v qw cs1] w r:=by
 obtain ⟨p1,k1,p2,k2,p3,k3,rfl,s1,s2,s3⟩:=qae ha1
 exact zV 7 Tryz.func188 rfl fun h=>zSR (qv h rfl rfl fun w1 bb1 h=>X1 6 0 h rfl (zcI h hF (qik ⟨_,_,rfl,(h.oldS s1)⟩) rfl fun r1 w2 h hF=>X0 3 rfl (ri h hF rfl)))
def qkj (_:Nat) (kind:Int):Option Bool :=
 bif (kind==4) then some true else
 some (kind==5)
theorem qp0 {kind:Int}  {r:Bool} (hF:qkj n kind=some r):RetV Tryz.prog 329 [.int .i64 kind] w r:=by
 refine zV 9 Tryz.func329 rfl fun h=>X0 9 rfl (qk (t:=5) hF rfl ?_ ?_)<;>intro hF
 ·exact X0 5 rfl (rb h hF rfl)
 exact X0 7 rfl (rb h hF rfl)
def qhC (n:Nat) (a_n:Int) (v0:Int) (v1:Int):Option Bool :=
 (qaU n a_n v0 v1).bind fun r1 =>
 some (!r1)
theorem qnJ {a_n:Int} {v0:Int} {v1:Int} {p1:Option Addr} (ha1:GoT.R w (old w) (some v0) [.pointer p1]) {p2:Option Addr} (ha2:GoT.R w (old w) (some v1) [.pointer p2]) {r:Bool} (hF:qhC n a_n v0 v1=some r):RetV Tryz.prog 166 [.int .i64 a_n,.pointer p1,.pointer p2] w r:=by
 obtain ⟨b1,o_1,cs1,rfl,-,hr1,hc1⟩:=PtR.get ha1 rfl
 obtain rfl:=hr1
 obtain ⟨b2,o_2,cs2,rfl,-,hr2,hc2⟩:=PtR.get ha2 rfl
 obtain rfl:=hr2
 exact zV 10 Tryz.func166 rfl fun h=>X0 7 rfl (zc 0 (hc1.below h.below) rfl (zc 0 (hc2.below h.below) rfl (zcB h hF qaH rfl fun r1 w1 h hF=>X0 3 rfl (rb h hF rfl))))
def qag (s:(List Int)) (f_0:Int) (f_1:Int):Nat→Int→Option (Flow Int Int)
 | 0,_=>none
 | n+1,i1 =>
  bif decide (i1<(s.length:Int)) then
   (idx s i1).bind fun y1 =>
   (qhC n y1 f_0 f_1).bind fun r1 =>
   bif r1 then some (.ret i1) else
   qag s f_0 f_1 n (W64 (i1+1))
  else
   some (.nxt i1)
def qaZ (n:Nat) (s:(List Int)) (f_0:Int) (f_1:Int):Option Int :=
 (qag s f_0 f_1 n 0).bind fun o=>match o with
 | .ret r=>some r
 | .nxt _ =>
  some (-1)
theorem qfW {s:(List Int)} {f_0:Int} {f_1:Int} (ha1:GoT.R w (old w) s cs1) {p2:Option Addr} (ha2:GoT.R w (old w) (some f_0) [.pointer p2]) {p3:Option Addr} (ha3:GoT.R w (old w) (some f_1) [.pointer p3]) {r:Int} (hF:qaZ n s f_0 f_1=some r):RetV Tryz.prog 159 [GoT.v (List Int) cs1,.func (.func 166) #[] #[.pointer p2,.pointer p3]] w r:=by
 obtain ⟨p1,k1,rfl,s1⟩:=ha1
 obtain ⟨b1,o_1,cs2,rfl,-,hr1,hc1⟩:=PtR.get ha2 rfl
 obtain rfl:=hr1
 obtain ⟨b2,o_2,cs3,rfl,-,hr2,hc2⟩:=PtR.get ha3 rfl
 obtain rfl:=hr2
 refine zV 19 Tryz.func159 rfl fun h=>X0 11 rfl ?_
 obtain ⟨o1,hF,hK1⟩:=qd hF
 refine qm (rL (fun m e w'=>∃ (i1:Int),qag s f_0 f_1 m i1=some o1∧e=[(0,.slice p1 s.length k1),(1,.func (.func 166) #[] #[.pointer (some ⟨b1,o_1,none⟩),.pointer (some ⟨b2,o_2,none⟩)]),(7,.int .i64 (s.length:Int)),(8,.int .i64 i1)]∧SH w w' []) n ⟨_,hF,rfl,h⟩ rfl ?_)
 rintro m1 e1 w1 ⟨i1,hF,rfl,h⟩
 rcases m1 with _|m1
 ·cases hF
 refine X0 5 rfl (qh rfl hF ?_ ?_)<;>intro hF
 ·refine X0 13 rfl ?_
  obtain ⟨y1,hy1,hF,he1,b3,_,q1,cs4,hp1,hq1,rfl,hc4⟩:=s1.ix hF
  refine zxe hp1 hq1 he1 rfl (zc 0 (hc4.below h.below) rfl (zcB h hF (qnJ (h.old ha2) (h.old ha3)) rfl fun r1 w2 h hF=>qc6 (qh rfl hF ?_ ?_)))<;>intro hF
  ·refine X0 5 rfl ?_
   obtain rfl:=qb hF;replace hF:=hK1
   exact ri h hF rfl
  exact X0 6 rfl (rK ⟨_,hF,rfl,h⟩ rfl)
 refine qq rfl ?_
 obtain rfl:=qb hF;replace hF:=hK1
 exact X0 4 rfl (ri h hF rfl)
def qbC (n:Nat) (s:(List Int)) (f_0:Int) (f_1:Int):Option Bool :=
 (qaZ n s f_0 f_1).bind fun r1 =>
 some (decide (r1 ≥ 0))
theorem qfv {s:(List Int)} {f_0:Int} {f_1:Int} (ha1:GoT.R w (old w) s cs1) {p2:Option Addr} (ha2:GoT.R w (old w) (some f_0) [.pointer p2]) {p3:Option Addr} (ha3:GoT.R w (old w) (some f_1) [.pointer p3]) {r:Bool} (hF:qbC n s f_0 f_1=some r):RetV Tryz.prog 80 [GoT.v (List Int) cs1,.func (.func 166) #[] #[.pointer p2,.pointer p3]] w r:=by
 obtain ⟨p1,k1,rfl,s1⟩:=ha1
 obtain ⟨b1,o_1,cs2,rfl,-,hr1,hc1⟩:=PtR.get ha2 rfl
 obtain rfl:=hr1
 obtain ⟨b2,o_2,cs3,rfl,-,hr2,hc2⟩:=PtR.get ha3 rfl
 obtain rfl:=hr2
 exact zV 9 Tryz.func80 rfl fun h=>X0 8 rfl (zcI h hF (qfW ⟨_,_,rfl,(h.oldS s1)⟩ (h.old ha2) (h.old ha3)) rfl fun r1 w1 h hF=>X0 3 rfl (rb h hF rfl))
def qbD (n:Nat) (list:(List Int)) (low:Int) (high:Int):Option Bool :=
 (qbC n list low high).bind fun r1 =>
 some (!r1)
theorem qb6 {list:(List Int)} {low:Int} {high:Int} (ha1:GoT.R w (old w) list cs1) {r:Bool} (hF:qbD n list low high=some r):RetV Tryz.prog 87 [GoT.v (List Int) cs1,.int .i64 low,.int .i64 high] w r:=by
 obtain ⟨p1,k1,rfl,s1⟩:=ha1
 exact zV 11 Tryz.func87 rfl fun h=>zSR (qv h rfl rfl fun w1 bb1 h=>qv h rfl rfl fun w2 bb2 h=>X0 6 rfl (zcB h hF (qfv ⟨_,_,rfl,(h.oldS s1)⟩ (qdu (x:=low) 1 h rfl rfl) (qdu (x:=high) 0 h rfl rfl)) rfl fun r1 w3 h hF=>X0 3 rfl (rb h hF rfl)))
def qbv (_:Nat) (list:(List Int)):Option Int :=
 some (list.length:Int)
theorem qcu {list:(List Int)} (ha1:GoT.R w (old w) list cs1) {r:Int} (hF:qbv n list=some r):RetV Tryz.prog 175 [GoT.v (List Int) cs1] w r:=by
 obtain ⟨p1,k1,rfl,s1⟩:=ha1
 exact zV 5 Tryz.func175 rfl fun h=>X0 10 rfl (ri h hF rfl)
def qbz (list:(List Int)):Nat→Int→Option (Flow Bool Int)
 | 0,_=>none
 | n+1,i1 =>
  bif decide (i1<(list.length:Int)) then
   (idx list (W64 (i1-1))).bind fun y1 =>
   (idx list i1).bind fun y2 =>
   bif decide (y1 ≥ y2) then some (.ret false) else
   qbz list n (W64 (i1+1))
  else
   some (.nxt i1)
def qe2 (n:Nat) (list:(List Int)):Option Bool :=
 (qbz list n 1).bind fun o=>match o with
 | .ret r=>some r
 | .nxt _ =>
  some true
theorem qjG {list:(List Int)} (ha1:GoT.R w (old w) list cs1) {r:Bool} (hF:qe2 n list=some r):RetV Tryz.prog 179 [GoT.v (List Int) cs1] w r:=by
 obtain ⟨p1,k1,rfl,s1⟩:=ha1
 refine zV 20 Tryz.func179 rfl fun h=>X0 9 rfl ?_
 obtain ⟨o1,hF,hK1⟩:=qd hF
 refine qm (rL (fun m e w'=>∃ (i1:Int),qbz list m i1=some o1∧e=[(0,.slice p1 list.length k1),(3,.int .i64 i1)]∧SH w w' []) n ⟨_,hF,rfl,h⟩ rfl ?_)
 rintro m1 e1 w1 ⟨i1,hF,rfl,h⟩
 rcases m1 with _|m1
 ·cases hF
 refine X0 8 rfl (qh rfl hF ?_ ?_)<;>intro hF
 ·refine X0 4 rfl (rD (zd3 rfl ?_))
  obtain ⟨y1,hy1,hF,he1,b1,_,q1,cs2,hp1,hq1,rfl,hc2⟩:=s1.ix hF
  refine zdxe hp1 hq1 he1 rfl (zdc 0 (hc2.below h.below) rfl (zd2 rfl ?_))
  obtain ⟨y2,hy2,hF,he2,b2,_,q2,cs3,hp2,hq2,rfl,hc3⟩:=s1.ix hF
  refine zdxe hp2 hq2 he2 rfl (zdc 0 (hc3.below h.below) rfl (zd1 rfl (dN h fun w2 h=>qh rfl hF ?_ ?_)))<;>intro hF
  ·refine X0 4 rfl ?_
   obtain rfl:=qb hF;replace hF:=hK1
   exact rb h hF rfl
  exact X0 7 rfl (rK ⟨_,hF,rfl,h⟩ rfl)
 refine qq rfl ?_
 obtain rfl:=qb hF;replace hF:=hK1
 exact X0 4 rfl (rb h hF rfl)
def qjL (n:Nat) (list:(List Int)):Option Bool :=
 (qbv n list).bind fun r1 =>
 (qaU n r1 1 4).bind fun r2 =>
 bif r2 then
  (qbD n list 0 100000).bind fun r3 =>
  bif r3 then
   (qe2 n list).bind fun r4 =>
   some r4
  else
   some false
 else
  some false
theorem qnd {list:(List Int)} (ha1:GoT.R w (old w) list cs1) {r:Bool} (hF:qjL n list=some r):RetV Tryz.prog 348 [GoT.v (List Int) cs1] w r:=by
 obtain ⟨p1,k1,rfl,s1⟩:=ha1
 refine zV 14 Tryz.func348 rfl fun h=>X0 7 rfl (zcI h hF (qcu ⟨_,_,rfl,(h.oldS s1)⟩) rfl fun r1 w1 h hF=>zcB h hF qaH rfl fun r2 w2 h hF=>zp1 rfl (qk (t:=6) hF rfl ?_ ?_))<;>intro hF
 ·refine X0 3 rfl (zcB h hF (qb6 ⟨_,_,rfl,(h.oldS s1)⟩) rfl fun r3 w3 h hF=>zp2 rfl (qk (t:=10) hF rfl ?_ ?_))<;>intro hF
  ·exact X0 3 rfl (zcB h hF (qjG ⟨_,_,rfl,(h.oldS s1)⟩) rfl fun r4 w4 h hF=>X0 3 rfl (rb h hF rfl))
  exact X0 5 rfl (rb h hF rfl)
 exact X0 9 rfl (rb h hF rfl)
def qkm (n:Nat) (t:qt):Option Bool :=
 (qjL n t.Bi).bind fun r1 =>
 bif r1 then
  (qjL n t.Bb).bind fun r2 =>
  bif r2 then
   bif ((t.Ba.length:Int)==(W64 ((t.Bi.length:Int)*(t.Bb.length:Int)))) then
    (qbD n t.Ba (-1000000) 1000000).bind fun r3 =>
    some r3
   else
    some false
  else
   some false
 else
  some false
theorem qqm {t:qt} (ha1:GoT.R w (old w) t cs1) {r:Bool} (hF:qkm n t=some r):RetV Tryz.prog 342 [GoT.v qt cs1] w r:=by
 obtain ⟨p1,k1,p2,k2,p3,k3,rfl,s1,s2,s3⟩:=qaG ha1
 refine zV 29 Tryz.func342 rfl fun h=>zSR (qv h rfl rfl fun w1 bb1 h=>X1 6 0 h rfl (zcB h hF (qnd ⟨_,_,rfl,(h.oldS s1)⟩) rfl fun r1 w2 h hF=>zp1 rfl (qk (t:=6) hF rfl ?_ ?_)))<;>intro hF
 ·refine X1 5 0 h rfl (zcB h hF (qnd ⟨_,_,rfl,(h.oldS s2)⟩) rfl fun r2 w3 h hF=>zp2 rfl (qk (t:=11) hF rfl ?_ ?_))<;>intro hF
  ·refine X3 24 0 0 0 h rfl (qk (t:=24) hF rfl ?_ ?_)<;>intro hF
   ·exact X1 5 0 h rfl (zcB h hF (qb6 ⟨_,_,rfl,(h.oldS s3)⟩) rfl fun r3 w4 h hF=>X0 3 rfl (rb h hF rfl))
   exact X0 6 rfl (rb h hF rfl)
  exact X0 19 rfl (rb h hF rfl)
 exact X0 24 rfl (rb h hF rfl)
def qcP (x:(List Int)):Nat→Int→Int→Option (Int × Int)
 | 0,_,_=>none
 | n+1,i1,i2 =>
  bif decide (i2<(x.length:Int)) then
   (idx x i2).bind fun y2 =>
   qcP x n (if y2<i1 then y2 else i1) (W64 (i2+1))
  else
   some (i1,i2)
def qhx (n:Nat) (x:(List Int)):Option Int :=
 (
  bif decide ((x.length:Int)<1) then none else
  some ()).bind fun _ =>
 (idx x 0).bind fun y1 =>
 (qcP x n y1 1).bind fun o=>match o with
 | (i1,_) =>
  some i1
theorem qnN {x:(List Int)} (ha1:GoT.R w (old w) x cs1) {r:Int} (hF:qhx n x=some r):RetV Tryz.prog 343 [GoT.v (List Int) cs1] w r:=by
 obtain ⟨p1,k1,rfl,s1⟩:=ha1
 refine zV 25 Tryz.func343 rfl fun h=>X0 11 rfl ?_
 obtain ⟨KF1,hKF1,o2,hF,hK2⟩:=bindE hF
 refine qba (fun e w'=>KF1 ()=some r∧e=[(0,.slice p1 x.length k1)]∧SH w w' []) ?_ ?_
 ·refine qh rfl hF ?_ ?_<;>intro hF
  ·refine qlW ?_
   cases hF
  refine qhE ?_
  obtain rfl:=qb hF
  exact rG ⟨hK2,rfl,h⟩ rfl
 rintro e2 w2 ⟨hF,rfl,h⟩
 subst hKF1
 refine X0 3 rfl ?_
 obtain ⟨y1,hy1,hF,he1,b1,_,q1,cs2,hp1,hq1,rfl,hc1⟩:=s1.ix hF
 refine zxe hp1 hq1 he1 rfl (zc 0 (hc1.below h.below) rfl (X0 7 rfl ?_))
 obtain ⟨o1,hF,hK1⟩:=qd hF
 refine qm (rL (fun m e w'=>∃ (i1:Int) (i2:Int),qcP x m i1 i2=some o1∧e=[(0,.slice p1 x.length k1),(3,.int .i64 i1),(4,.int .i64 i2)]∧SH w w' []) n ⟨_,_,hF,rfl,h⟩ rfl ?_)
 rintro m1 e1 w1 ⟨i1,i2,hF,rfl,h⟩
 rcases m1 with _|m1
 ·cases hF
 refine X0 8 rfl (qh rfl hF ?_ ?_)<;>intro hF
 ·refine X0 7 rfl ?_
  obtain ⟨y2,hy2,hF,he2,b2,_,q2,cs3,hp2,hq2,rfl,hc3⟩:=s1.ix hF
  exact zxe hp2 hq2 he2 rfl (zc 0 (hc3.below h.below) rfl (X0 9 rfl (rK ⟨_,_,hF,rfl,h⟩ rfl)))
 refine qq rfl ?_
 obtain rfl:=qb hF;replace hF:=hK1
 exact X0 5 rfl (ri h hF rfl)
def qhs (n:Nat) (t:qt) (v0:Bool):Option Bool :=
 (qkm n t).bind fun r1 =>
 bif (!r1) then some true else
 bif v0 then
  (qhx n t.Ba).bind fun r2 =>
  some (decide (r2<0))
 else
  some false
theorem qnT {t:qt} {v0:Bool} (ha1:GoT.R w (old w) t cs1) {p4:Option Addr} (ha2:GoT.R w (old w) (some v0) [.pointer p4]) {r:Bool} (hF:qhs n t v0=some r):RetV Tryz.prog 341 [GoT.v qt cs1,.pointer p4] w r:=by
 obtain ⟨p1,k1,p2,k2,p3,k3,rfl,s1,s2,s3⟩:=qaG ha1
 obtain ⟨b1,o_1,cs2,rfl,-,hr1,hc1⟩:=PtR.get ha2 rfl
 obtain rfl:=hr1
 refine zV 16 Tryz.func341 rfl fun h=>zSR (qv h rfl rfl fun w1 bb1 h=>X1 5 0 h rfl (zcB h hF (qqm (h.old ha1)) rfl fun r1 w2 h hF=>zp2 rfl (qk (t:=7) hF rfl ?_ ?_)))<;>intro hF
 ·exact X0 10 rfl (rb h hF rfl)
 refine X0 1 rfl (zc 0 (hc1.below h.below) rfl (X0 2 rfl (qk (t:=9) hF rfl ?_ ?_)))<;>intro hF
 ·exact X1 5 0 h rfl (zcI h hF (qnN ⟨_,_,rfl,(h.oldS s3)⟩) rfl fun r2 w3 h hF=>X0 7 rfl (rb h hF rfl))
 exact X0 9 rfl (rb h hF rfl)
def qS (s:(List qt)) (f_0:Bool):Nat→Int→Option (Flow Int Int)
 | 0,_=>none
 | n+1,i1 =>
  bif decide (i1<(s.length:Int)) then
   (idx s i1).bind fun y1 =>
   (qhs n y1 f_0).bind fun r1 =>
   bif r1 then some (.ret i1) else
   qS s f_0 n (W64 (i1+1))
  else
   some (.nxt i1)
def qaJ (n:Nat) (s:(List qt)) (f_0:Bool):Option Int :=
 (qS s f_0 n 0).bind fun o=>match o with
 | .ret r=>some r
 | .nxt _ =>
  some (-1)
theorem qe5 {s:(List qt)} {f_0:Bool} (ha1:GoT.R w (old w) s cs1) {p2:Option Addr} (ha2:GoT.R w (old w) (some f_0) [.pointer p2]) {r:Int} (hF:qaJ n s f_0=some r):RetV Tryz.prog 347 [GoT.v (List qt) cs1,.func (.func 341) #[] #[.pointer p2]] w r:=by
 obtain ⟨p1,k1,rfl,s1⟩:=ha1
 obtain ⟨b1,o_1,cs2,rfl,-,hr1,hc1⟩:=PtR.get ha2 rfl
 obtain rfl:=hr1
 refine zV 19 Tryz.func347 rfl fun h=>X0 11 rfl ?_
 obtain ⟨o1,hF,hK1⟩:=qd hF
 refine qm (rL (fun m e w'=>∃ (i1:Int),qS s f_0 m i1=some o1∧e=[(0,.slice p1 s.length k1),(1,.func (.func 341) #[] #[.pointer (some ⟨b1,o_1,none⟩)]),(7,.int .i64 (s.length:Int)),(8,.int .i64 i1)]∧SH w w' []) n ⟨_,hF,rfl,h⟩ rfl ?_)
 rintro m1 e1 w1 ⟨i1,hF,rfl,h⟩
 rcases m1 with _|m1
 ·cases hF
 refine X0 5 rfl (qh rfl hF ?_ ?_)<;>intro hF
 ·refine X0 13 rfl ?_
  obtain ⟨y1,hy1,hF,he1,b2,_,q1,cs3,hp1,hq1,hr2,hc3⟩:=s1.ix hF
  obtain ⟨p3,k2,p4,k3,p5,k4,rfl,s2,s3,s4⟩:=qaG hr2
  refine zxe hp1 hq1 he1 rfl (zc 0 (hc3.below h.below) rfl (zcB h hF (qnT (qfq y1 (h.oldS s2) (h.oldS s3) (h.oldS s4)) (h.old ha2)) rfl fun r1 w2 h hF=>qc6 (qh rfl hF ?_ ?_)))<;>intro hF
  ·refine X0 5 rfl ?_
   obtain rfl:=qb hF;replace hF:=hK1
   exact ri h hF rfl
  exact X0 6 rfl (rK ⟨_,hF,rfl,h⟩ rfl)
 refine qq rfl ?_
 obtain rfl:=qb hF;replace hF:=hK1
 exact X0 4 rfl (ri h hF rfl)
def qa5 (n:Nat) (s:(List qt)) (f_0:Bool):Option Bool :=
 (qaJ n s f_0).bind fun r1 =>
 some (decide (r1 ≥ 0))
theorem qeD {s:(List qt)} {f_0:Bool} (ha1:GoT.R w (old w) s cs1) {p2:Option Addr} (ha2:GoT.R w (old w) (some f_0) [.pointer p2]) {r:Bool} (hF:qa5 n s f_0=some r):RetV Tryz.prog 340 [GoT.v (List qt) cs1,.func (.func 341) #[] #[.pointer p2]] w r:=by
 obtain ⟨p1,k1,rfl,s1⟩:=ha1
 obtain ⟨b1,o_1,cs2,rfl,-,hr1,hc1⟩:=PtR.get ha2 rfl
 obtain rfl:=hr1
 exact zV 9 Tryz.func340 rfl fun h=>X0 8 rfl (zcI h hF (qe5 ⟨_,_,rfl,(h.oldS s1)⟩ (h.old ha2)) rfl fun r1 w1 h hF=>X0 3 rfl (rb h hF rfl))
def qfG (n:Nat) (list:(List qt)) (positive:Bool):Option Bool :=
 bif ((list.length:Int)==2) then
  (qa5 n list positive).bind fun r1 =>
  some (!r1)
 else
  some false
theorem qiF {list:(List qt)} {positive:Bool} (ha1:GoT.R w (old w) list cs1) {r:Bool} (hF:qfG n list positive=some r):RetV Tryz.prog 330 [GoT.v (List qt) cs1,.bool positive] w r:=by
 obtain ⟨p1,k1,rfl,s1⟩:=ha1
 refine zV 14 Tryz.func330 rfl fun h=>zSR (qv h rfl rfl fun w1 bb1 h=>X0 8 rfl (qk (t:=8) hF rfl ?_ ?_))<;>intro hF
 ·exact X0 5 rfl (zcB h hF (qeD ⟨_,_,rfl,(h.oldS s1)⟩ (qdu (x:=positive) 0 h rfl rfl)) rfl fun r1 w2 h hF=>X0 5 rfl (rb h hF rfl))
 exact X0 7 rfl (rb h hF rfl)
def qix (_:Nat) (p:qal):Option Bool :=
 some p.Bn
theorem qmR {p:qal} (ha1:GoT.R w (old w) p cs1) {r:Bool} (hF:qix n p=some r):RetV Tryz.prog 345 [GoT.v qal cs1] w r:=by
 obtain rfl:=qaX ha1
 exact zV 5 Tryz.func345 rfl fun h=>zSR (qv h rfl rfl fun w1 bb1 h=>X1 8 0 h rfl (rb h hF rfl))
def qY (s:(List qal)):Nat→Int→Option (Flow Int Int)
 | 0,_=>none
 | n+1,i1 =>
  bif decide (i1<(s.length:Int)) then
   (idx s i1).bind fun y1 =>
   (qix n y1).bind fun r1 =>
   bif r1 then some (.ret i1) else
   qY s n (W64 (i1+1))
  else
   some (.nxt i1)
def qbw (n:Nat) (s:(List qal)):Option Int :=
 (qY s n 0).bind fun o=>match o with
 | .ret r=>some r
 | .nxt _ =>
  some (-1)
theorem qfo {s:(List qal)} (ha1:GoT.R w (old w) s cs1) {r:Int} (hF:qbw n s=some r):RetV Tryz.prog 344 [GoT.v (List qal) cs1,.func (.func 345) #[] #[]] w r:=by
 obtain ⟨p1,k1,rfl,s1⟩:=ha1
 refine zV 19 Tryz.func344 rfl fun h=>X0 11 rfl ?_
 obtain ⟨o1,hF,hK1⟩:=qd hF
 refine qm (rL (fun m e w'=>∃ (i1:Int),qY s m i1=some o1∧e=[(0,.slice p1 s.length k1),(1,.func (.func 345) #[] #[]),(7,.int .i64 (s.length:Int)),(8,.int .i64 i1)]∧SH w w' []) n ⟨_,hF,rfl,h⟩ rfl ?_)
 rintro m1 e1 w1 ⟨i1,hF,rfl,h⟩
 rcases m1 with _|m1
 ·cases hF
 refine X0 5 rfl (qh rfl hF ?_ ?_)<;>intro hF
 ·refine X0 13 rfl ?_
  obtain ⟨y1,hy1,hF,he1,b1,_,q1,cs2,hp1,hq1,hr1,hc2⟩:=s1.ix hF
  obtain rfl:=qaX hr1
  refine zxe hp1 hq1 he1 rfl (zc 0 (hc2.below h.below) rfl (zcB h hF (qmR (qd5 y1)) rfl fun r1 w2 h hF=>qc6 (qh rfl hF ?_ ?_)))<;>intro hF
  ·refine X0 5 rfl ?_
   obtain rfl:=qb hF;replace hF:=hK1
   exact ri h hF rfl
  exact X0 6 rfl (rK ⟨_,hF,rfl,h⟩ rfl)
 refine qq rfl ?_
 obtain rfl:=qb hF;replace hF:=hK1
 exact X0 4 rfl (ri h hF rfl)
def qh7 (n:Nat) (c:qw):Option Int :=
 (qbw n c.Au).bind fun r1 =>
 some r1
theorem qn6 {c:qw} (ha1:GoT.R w (old w) c cs1) {r:Int} (hF:qh7 n c=some r):RetV Tryz.prog 331 [GoT.v qw cs1] w r:=by
 obtain ⟨p1,k1,p2,k2,p3,k3,rfl,s1,s2,s3⟩:=qae ha1
 exact zV 6 Tryz.func331 rfl fun h=>zSR (qv h rfl rfl fun w1 bb1 h=>X1 6 0 h rfl (zcI h hF (qfo ⟨_,_,rfl,(h.oldS s1)⟩) rfl fun r1 w2 h hF=>X0 2 rfl (ri h hF rfl)))
def qgM (n:Nat) (c:qw) (pin:Int):Option Bool :=
 (qez n c).bind fun r1 =>
 (qaU n pin 0 (W64 (r1-1))).bind fun r2 =>
 some r2
theorem qjW {c:qw} {pin:Int} (ha1:GoT.R w (old w) c cs1) {r:Bool} (hF:qgM n c pin=some r):RetV Tryz.prog 332 [GoT.v qw cs1,.int .i64 pin] w r:=by
 obtain ⟨p1,k1,p2,k2,p3,k3,rfl,s1,s2,s3⟩:=qae ha1
 exact zV 10 Tryz.func332 rfl fun h=>zSR (qv h rfl rfl fun w1 bb1 h=>X1 6 0 h rfl (zcI h hF (qhJ (h.old ha1)) rfl fun r1 w2 h hF=>zp1 rfl (zcB h hF qaH rfl fun r2 w3 h hF=>X0 2 rfl (rb h hF rfl))))
def qhZ (n:Nat) (a_0:qw) (a_1:qG):Option Bool :=
 (qkj n a_1.Av).bind fun r1 =>
 bif r1 then
  (
   bif (a_1.Bl==0) then
    bif ((a_1.Aq.length:Int)==0) then
     (qfG n a_1.Bj false).bind fun r2 =>
     bif r2 then
      (qh7 n a_0).bind fun r3 =>
      bif (a_1.Be==r3) then
       bif decide (a_1.Be ≥ 0) then
        (qgM n a_0 a_1.To).bind fun r4 =>
        bif r4 then some (a_1.To != a_1.Be) else
        some false
       else
        some false
      else
       some false
     else
      some false
    else
     some false
   else
    some false).bind fun b1 =>
  some b1
 else
  (
   (qfG n a_1.Bj true).bind fun r6 =>
   bif (!r6) then some true else
   (qfG n a_1.Aq true).bind fun r7 =>
   bif (!r7) then some true else
   (qez n a_0).bind fun r8 =>
   bif (a_1.To != r8) then some true else
   (qgM n a_0 a_1.Be).bind fun r9 =>
   some (!r9)).bind fun b2 =>
  bif b2 then some false else
  bif (a_1.Av==1) then
   (idx a_0.Au a_1.Be).bind fun y1 =>
   bif (!y1.Bn) then
    (qaU n a_1.Bl 1 3).bind fun r5 =>
    some r5
   else
    some false
  else
   (
    bif (a_1.Av==2) then some (a_1.Av==2) else
    some (a_1.Av==3)).bind fun b4 =>
   bif b4 then
    (idx a_0.Au a_1.Be).bind fun y2 =>
    bif y2.Bn then some (a_1.Bl==0) else
    some false
   else
    some false
theorem qog {a_0:qw} {a_1:qG} (ha1:GoT.R w (old w) a_0 cs1) (ha2:GoT.R w (old w) a_1 cs2) {r:Bool} (hF:qhZ n a_0 a_1=some r):RetV Tryz.prog 316 [GoT.v qw cs1,GoT.v qG cs2] w r:=by
 obtain ⟨p1,k1,p2,k2,p3,k3,rfl,s1,s2,s3⟩:=qae ha1
 obtain ⟨p4,k4,p5,k5,rfl,s4,s5⟩:=qai ha2
 refine zV 103 Tryz.func316 rfl fun h=>zSR (qv h rfl rfl fun w1 bb1 h=>qv h rfl rfl fun w2 bb2 h=>X1 7 0 h rfl (zcB h hF qp0 rfl fun r1 w3 h hF=>qc6 (qh rfl hF ?_ ?_)))<;>intro hF
 ·refine qc0 ?_
  obtain ⟨KF1,hKF1,o1,hF,hK1⟩:=bindE hF
  refine qba (fun e w'=>∃ (b1:Bool),KF1 b1=some r∧e=[(4,.bool b1)]∧SH w w' []) ?_ ?_
  ·refine rD (Y1 2 0 h rfl ?_)
   refine zd2 rfl (qa6 (t:=11) hF rfl ?_ ?_)<;>intro hF
   ·refine Y1 4 0 h rfl ?_
    refine Y0 6 rfl (qa6 (t:=17) hF rfl ?_ ?_)<;>intro hF
    ·refine Y1 4 0 h rfl ?_
     refine Y0 1 rfl ?_
     obtain ⟨r2,hr2,hF⟩:=qd hF
     refine qbm r2 (vsB _) (cB 330 rfl) (fun _ hb=>qiF ⟨_,_,rfl,((h.ext hb).oldS s4)⟩ hr2) rfl rfl rfl rfl (zd2 rfl (qa6 (t:=22) hF rfl ?_ ?_))<;>intro hF
     ·refine Y1 4 0 h rfl ?_
      refine Y1 2 1 h rfl ?_
      refine Y0 1 rfl ?_
      obtain ⟨r3,hr3,hF⟩:=qd hF
      refine qbm r3 (vsI _) (cB 331 rfl) (fun _ hb=>qn6 ((h.ext hb).old ha1) hr3) rfl rfl rfl rfl (Y0 4 rfl (qa6 (t:=29) hF rfl ?_ ?_))<;>intro hF
      ·refine Y1 4 0 h rfl ?_
       refine Y0 4 rfl (qa6 (t:=34) hF rfl ?_ ?_)<;>intro hF
       ·refine Y1 2 1 h rfl ?_
        refine Y1 4 0 h rfl ?_
        refine Y0 1 rfl ?_
        obtain ⟨r4,hr4,hF⟩:=qd hF
        refine qbm r4 (vsB _) (cB 332 rfl) (fun _ hb=>qjW ((h.ext hb).old ha1) hr4) rfl rfl rfl rfl (zd2 rfl (qa6 (t:=40) hF rfl ?_ ?_))<;>intro hF
        ·refine Y1 4 0 h rfl ?_
         refine Y1 4 0 h rfl ?_
         refine Y0 4 rfl (dN h fun w4 h=>?_)
         replace h:=h.pick [] rfl
         obtain rfl:=qb hF
         exact rG ⟨_,hK1,rfl,h⟩ rfl
        refine Y0 7 rfl (dN h fun w5 h=>?_)
        replace h:=h.pick [] rfl
        obtain rfl:=qb hF
        exact rG ⟨_,hK1,rfl,h⟩ rfl
       refine Y0 13 rfl (dN h fun w6 h=>?_)
       replace h:=h.pick [] rfl
       obtain rfl:=qb hF
       exact rG ⟨_,hK1,rfl,h⟩ rfl
      refine Y0 18 rfl (dN h fun w7 h=>?_)
      replace h:=h.pick [] rfl
      obtain rfl:=qb hF
      exact rG ⟨_,hK1,rfl,h⟩ rfl
     refine Y0 25 rfl (dN h fun w8 h=>?_)
     replace h:=h.pick [] rfl
     obtain rfl:=qb hF
     exact rG ⟨_,hK1,rfl,h⟩ rfl
    refine Y0 30 rfl (dN h fun w9 h=>?_)
    replace h:=h.pick [] rfl
    obtain rfl:=qb hF
    exact rG ⟨_,hK1,rfl,h⟩ rfl
   refine Y0 36 rfl (dN h fun w10 h=>?_)
   replace h:=h.pick [] rfl
   obtain rfl:=qb hF
   exact rG ⟨_,hK1,rfl,h⟩ rfl
  rintro e1 w11 ⟨b1,hF,rfl,h⟩
  subst hKF1
  exact rb h hF rfl
 refine zKSS ?_
 obtain ⟨KF3,hKF3,o3,hF,hK3⟩:=bindE hF
 refine qba (fun e w'=>∃ (b2:Bool),KF3 b2=some r∧e=[(2,.pointer (some ⟨bb1,0,none⟩)),(3,.pointer (some ⟨bb2,0,none⟩)),(70,.bool b2)]∧SH w w' [Ch.box bb2 (qhb a_1 p4 p5 k4 k5) 254,Ch.box bb1 (qed a_0 p1 p2 p3 k1 k2 k3) 251]) ?_ ?_
 ·refine rD (Y1 2 0 h rfl ?_)
  obtain ⟨r6,hr8,hF⟩:=qd hF
  refine qbm r6 (vsB _) (cB 330 rfl) (fun _ hb=>qiF ⟨_,_,rfl,((h.ext hb).oldS s4)⟩ hr8) rfl rfl rfl rfl (zd2 rfl (qa6 (t:=51) hF rfl ?_ ?_))<;>intro hF
  ·refine Y0 19 rfl (dN h fun w14 h=>?_)
   obtain rfl:=qb hF
   exact rG ⟨_,hK3,rfl,h⟩ rfl
  refine Y1 4 0 h rfl ?_
  refine Y0 1 rfl ?_
  obtain ⟨r7,hr9,hF⟩:=qd hF
  refine qbm r7 (vsB _) (cB 330 rfl) (fun _ hb=>qiF ⟨_,_,rfl,((h.ext hb).oldS s5)⟩ hr9) rfl rfl rfl rfl (Y0 4 rfl (qa6 (t:=57) hF rfl ?_ ?_))<;>intro hF
  ·refine Y0 13 rfl (dN h fun w15 h=>?_)
   obtain rfl:=qb hF
   exact rG ⟨_,hK3,rfl,h⟩ rfl
  refine Y1 4 0 h rfl ?_
  refine Y1 2 1 h rfl ?_
  refine Y0 1 rfl ?_
  obtain ⟨r8,hr10,hF⟩:=qd hF
  refine qbm r8 (vsI _) (cB 188 rfl) (fun _ hb=>qhJ ((h.ext hb).old ha1) hr10) rfl rfl rfl rfl (Y0 4 rfl (qa6 (t:=64) hF rfl ?_ ?_))<;>intro hF
  ·refine Y0 6 rfl (dN h fun w16 h=>?_)
   obtain rfl:=qb hF
   exact rG ⟨_,hK3,rfl,h⟩ rfl
  refine Y1 2 1 h rfl ?_
  refine Y1 4 0 h rfl ?_
  refine Y0 1 rfl ?_
  obtain ⟨r9,hr11,hF⟩:=qd hF
  refine qbm r9 (vsB _) (cB 332 rfl) (fun _ hb=>qjW ((h.ext hb).old ha1) hr11) rfl rfl rfl rfl (Y0 3 rfl (dN h fun w17 h=>?_))
  obtain rfl:=qb hF
  exact rG ⟨_,hK3,rfl,h⟩ rfl
 rintro e3 w18 ⟨b2,hF,rfl,h⟩
 subst hKF3
 refine qh rfl hF ?_ ?_<;>intro hF
 ·exact X0 4 rfl (rb h hF rfl)
 refine X1 13 0 h rfl (qh rfl hF ?_ ?_)<;>intro hF
 ·refine X2 6 1 0 h rfl ?_
  obtain ⟨y1,hy1,hF,he1,b3,_,q1,cs3,hp1,hq1,hr5,hc4⟩:=s1.ix hF
  obtain rfl:=qaX hr5
  refine zxe hp1 hq1 he1 rfl (zp1 rfl (zc 3 (hc4.below h.below) rfl (zp2 rfl (qk (t:=83) hF rfl ?_ ?_))))<;>intro hF
  ·exact X1 5 0 h rfl (zcB h hF qaH rfl fun r5 w12 h hF=>X0 3 rfl (rb h hF rfl))
  exact X0 6 rfl (rb h hF rfl)
 refine X0 6 rfl ?_
 obtain ⟨KF2,hKF2,o2,hF,hK2⟩:=bindE hF
 refine qba (fun e w'=>∃ (b4:Bool),KF2 b4=some r∧e=[(2,.pointer (some ⟨bb1,0,none⟩)),(3,.pointer (some ⟨bb2,0,none⟩)),(88,.bool b4)]∧SH w w' [Ch.box bb2 (qhb a_1 p4 p5 k4 k5) 254,Ch.box bb1 (qed a_0 p1 p2 p3 k1 k2 k3) 251]) ?_ ?_
 ·refine qh rfl hF ?_ ?_<;>intro hF
  ·refine qhE ?_
   obtain rfl:=qb hF
   exact rG ⟨_,hK2,rfl,h⟩ rfl
  refine X0 4 rfl ?_
  obtain rfl:=qb hF
  exact rG ⟨_,hK2,rfl,h⟩ rfl
 rintro e2 w13 ⟨b4,hF,rfl,h⟩
 subst hKF2
 refine qh rfl hF ?_ ?_<;>intro hF
 ·refine X2 6 1 0 h rfl ?_
  obtain ⟨y2,hy2,hF,he2,b5,_,q2,cs4,hp2,hq2,hr7,hc6⟩:=s1.ix hF
  obtain rfl:=qaX hr7
  refine zxe hp2 hq2 he2 rfl (zp1 rfl (zc 3 (hc6.below h.below) rfl (zp1 rfl (qk (t:=98) hF rfl ?_ ?_))))<;>intro hF
  ·exact X1 9 0 h rfl (rb h hF rfl)
  exact X0 6 rfl (rb h hF rfl)
 exact X0 6 rfl (rb h hF rfl)
end Go.Fw


namespace Go.Fw
open Go Go.Proofs
open Go.RowKit (Below)
set_option maxRecDepth 100000
set_option maxHeartbeats 1600000
variable {n:Nat} {w:World} {cs1 cs2 cs3 cs4 cs5 cs6 cs7 cs8 cs9:List Value}
def qfw (_:Nat) (a_o:qG) (v0:qG):Option Bool :=
 bif (a_o.Av==v0.Av) then
  bif (a_o.Be==v0.Be) then some (a_o.To==v0.To) else
  some false
 else
  some false
theorem qmq {a_o:qG} {v0:qG} (ha1:GoT.R w (old w) a_o cs1) {p3:Option Addr} (ha2:GoT.R w (old w) (some v0) [.pointer p3]) {r:Bool} (hF:qfw n a_o v0=some r):RetV Tryz.prog 318 [GoT.v qG cs1,.pointer p3] w r:=by
 obtain ⟨p1,k1,p2,k2,rfl,s1,s2⟩:=qai ha1
 obtain ⟨b1,o_1,cs2,rfl,-,hr1,hc1⟩:=PtR.get ha2 rfl
 obtain ⟨p4,k3,p5,k4,rfl,s3,s4⟩:=qai hr1
 refine zV 23 Tryz.func318 rfl fun h=>zSR (qv h rfl rfl fun w1 bb1 h=>X1 7 0 h rfl (zc 0 (hc1.below h.below) rfl (zp2 rfl (qk (t:=9) hF rfl ?_ ?_))))<;>intro hF
 ·refine X1 7 0 h rfl (zc 1 (hc1.below h.below) rfl (X0 4 rfl (qk (t:=16) hF rfl ?_ ?_)))<;>intro hF
  ·exact X1 7 0 h rfl (zc 2 (hc1.below h.below) rfl (X0 5 rfl (rb h hF rfl)))
  exact X0 8 rfl (rb h hF rfl)
 exact X0 15 rfl (rb h hF rfl)
def qQ (s:(List qG)) (f_0:qG):Nat→Int→Option (Flow Int Int)
 | 0,_=>none
 | n+1,i1 =>
  bif decide (i1<(s.length:Int)) then
   (idx s i1).bind fun y1 =>
   (qfw n y1 f_0).bind fun r1 =>
   bif r1 then some (.ret i1) else
   qQ s f_0 n (W64 (i1+1))
  else
   some (.nxt i1)
def qbd (n:Nat) (s:(List qG)) (f_0:qG):Option Int :=
 (qQ s f_0 n 0).bind fun o=>match o with
 | .ret r=>some r
 | .nxt _ =>
  some (-1)
theorem qeQ {s:(List qG)} {f_0:qG} (ha1:GoT.R w (old w) s cs1) {p2:Option Addr} (ha2:GoT.R w (old w) (some f_0) [.pointer p2]) {r:Int} (hF:qbd n s f_0=some r):RetV Tryz.prog 180 [GoT.v (List qG) cs1,.func (.func 318) #[] #[.pointer p2]] w r:=by
 obtain ⟨p1,k1,rfl,s1⟩:=ha1
 obtain ⟨b1,o_1,cs2,rfl,-,hr1,hc1⟩:=PtR.get ha2 rfl
 obtain ⟨p3,k2,p4,k3,rfl,s2,s3⟩:=qai hr1
 refine zV 19 Tryz.func180 rfl fun h=>X0 11 rfl ?_
 obtain ⟨o1,hF,hK1⟩:=qd hF
 refine qm (rL (fun m e w'=>∃ (i1:Int),qQ s f_0 m i1=some o1∧e=[(0,.slice p1 s.length k1),(1,.func (.func 318) #[] #[.pointer (some ⟨b1,o_1,none⟩)]),(7,.int .i64 (s.length:Int)),(8,.int .i64 i1)]∧SH w w' []) n ⟨_,hF,rfl,h⟩ rfl ?_)
 rintro m1 e1 w1 ⟨i1,hF,rfl,h⟩
 rcases m1 with _|m1
 ·cases hF
 refine X0 5 rfl (qh rfl hF ?_ ?_)<;>intro hF
 ·refine X0 13 rfl ?_
  obtain ⟨y1,hy1,hF,he1,b2,_,q1,cs3,hp1,hq1,hr2,hc3⟩:=s1.ix hF
  obtain ⟨p5,k4,p6,k5,rfl,s4,s5⟩:=qai hr2
  refine zxe hp1 hq1 he1 rfl (zc 0 (hc3.below h.below) rfl (zcB h hF (qmq (qfR y1 (h.oldS s4) (h.oldS s5)) (h.old ha2)) rfl fun r1 w2 h hF=>qc6 (qh rfl hF ?_ ?_)))<;>intro hF
  ·refine X0 5 rfl ?_
   obtain rfl:=qb hF;replace hF:=hK1
   exact ri h hF rfl
  exact X0 6 rfl (rK ⟨_,hF,rfl,h⟩ rfl)
 refine qq rfl ?_
 obtain rfl:=qb hF;replace hF:=hK1
 exact X0 4 rfl (ri h hF rfl)
def qaB (n:Nat) (s:(List qG)) (f_0:qG):Option Bool :=
 (qbd n s f_0).bind fun r1 =>
 some (decide (r1 ≥ 0))
theorem qel {s:(List qG)} {f_0:qG} (ha1:GoT.R w (old w) s cs1) {p2:Option Addr} (ha2:GoT.R w (old w) (some f_0) [.pointer p2]) {r:Bool} (hF:qaB n s f_0=some r):RetV Tryz.prog 317 [GoT.v (List qG) cs1,.func (.func 318) #[] #[.pointer p2]] w r:=by
 obtain ⟨p1,k1,rfl,s1⟩:=ha1
 obtain ⟨b1,o_1,cs2,rfl,-,hr1,hc1⟩:=PtR.get ha2 rfl
 obtain ⟨p3,k2,p4,k3,rfl,s2,s3⟩:=qai hr1
 exact zV 9 Tryz.func317 rfl fun h=>X0 8 rfl (zcI h hF (qeQ ⟨_,_,rfl,(h.oldS s1)⟩ (h.old ha2)) rfl fun r1 w1 h hF=>X0 3 rfl (rb h hF rfl))
def qcq (c:qw):Nat→Int→Option (Flow Bool Int)
 | 0,_=>none
 | n+1,i1 =>
  bif decide (i1<(c.As.length:Int)) then
   (idx c.As i1).bind fun y1 =>
   (qhZ n c y1).bind fun r1 =>
   bif (!r1) then some (.ret false) else
   (subS c.As 0 i1).bind fun x1 =>
   (qaB n x1 y1).bind fun r2 =>
   bif r2 then some (.ret false) else
   qcq c n (W64 (i1+1))
  else
   some (.nxt i1)
def qgL (n:Nat) (c:qw):Option Bool :=
 (qcq c n 0).bind fun o=>match o with
 | .ret r=>some r
 | .nxt _ =>
  some (decide ((c.As.length:Int)≤8))
theorem qmW {c:qw} (ha1:GoT.R w (old w) c cs1) {r:Bool} (hF:qgL n c=some r):RetV Tryz.prog 299 [GoT.v qw cs1] w r:=by
 obtain ⟨p1,k1,p2,k2,p3,k3,rfl,s1,s2,s3⟩:=qae ha1
 refine zV 30 Tryz.func299 rfl fun h=>zSR (qv h rfl rfl fun w1 bb1 h=>X1 10 0 h rfl ?_)
 obtain ⟨o1,hF,hK1⟩:=qd hF
 refine qm (rL (fun m e w'=>∃ (i1:Int),qcq c m i1=some o1∧e=[(1,.pointer (some ⟨bb1,0,none⟩)),(6,.slice p2 c.As.length k2),(7,.int .i64 (c.As.length:Int)),(8,.int .i64 i1)]∧SH w w' [Ch.box bb1 (qed c p1 p2 p3 k1 k2 k3) 251]) n ⟨_,hF,rfl,h⟩ rfl ?_)
 rintro m1 e1 w2 ⟨i1,hF,rfl,h⟩
 rcases m1 with _|m1
 ·cases hF
 refine X0 5 rfl (qh rfl hF ?_ ?_)<;>intro hF
 ·refine X0 6 rfl ?_
  obtain ⟨y1,hy1,hF,he1,b1,_,q1,cs2,hp1,hq1,hr1,hc2⟩:=s2.ix hF
  obtain ⟨p4,k4,p5,k5,rfl,s4,s5⟩:=qai hr1
  refine zxe hp1 hq1 he1 rfl (zc 0 (hc2.below h.below) rfl (qp qa h rfl rfl rfl fun w3 bb2 h=>zp1 rfl (zs 0 h rfl fun w4 h=>X2 5 1 0 h rfl (zcB h hF (qog (h.old ha1) (qfR y1 (h.oldS s4) (h.oldS s5))) rfl fun r1 w5 h hF=>zp2 rfl (qk (t:=17) hF rfl ?_ ?_)))))<;>intro hF
  ·refine X0 8 rfl (qb8 rfl rfl (X0 4 rfl ?_))
   obtain rfl:=qb hF;replace hF:=hK1
   exact rb h hF rfl
  refine X1 7 1 h rfl ?_
  obtain ⟨x1,hx1,hF⟩:=qd hF
  obtain ⟨p6,k6,hp2,hk1,hl1,g1⟩:=qwu (h.oldS s2) hx1
  refine r_v (qt7 qa rfl rfl rfl (qxf g1 rfl) hp2 hk1 hl1 rfl rfl rfl rfl) rfl ?_
  have s6:=qxw s2 hx1 hp2 hk1
  refine X0 3 rfl (zcB h hF (qel ⟨_,_,rfl,(h.oldS s6)⟩ (qdu (x:=y1) 0 h rfl (qfR y1 (h.oldS s4) (h.oldS s5)))) rfl fun r2 w6 h hF=>X0 2 rfl (qh rfl hF ?_ ?_))<;>intro hF
  ·refine X0 4 rfl ?_
   obtain rfl:=qb hF;replace hF:=hK1
   exact rb h hF rfl
  refine X0 6 rfl ?_
  replace h:=h.pick [1] rfl
  exact rK ⟨_,hF,rfl,h⟩ rfl
 refine qq rfl ?_
 obtain rfl:=qb hF;replace hF:=hK1
 exact X1 8 0 h rfl (rb h hF rfl)
def qjX (_:Nat) (a:qG) (v0:Int):Option Bool :=
 some (a.Av==v0)
theorem qn7 {a:qG} {v0:Int} (ha1:GoT.R w (old w) a cs1) {p3:Option Addr} (ha2:GoT.R w (old w) (some v0) [.pointer p3]) {r:Bool} (hF:qjX n a v0=some r):RetV Tryz.prog 333 [GoT.v qG cs1,.pointer p3] w r:=by
 obtain ⟨p1,k1,p2,k2,rfl,s1,s2⟩:=qai ha1
 obtain ⟨b1,o_1,cs2,rfl,-,hr1,hc1⟩:=PtR.get ha2 rfl
 obtain rfl:=hr1
 exact zV 8 Tryz.func333 rfl fun h=>zSR (qv h rfl rfl fun w1 bb1 h=>X1 6 0 h rfl (zc 0 (hc1.below h.below) rfl (X0 3 rfl (rb h hF rfl))))
def qac (s:(List qG)) (f_0:Int):Nat→Int→Option (Flow Int Int)
 | 0,_=>none
 | n+1,i1 =>
  bif decide (i1<(s.length:Int)) then
   (idx s i1).bind fun y1 =>
   (qjX n y1 f_0).bind fun r1 =>
   bif r1 then some (.ret i1) else
   qac s f_0 n (W64 (i1+1))
  else
   some (.nxt i1)
def qbE (n:Nat) (s:(List qG)) (f_0:Int):Option Int :=
 (qac s f_0 n 0).bind fun o=>match o with
 | .ret r=>some r
 | .nxt _ =>
  some (-1)
theorem qfK {s:(List qG)} {f_0:Int} (ha1:GoT.R w (old w) s cs1) {p2:Option Addr} (ha2:GoT.R w (old w) (some f_0) [.pointer p2]) {r:Int} (hF:qbE n s f_0=some r):RetV Tryz.prog 180 [GoT.v (List qG) cs1,.func (.func 333) #[] #[.pointer p2]] w r:=by
 obtain ⟨p1,k1,rfl,s1⟩:=ha1
 obtain ⟨b1,o_1,cs2,rfl,-,hr1,hc1⟩:=PtR.get ha2 rfl
 obtain rfl:=hr1
 refine zV 19 Tryz.func180 rfl fun h=>X0 11 rfl ?_
 obtain ⟨o1,hF,hK1⟩:=qd hF
 refine qm (rL (fun m e w'=>∃ (i1:Int),qac s f_0 m i1=some o1∧e=[(0,.slice p1 s.length k1),(1,.func (.func 333) #[] #[.pointer (some ⟨b1,o_1,none⟩)]),(7,.int .i64 (s.length:Int)),(8,.int .i64 i1)]∧SH w w' []) n ⟨_,hF,rfl,h⟩ rfl ?_)
 rintro m1 e1 w1 ⟨i1,hF,rfl,h⟩
 rcases m1 with _|m1
 ·cases hF
 refine X0 5 rfl (qh rfl hF ?_ ?_)<;>intro hF
 ·refine X0 13 rfl ?_
  obtain ⟨y1,hy1,hF,he1,b2,_,q1,cs3,hp1,hq1,hr2,hc3⟩:=s1.ix hF
  obtain ⟨p3,k2,p4,k3,rfl,s2,s3⟩:=qai hr2
  refine zxe hp1 hq1 he1 rfl (zc 0 (hc3.below h.below) rfl (zcB h hF (qn7 (qfR y1 (h.oldS s2) (h.oldS s3)) (h.old ha2)) rfl fun r1 w2 h hF=>qc6 (qh rfl hF ?_ ?_)))<;>intro hF
  ·refine X0 5 rfl ?_
   obtain rfl:=qb hF;replace hF:=hK1
   exact ri h hF rfl
  exact X0 6 rfl (rK ⟨_,hF,rfl,h⟩ rfl)
 refine qq rfl ?_
 obtain rfl:=qb hF;replace hF:=hK1
 exact X0 4 rfl (ri h hF rfl)
def qbo (n:Nat) (s:(List qG)) (f_0:Int):Option Bool :=
 (qbE n s f_0).bind fun r1 =>
 some (decide (r1 ≥ 0))
theorem qff {s:(List qG)} {f_0:Int} (ha1:GoT.R w (old w) s cs1) {p2:Option Addr} (ha2:GoT.R w (old w) (some f_0) [.pointer p2]) {r:Bool} (hF:qbo n s f_0=some r):RetV Tryz.prog 317 [GoT.v (List qG) cs1,.func (.func 333) #[] #[.pointer p2]] w r:=by
 obtain ⟨p1,k1,rfl,s1⟩:=ha1
 obtain ⟨b1,o_1,cs2,rfl,-,hr1,hc1⟩:=PtR.get ha2 rfl
 obtain rfl:=hr1
 exact zV 9 Tryz.func317 rfl fun h=>X0 8 rfl (zcI h hF (qfK ⟨_,_,rfl,(h.oldS s1)⟩ (h.old ha2)) rfl fun r1 w1 h hF=>X0 3 rfl (rb h hF rfl))
def qdo (n:Nat) (c:qw) (kind:Int):Option Bool :=
 (qbo n c.As kind).bind fun r1 =>
 some r1
theorem qek {c:qw} {kind:Int} (ha1:GoT.R w (old w) c cs1) {r:Bool} (hF:qdo n c kind=some r):RetV Tryz.prog 319 [GoT.v qw cs1,.int .i64 kind] w r:=by
 obtain ⟨p1,k1,p2,k2,p3,k3,rfl,s1,s2,s3⟩:=qae ha1
 exact zV 9 Tryz.func319 rfl fun h=>zSR (qv h rfl rfl fun w1 bb1 h=>qv h rfl rfl fun w2 bb2 h=>X1 7 1 h rfl (zcB h hF (qff ⟨_,_,rfl,(h.oldS s2)⟩ (qdu (x:=kind) 0 h rfl rfl)) rfl fun r1 w3 h hF=>X0 2 rfl (rb h hF rfl)))
def qbe (a_0:qw):Nat→Int→Int→Option (Int × Int)
 | 0,_,_=>none
 | n+1,i1,i2 =>
  bif decide (i2<(a_0.Au.length:Int)) then
   (idx a_0.Au i2).bind fun y1 =>
   bif y1.Bn then qbe a_0 n (W64 (i1+1)) (W64 (i2+1)) else
   qbe a_0 n i1 (W64 (i2+1))
  else
   some (i1,i2)
def qga (n:Nat) (a_0:qw):Option Bool :=
 (qbe a_0 n 0 0).bind fun o=>match o with
 | (i1,_) =>
  bif (a_0.Av==1) then
   bif (i1==0) then
    (qez n a_0).bind fun r1 =>
    (shlS 1 r1).bind fun y2 =>
    bif ((a_0.Bk.length:Int)==y2) then
     (qbD n a_0.Bk 0 1).bind fun r2 =>
     some r2
    else
     some false
   else
    some false
  else
   bif (a_0.Av==2) then
    bif (i1==1) then
     bif ((a_0.Bk.length:Int)==0) then
      (qdo n a_0 1).bind fun r3 =>
      bif (!r3) then
       (qdo n a_0 2).bind fun r4 =>
       (qdo n a_0 3).bind fun r5 =>
       some (!(r4==r5))
      else
       some false
     else
      some false
    else
     some false
   else
    bif (a_0.Av==3) then
     bif (i1==1) then
      bif ((a_0.Bk.length:Int)==0) then
       (qdo n a_0 1).bind fun r6 =>
       bif r6 then
        (qdo n a_0 2).bind fun r7 =>
        bif r7 then
         (qdo n a_0 3).bind fun r8 =>
         some (!r8)
        else
         some false
       else
        some false
      else
       some false
     else
      some false
    else
     some false
theorem qmL {a_0:qw} (ha1:GoT.R w (old w) a_0 cs1) {r:Bool} (hF:qga n a_0=some r):RetV Tryz.prog 300 [GoT.v qw cs1] w r:=by
 obtain ⟨p1,k1,p2,k2,p3,k3,rfl,s1,s2,s3⟩:=qae ha1
 refine zV 83 Tryz.func300 rfl fun h=>zSR (qv h rfl rfl fun w1 bb1 h=>X1 14 0 h rfl ?_)
 obtain ⟨o1,hF,hK1⟩:=qd hF
 refine qm (rL (fun m e w'=>∃ (i1:Int) (i2:Int),qbe a_0 m i1 i2=some o1∧e=[(1,.pointer (some ⟨bb1,0,none⟩)),(3,.int .i64 i1),(7,.slice p1 a_0.Au.length k1),(8,.int .i64 (a_0.Au.length:Int)),(9,.int .i64 i2)]∧SH w w' [Ch.box bb1 (qed a_0 p1 p2 p3 k1 k2 k3) 251]) n ⟨_,_,hF,rfl,h⟩ rfl ?_)
 rintro m1 e1 w2 ⟨i1,i2,hF,rfl,h⟩
 rcases m1 with _|m1
 ·cases hF
 refine X0 5 rfl (qh rfl hF ?_ ?_)<;>intro hF
 ·refine zKSBSR ?_
  obtain ⟨y1,hy1,hF,he1,b1,_,q1,cs2,hp1,hq1,hr1,hc2⟩:=s1.ix hF
  obtain rfl:=qaX hr1
  refine zxe hp1 hq1 he1 rfl (zc 0 (hc2.below h.below) rfl (qp qa h rfl rfl rfl fun w3 bb2 h=>zs 0 h rfl fun w4 h=>X1 6 0 h rfl (qh rfl hF ?_ ?_)))<;>intro hF
  ·refine X0 10 rfl ?_
   replace h:=h.pick [1] rfl
   exact rK ⟨_,_,hF,rfl,h⟩ rfl
  refine X0 6 rfl ?_
  replace h:=h.pick [1] rfl
  exact rK ⟨_,_,hF,rfl,h⟩ rfl
 refine qq rfl ?_
 obtain rfl:=qb hF;replace hF:=hK1
 refine X1 12 0 h rfl (qh rfl hF ?_ ?_)<;>intro hF
 ·refine qc0 (rD (zd3 rfl (qa6 (t:=24) hF rfl ?_ ?_)))<;>intro hF
  ·refine Y1 4 0 h rfl ?_
   refine Y1 4 0 h rfl ?_
   refine Y0 1 rfl ?_
   obtain ⟨r1,hr2,hF⟩:=qd hF
   refine qbm r1 (vsI _) (cB 188 rfl) (fun _ hb=>qhJ ((h.ext hb).old ha1) hr2) rfl rfl rfl rfl (Y0 1 rfl ?_)
   obtain ⟨y2,hx1,hF⟩:=qd hF
   obtain ⟨g1,hx1⟩:=qr0 hx1
   refine d_v (fun _ hb=>qyA g1 rfl rfl) rfl ?_
   rw [hx1]
   refine Y0 4 rfl (qa6 (t:=33) hF rfl ?_ ?_)<;>intro hF
   ·refine Y1 4 0 h rfl ?_
    refine Y0 1 rfl ?_
    obtain ⟨r2,hr3,hF⟩:=qd hF
    exact qbm r2 (vsB _) (cB 87 rfl) (fun _ hb=>qb6 ⟨_,_,rfl,((h.ext hb).oldS s3)⟩ hr3) rfl rfl rfl rfl (zd2 rfl (dN h fun w5 h=>rb h hF rfl))
   exact Y0 5 rfl (dN h fun w6 h=>rb h hF rfl)
  exact Y0 14 rfl (dN h fun w7 h=>rb h hF rfl)
 refine X0 5 rfl (qh rfl hF ?_ ?_)<;>intro hF
 ·refine qc0 (rD (zd3 rfl (qa6 (t:=42) hF rfl ?_ ?_)))<;>intro hF
  ·refine Y1 4 0 h rfl ?_
   refine Y0 6 rfl (qa6 (t:=48) hF rfl ?_ ?_)<;>intro hF
   ·refine Y1 2 0 h rfl ?_
    refine Y0 1 rfl ?_
    obtain ⟨r3,hr4,hF⟩:=qd hF
    refine qbm r3 (vsB _) (cB 319 rfl) (fun _ hb=>qek ((h.ext hb).old ha1) hr4) rfl rfl rfl rfl (Y0 4 rfl (qa6 (t:=53) hF rfl ?_ ?_))<;>intro hF
    ·refine Y1 2 0 h rfl ?_
     refine Y0 1 rfl ?_
     obtain ⟨r4,hr5,hF⟩:=qd hF
     refine qbm r4 (vsB _) (cB 319 rfl) (fun _ hb=>qek ((h.ext hb).old ha1) hr5) rfl rfl rfl rfl (Y1 2 0 h rfl ?_)
     refine Y0 1 rfl ?_
     obtain ⟨r5,hr6,hF⟩:=qd hF
     exact qbm r5 (vsB _) (cB 319 rfl) (fun _ hb=>qek ((h.ext hb).old ha1) hr6) rfl rfl rfl rfl (Y0 4 rfl (dN h fun w8 h=>rb h hF rfl))
    exact Y0 7 rfl (dN h fun w9 h=>rb h hF rfl)
   exact Y0 12 rfl (dN h fun w10 h=>rb h hF rfl)
  exact Y0 18 rfl (dN h fun w11 h=>rb h hF rfl)
 refine X0 5 rfl (qh rfl hF ?_ ?_)<;>intro hF
 ·refine X0 5 rfl (qk (t:=64) hF rfl ?_ ?_)<;>intro hF
  ·refine X1 10 0 h rfl (qk (t:=70) hF rfl ?_ ?_)<;>intro hF
   ·refine X1 3 0 h rfl (zcB h hF (qek (h.old ha1)) rfl fun r6 w12 h hF=>zp2 rfl (qk (t:=74) hF rfl ?_ ?_))<;>intro hF
    ·refine X1 3 0 h rfl (zcB h hF (qek (h.old ha1)) rfl fun r7 w13 h hF=>zp2 rfl (qk (t:=78) hF rfl ?_ ?_))<;>intro hF
     ·exact X1 3 0 h rfl (zcB h hF (qek (h.old ha1)) rfl fun r8 w14 h hF=>X0 5 rfl (rb h hF rfl))
     exact X0 6 rfl (rb h hF rfl)
    exact X0 10 rfl (rb h hF rfl)
   exact X0 14 rfl (rb h hF rfl)
  exact X0 20 rfl (rb h hF rfl)
 exact X0 6 rfl (rb h hF rfl)
def qlc (n:Nat) (c:qw):Option Bool :=
 (qij n c.Az).bind fun r1 =>
 bif r1 then
  (qkb n c.Au).bind fun r2 =>
  bif r2 then
   (qgL n c).bind fun r3 =>
   bif r3 then
    (qaU n c.Bw 0 100000).bind fun r4 =>
    bif r4 then
     (qaU n c.Bq 0 100000).bind fun r5 =>
     bif r5 then
      (qga n c).bind fun r6 =>
      some r6
     else
      some false
    else
     some false
   else
    some false
  else
   some false
 else
  some false
theorem qqF {c:qw} (ha1:GoT.R w (old w) c cs1) {r:Bool} (hF:qlc n c=some r):RetV Tryz.prog 266 [GoT.v qw cs1] w r:=by
 obtain ⟨p1,k1,p2,k2,p3,k3,rfl,s1,s2,s3⟩:=qae ha1
 refine zV 29 Tryz.func266 rfl fun h=>zSR (qv h rfl rfl fun w1 bb1 h=>X1 6 0 h rfl (zcB h hF qkC rfl fun r1 w2 h hF=>zp1 rfl (qk (t:=6) hF rfl ?_ ?_)))<;>intro hF
 ·refine X1 5 0 h rfl (zcB h hF (qqi ⟨_,_,rfl,(h.oldS s1)⟩) rfl fun r2 w3 h hF=>zp2 rfl (qk (t:=11) hF rfl ?_ ?_))<;>intro hF
  ·refine X1 3 0 h rfl (zcB h hF (qmW (h.old ha1)) rfl fun r3 w4 h hF=>zp2 rfl (qk (t:=15) hF rfl ?_ ?_))<;>intro hF
   ·refine X1 5 0 h rfl (zcB h hF qaH rfl fun r4 w5 h hF=>zp2 rfl (qk (t:=20) hF rfl ?_ ?_))<;>intro hF
    ·refine X1 5 0 h rfl (zcB h hF qaH rfl fun r5 w6 h hF=>zp2 rfl (qk (t:=25) hF rfl ?_ ?_))<;>intro hF
     ·exact X1 3 0 h rfl (zcB h hF (qmL (h.old ha1)) rfl fun r6 w7 h hF=>X0 3 rfl (rb h hF rfl))
     exact X0 5 rfl (rb h hF rfl)
    exact X0 10 rfl (rb h hF rfl)
   exact X0 15 rfl (rb h hF rfl)
  exact X0 19 rfl (rb h hF rfl)
 exact X0 24 rfl (rb h hF rfl)
def qcG (l:qr):Nat→(List ByteArray)→Int→Option (Flow Bool ((List ByteArray) × Int))
 | 0,_,_=>none
 | n+1,x1,i1 =>
  bif decide (i1<(l.Ap.length:Int)) then
   (idx l.Ap i1).bind fun y1 =>
   (qlc n y1).bind fun r1 =>
   bif (!r1) then some (.ret false) else
   (appS x1 ([y1.Az]:List ByteArray)).bind fun x2 =>
   qcG l n x2 (W64 (i1+1))
  else
   some (.nxt (x1,i1))
def qiT (n:Nat) (l:qr):Option Bool :=
 (qcG l n ([]:List ByteArray) 0).bind fun o=>match o with
 | .ret r=>some r
 | .nxt (x1,_) =>
  bif decide ((l.Ap.length:Int)≤8) then
   (qeh n x1).bind fun r2 =>
   some r2
  else
   some false
theorem qov {l:qr} (ha1:GoT.R w (old w) l cs1) {r:Bool} (hF:qiT n l=some r):RetV Tryz.prog 227 [GoT.v qr cs1] w r:=by
 obtain ⟨p1,k1,rfl,s1⟩:=qbG ha1
 refine zV 30 Tryz.func227 rfl fun h=>zSR (qv h rfl rfl fun w1 bb1 h=>X1 14 0 h rfl ?_)
 replace h:=h.nil (α:=ByteArray)
 obtain ⟨o1,hF,hK1⟩:=qd hF
 refine qm (rL (fun m e w'=>∃ (S1:Nat→Prop) (p2:Option Addr) (ln1:Nat) (k2:Nat) (x1:(List ByteArray)) (i1:Int),qcG l m x1 i1=some o1∧e=[(1,.pointer (some ⟨bb1,0,none⟩)),(3,.slice p2 ln1 k2),(7,.slice p1 l.Ap.length k1),(8,.int .i64 (l.Ap.length:Int)),(9,.int .i64 i1)]∧SH w w' [Ch.own S1 (x1:List ByteArray) [.slice p2 ln1 k2],Ch.box bb1 [.slice p1 l.Ap.length k1] 46]) n ⟨_,_,_,_,_,_,hF,rfl,h⟩ rfl ?_)
 rintro m1 e1 w2 ⟨S1,p2,ln1,k2,x1,i1,hF,rfl,h⟩
 obtain rfl:=(h.sl 0 rfl).2
 rcases m1 with _|m1
 ·cases hF
 refine X0 5 rfl (qh rfl hF ?_ ?_)<;>intro hF
 ·refine zKSBSR ?_
  obtain ⟨y1,hy1,hF,he1,b1,_,q1,cs2,hp1,hq1,hr1,hc2⟩:=s1.ix hF
  obtain ⟨p3,k3,p4,k4,p5,k5,rfl,s2,s3,s4⟩:=qae hr1
  refine zxe hp1 hq1 he1 rfl (zc 0 (hc2.below h.below) rfl (qp qa h rfl rfl rfl fun w3 bb2 h=>zs 0 h rfl fun w4 h=>X1 5 0 h rfl (zcB h hF (qqF (qkp y1 (h.oldS s2) (h.oldS s3) (h.oldS s4))) rfl fun r1 w5 h hF=>X0 2 rfl (qh rfl hF ?_ ?_))))<;>intro hF
  ·refine X0 4 rfl ?_
   obtain rfl:=qb hF;replace hF:=hK1
   exact rb h hF rfl
  refine X1 5 0 h rfl (qU qa [.tmp 18] _ ([y1.Az]:List ByteArray) h rfl rfl rfl rfl rfl rfl rfl rfl rfl ⟨rfl,trivial⟩ rfl fun w6 p6 S2 h=>?_)
  obtain ⟨x2,hx1,hF⟩:=qd hF
  obtain ⟨g1,hx1⟩:=qaF hx1
  refine qc3 qa 2 h rfl (h.sl 0 rfl).1 (h.sl 0 rfl).2 rfl rfl rfl rfl rfl rfl rfl rfl rfl g1 hx1 rfl fun w7 p7 k6 S3 h=>X0 7 rfl ?_
  replace h:=h.pick [2,3] rfl
  exact rK ⟨_,_,_,_,_,_,hF,rfl,h⟩ rfl
 refine qq rfl ?_
 obtain rfl:=qb hF;replace hF:=hK1
 refine X1 7 1 h rfl (qk (t:=26) hF rfl ?_ ?_)<;>intro hF
 ·exact X0 3 rfl (zcB h hF (qfP (h.own 0 rfl)) rfl fun r2 w8 h hF=>X0 3 rfl (rb h hF rfl))
 exact X0 5 rfl (rb h hF rfl)
def qbn (d:qf):Nat→(List ByteArray)→Int→Option ((List ByteArray) × Int)
 | 0,_,_=>none
 | n+1,x3,i2 =>
  bif decide (i2<(d.Ah.length:Int)) then
   (idx d.Ah i2).bind fun y2 =>
   (appS x3 ([y2.Az]:List ByteArray)).bind fun x4 =>
   qbn d n x4 (W64 (i2+1))
  else
   some (x3,i2)
def qbh (d:qf):Nat→(List ByteArray)→Int→Option ((List ByteArray) × Int)
 | 0,_,_=>none
 | n+1,x1,i1 =>
  bif decide (i1<(d.Ab.length:Int)) then
   (idx d.Ab i1).bind fun y1 =>
   (appS x1 ([y1.Az]:List ByteArray)).bind fun x2 =>
   qbh d n x2 (W64 (i1+1))
  else
   some (x1,i1)
def qfk (n:Nat) (d:qf):Option Bool :=
 (qbh d n ([]:List ByteArray) 0).bind fun o=>match o with
 | (x1,_) =>
  (qbn d n ([]:List ByteArray) 0).bind fun o=>match o with
  | (x3,_) =>
   bif decide ((x1.length:Int)≤14) then
    bif decide ((d.Ai.length:Int)≤30) then
     bif decide ((x3.length:Int)≤8) then
      (qeh n x1).bind fun r1 =>
      bif r1 then
       (qeh n d.Ai).bind fun r2 =>
       bif r2 then
        (qeh n x3).bind fun r3 =>
        some r3
       else
        some false
      else
       some false
     else
      some false
    else
     some false
   else
    some false
theorem qlY {d:qf} (ha1:GoT.R w (old w) d cs1) {r:Bool} (hF:qfk n d=some r):RetV Tryz.prog 228 [GoT.v qf cs1] w r:=by
 obtain ⟨p1,k1,p2,k2,p3,k3,rfl,s1,s2,s3⟩:=qaA ha1
 refine zV 62 Tryz.func228 rfl fun h=>zSR (qv h rfl rfl fun w1 bb1 h=>X1 15 0 h rfl ?_)
 replace h:=h.nil (α:=ByteArray)
 obtain ⟨o1,hF,hK1⟩:=qd hF
 refine qm (rL (fun m e w'=>∃ (S1:Nat→Prop) (p4:Option Addr) (ln1:Nat) (k4:Nat) (x1:(List ByteArray)) (i1:Int),qbh d m x1 i1=some o1∧e=[(1,.pointer (some ⟨bb1,0,none⟩)),(3,.slice p4 ln1 k4),(4,.slice none 0 0),(10,.slice p1 d.Ab.length k1),(11,.int .i64 (d.Ab.length:Int)),(12,.int .i64 i1)]∧SH w w' [Ch.own S1 (x1:List ByteArray) [.slice p4 ln1 k4],Ch.box bb1 (qaQ d p1 p2 p3 k1 k2 k3) 50]) n ⟨_,_,_,_,_,_,hF,rfl,h⟩ rfl ?_)
 rintro m1 e1 w2 ⟨S1,p4,ln1,k4,x1,i1,hF,rfl,h⟩
 obtain rfl:=(h.sl 0 rfl).2
 rcases m1 with _|m1
 ·cases hF
 refine X0 5 rfl (qh rfl hF ?_ ?_)<;>intro hF
 ·refine zKSBSR ?_
  obtain ⟨y1,hy1,hF,he1,b1,_,q1,cs2,hp1,hq1,hr1,hc2⟩:=s1.ix hF
  obtain ⟨p5,k5,rfl,s4⟩:=qO hr1
  refine zxe hp1 hq1 he1 rfl (zc 0 (hc2.below h.below) rfl (qp qa h rfl rfl rfl fun w3 bb2 h=>zs 0 h rfl fun w4 h=>X1 5 0 h rfl (qU qa [.tmp 18] _ ([y1.Az]:List ByteArray) h rfl rfl rfl rfl rfl rfl rfl rfl rfl ⟨rfl,trivial⟩ rfl fun w5 p6 S2 h=>?_)))
  obtain ⟨x2,hx1,hF⟩:=qd hF
  obtain ⟨g1,hx1⟩:=qaF hx1
  refine qc3 qa 2 h rfl (h.sl 0 rfl).1 (h.sl 0 rfl).2 rfl rfl rfl rfl rfl rfl rfl rfl rfl g1 hx1 rfl fun w6 p7 k6 S3 h=>X0 7 rfl ?_
  replace h:=h.pick [2,3] rfl
  exact rK ⟨_,_,_,_,_,_,hF,rfl,h⟩ rfl
 refine qq rfl ?_
 obtain rfl:=qb hF;replace hF:=hK1
 refine X1 8 1 h rfl ?_
 replace h:=h.nil (α:=ByteArray)
 obtain ⟨o2,hF,hK2⟩:=qd hF
 refine qm (rL (fun m e w'=>∃ (S4:Nat→Prop) (p8:Option Addr) (ln2:Nat) (k7:Nat) (x3:(List ByteArray)) (i2:Int),qbn d m x3 i2=some o2∧e=[(1,.pointer (some ⟨bb1,0,none⟩)),(3,.slice p4 x1.length k4),(4,.slice p8 ln2 k7),(23,.slice p3 d.Ah.length k3),(24,.int .i64 (d.Ah.length:Int)),(25,.int .i64 i2)]∧SH w w' [Ch.own S4 (x3:List ByteArray) [.slice p8 ln2 k7],Ch.own S1 (x1:List ByteArray) [.slice p4 x1.length k4],Ch.box bb1 (qaQ d p1 p2 p3 k1 k2 k3) 50]) n ⟨_,_,_,_,_,_,hF,rfl,h⟩ rfl ?_)
 rintro m2 e2 w7 ⟨S4,p8,ln2,k7,x3,i2,hF,rfl,h⟩
 obtain rfl:=(h.sl 0 rfl).2
 rcases m2 with _|m2
 ·cases hF
 refine X0 5 rfl (qh rfl hF ?_ ?_)<;>intro hF
 ·refine zKSBSR ?_
  obtain ⟨y2,hy2,hF,he2,b2,_,q2,cs3,hp2,hq2,hr2,hc4⟩:=s3.ix hF
  obtain rfl:=qaS hr2
  refine zxe hp2 hq2 he2 rfl (zc 0 (hc4.below h.below) rfl (qp qa h rfl rfl rfl fun w8 bb3 h=>zs 0 h rfl fun w9 h=>X1 5 0 h rfl (qU qa [.tmp 31] _ ([y2.Az]:List ByteArray) h rfl rfl rfl rfl rfl rfl rfl rfl rfl ⟨rfl,trivial⟩ rfl fun w10 p9 S5 h=>?_)))
  obtain ⟨x4,hx2,hF⟩:=qd hF
  obtain ⟨g2,hx2⟩:=qaF hx2
  refine qc3 qa 2 h rfl (h.sl 0 rfl).1 (h.sl 0 rfl).2 rfl rfl rfl rfl rfl rfl rfl rfl rfl g2 hx2 rfl fun w11 p10 k8 S6 h=>X0 7 rfl ?_
  replace h:=h.pick [2,3,4] rfl
  exact rK ⟨_,_,_,_,_,_,hF,rfl,h⟩ rfl
 refine qq rfl ?_
 obtain rfl:=qb hF;replace hF:=hK2
 refine X0 6 rfl (qk (t:=38) hF rfl ?_ ?_)<;>intro hF
 ·refine X1 10 2 h rfl (qk (t:=44) hF rfl ?_ ?_)<;>intro hF
  ·refine X0 8 rfl (qk (t:=49) hF rfl ?_ ?_)<;>intro hF
   ·refine X0 3 rfl (zcB h hF (qfP (h.own 1 rfl)) rfl fun r1 w12 h hF=>zp2 rfl (qk (t:=53) hF rfl ?_ ?_))<;>intro hF
    ·refine X1 5 2 h rfl (zcB h hF (qfP ⟨_,_,rfl,(h.oldS s2)⟩) rfl fun r2 w13 h hF=>zp2 rfl (qk (t:=58) hF rfl ?_ ?_))<;>intro hF
     ·exact X0 3 rfl (zcB h hF (qfP (h.own 0 rfl)) rfl fun r3 w14 h hF=>X0 3 rfl (rb h hF rfl))
     exact X0 5 rfl (rb h hF rfl)
    exact X0 10 rfl (rb h hF rfl)
   exact X0 14 rfl (rb h hF rfl)
  exact X0 19 rfl (rb h hF rfl)
 exact X0 25 rfl (rb h hF rfl)
def qgJ (_:Nat) (list:(List qw)):Option Int :=
 some (list.length:Int)
theorem qlE {list:(List qw)} (ha1:GoT.R w (old w) list cs1) {r:Int} (hF:qgJ n list=some r):RetV Tryz.prog 268 [GoT.v (List qw) cs1] w r:=by
 obtain ⟨p1,k1,rfl,s1⟩:=ha1
 exact zV 5 Tryz.func268 rfl fun h=>X0 10 rfl (ri h hF rfl)
def qdp (n:Nat) (net:Int) (v0:qf):Option Bool :=
 (qdB n v0 net).bind fun r1 =>
 some (!r1)
theorem qkn {net:Int} {v0:qf} {p1:Option Addr} (ha1:GoT.R w (old w) (some v0) [.pointer p1]) {r:Bool} (hF:qdp n net v0=some r):RetV Tryz.prog 269 [.int .i64 net,.pointer p1] w r:=by
 obtain ⟨b1,o_1,cs1,rfl,-,hr1,hc1⟩:=PtR.get ha1 rfl
 obtain ⟨p2,k1,p3,k2,p4,k3,rfl,s1,s2,s3⟩:=qaA hr1
 exact zV 8 Tryz.func269 rfl fun h=>X0 6 rfl (zc 0 (hc1.below h.below) rfl (zp1 rfl (zcB h hF (qhe (qax v0 (h.oldS s1) (h.oldS s2) (h.oldS s3))) rfl fun r1 w1 h hF=>X0 3 rfl (rb h hF rfl))))
def qL (s:(List Int)) (f_0:qf):Nat→Int→Option (Flow Int Int)
 | 0,_=>none
 | n+1,i1 =>
  bif decide (i1<(s.length:Int)) then
   (idx s i1).bind fun y1 =>
   (qdp n y1 f_0).bind fun r1 =>
   bif r1 then some (.ret i1) else
   qL s f_0 n (W64 (i1+1))
  else
   some (.nxt i1)
def qa8 (n:Nat) (s:(List Int)) (f_0:qf):Option Int :=
 (qL s f_0 n 0).bind fun o=>match o with
 | .ret r=>some r
 | .nxt _ =>
  some (-1)
theorem qeC {s:(List Int)} {f_0:qf} (ha1:GoT.R w (old w) s cs1) {p2:Option Addr} (ha2:GoT.R w (old w) (some f_0) [.pointer p2]) {r:Int} (hF:qa8 n s f_0=some r):RetV Tryz.prog 159 [GoT.v (List Int) cs1,.func (.func 269) #[] #[.pointer p2]] w r:=by
 obtain ⟨p1,k1,rfl,s1⟩:=ha1
 obtain ⟨b1,o_1,cs2,rfl,-,hr1,hc1⟩:=PtR.get ha2 rfl
 obtain ⟨p3,k2,p4,k3,p5,k4,rfl,s2,s3,s4⟩:=qaA hr1
 refine zV 19 Tryz.func159 rfl fun h=>X0 11 rfl ?_
 obtain ⟨o1,hF,hK1⟩:=qd hF
 refine qm (rL (fun m e w'=>∃ (i1:Int),qL s f_0 m i1=some o1∧e=[(0,.slice p1 s.length k1),(1,.func (.func 269) #[] #[.pointer (some ⟨b1,o_1,none⟩)]),(7,.int .i64 (s.length:Int)),(8,.int .i64 i1)]∧SH w w' []) n ⟨_,hF,rfl,h⟩ rfl ?_)
 rintro m1 e1 w1 ⟨i1,hF,rfl,h⟩
 rcases m1 with _|m1
 ·cases hF
 refine X0 5 rfl (qh rfl hF ?_ ?_)<;>intro hF
 ·refine X0 13 rfl ?_
  obtain ⟨y1,hy1,hF,he1,b2,_,q1,cs3,hp1,hq1,rfl,hc3⟩:=s1.ix hF
  refine zxe hp1 hq1 he1 rfl (zc 0 (hc3.below h.below) rfl (zcB h hF (qkn (h.old ha2)) rfl fun r1 w2 h hF=>qc6 (qh rfl hF ?_ ?_)))<;>intro hF
  ·refine X0 5 rfl ?_
   obtain rfl:=qb hF;replace hF:=hK1
   exact ri h hF rfl
  exact X0 6 rfl (rK ⟨_,hF,rfl,h⟩ rfl)
 refine qq rfl ?_
 obtain rfl:=qb hF;replace hF:=hK1
 exact X0 4 rfl (ri h hF rfl)
def qaT (n:Nat) (s:(List Int)) (f_0:qf):Option Bool :=
 (qa8 n s f_0).bind fun r1 =>
 some (decide (r1 ≥ 0))
theorem qd2 {s:(List Int)} {f_0:qf} (ha1:GoT.R w (old w) s cs1) {p2:Option Addr} (ha2:GoT.R w (old w) (some f_0) [.pointer p2]) {r:Bool} (hF:qaT n s f_0=some r):RetV Tryz.prog 80 [GoT.v (List Int) cs1,.func (.func 269) #[] #[.pointer p2]] w r:=by
 obtain ⟨p1,k1,rfl,s1⟩:=ha1
 obtain ⟨b1,o_1,cs2,rfl,-,hr1,hc1⟩:=PtR.get ha2 rfl
 obtain ⟨p3,k2,p4,k3,p5,k4,rfl,s2,s3,s4⟩:=qaA hr1
 exact zV 9 Tryz.func80 rfl fun h=>X0 8 rfl (zcI h hF (qeC ⟨_,_,rfl,(h.oldS s1)⟩ (h.old ha2)) rfl fun r1 w1 h hF=>X0 3 rfl (rb h hF rfl))
def qeb (n:Nat) (d:qf) (l:qr) (x:qi):Option Bool :=
 (qgJ n l.Ap).bind fun r1 =>
 (qaU n x.Bp 0 (W64 (r1-1))).bind fun r2 =>
 bif r2 then
  (idx l.Ap x.Bp).bind fun y1 =>
  bif ((x.Ai.length:Int)==(y1.Au.length:Int)) then
   (qaT n x.Ai d).bind fun r3 =>
   some (!r3)
  else
   some false
 else
  some false
theorem qk6 {d:qf} {l:qr} {x:qi} (ha1:GoT.R w (old w) d cs1) (ha2:GoT.R w (old w) l cs2) (ha3:GoT.R w (old w) x cs3) {r:Bool} (hF:qeb n d l x=some r):RetV Tryz.prog 229 [GoT.v qf cs1,GoT.v qr cs2,GoT.v qi cs3] w r:=by
 obtain ⟨p1,k1,p2,k2,p3,k3,rfl,s1,s2,s3⟩:=qaA ha1
 obtain ⟨p4,k4,rfl,s4⟩:=qbG ha2
 obtain ⟨p5,k5,rfl,s5⟩:=qO ha3
 refine zV 35 Tryz.func229 rfl fun h=>zSR (qv h rfl rfl fun w1 bb1 h=>qv h rfl rfl fun w2 bb2 h=>qv h rfl rfl fun w3 bb3 h=>X0 3 rfl (rD (Y1 2 0 h rfl ?_)))
 refine Y1 2 1 h rfl ?_
 obtain ⟨r1,hr1,hF⟩:=qd hF
 refine qbm r1 (vsI _) (cB 268 rfl) (fun _ hb=>qlE ⟨_,_,rfl,((h.ext hb).oldS s4)⟩ hr1) rfl rfl rfl rfl (zd1 rfl ?_)
 obtain ⟨r2,hr2,hF⟩:=qd hF
 refine qbm r2 (vsB _) (cB 103 rfl) (fun _ hb=>qaH  hr2) rfl rfl rfl rfl (zd1 rfl (qa6 (t:=14) hF rfl ?_ ?_))<;>intro hF
 ·refine Y1 4 0 h rfl ?_
  refine Y1 6 1 h rfl ?_
  refine Y1 4 0 h rfl ?_
  refine Y0 1 rfl ?_
  obtain ⟨y1,hy1,hF,he1,b1,_,q1,cs4,hp1,hq1,hr3,hc1⟩:=s4.ix hF
  obtain ⟨p6,k6,p7,k7,p8,k8,rfl,s6,s7,s8⟩:=qae hr3
  refine zdxe hp1 hq1 he1 rfl (Y0 3 rfl (zdc 2 (hc1.below h.below) rfl (Y0 6 rfl (qa6 (t:=28) hF rfl ?_ ?_))))<;>intro hF
  ·refine Y1 4 0 h rfl ?_
   refine Y0 3 rfl ?_
   obtain ⟨r3,hr4,hF⟩:=qd hF
   exact qbm r3 (vsB _) (cB 80 rfl) (fun _ hb=>qd2 ⟨_,_,rfl,((h.ext hb).oldS s5)⟩ (qdu (x:=d) 2 (h.ext hb) rfl ((h.ext hb).old ha1)) hr4) rfl rfl rfl rfl (Y0 4 rfl (dN h fun w4 h=>rb h hF rfl))
  exact Y0 7 rfl (dN h fun w5 h=>rb h hF rfl)
 exact Y0 21 rfl (dN h fun w6 h=>rb h hF rfl)
def qj3 (_:Nat) (a_n:Int):Option Bool :=
 some (a_n != 1)
theorem qoc {a_n:Int}  {r:Bool} (hF:qj3 n a_n=some r):RetV Tryz.prog 231 [.int .i64 a_n] w r:=by
 exact zV 5 Tryz.func231 rfl fun h=>X0 10 rfl (rb h hF rfl)
def qan (s:(List Int)):Nat→Int→Option (Flow Int Int)
 | 0,_=>none
 | n+1,i1 =>
  bif decide (i1<(s.length:Int)) then
   (idx s i1).bind fun y1 =>
   (qj3 n y1).bind fun r1 =>
   bif r1 then some (.ret i1) else
   qan s n (W64 (i1+1))
  else
   some (.nxt i1)
def qb1 (n:Nat) (s:(List Int)):Option Int :=
 (qan s n 0).bind fun o=>match o with
 | .ret r=>some r
 | .nxt _ =>
  some (-1)
theorem qgV {s:(List Int)} (ha1:GoT.R w (old w) s cs1) {r:Int} (hF:qb1 n s=some r):RetV Tryz.prog 270 [GoT.v (List Int) cs1,.func (.func 231) #[] #[]] w r:=by
 obtain ⟨p1,k1,rfl,s1⟩:=ha1
 refine zV 19 Tryz.func270 rfl fun h=>X0 11 rfl ?_
 obtain ⟨o1,hF,hK1⟩:=qd hF
 refine qm (rL (fun m e w'=>∃ (i1:Int),qan s m i1=some o1∧e=[(0,.slice p1 s.length k1),(1,.func (.func 231) #[] #[]),(7,.int .i64 (s.length:Int)),(8,.int .i64 i1)]∧SH w w' []) n ⟨_,hF,rfl,h⟩ rfl ?_)
 rintro m1 e1 w1 ⟨i1,hF,rfl,h⟩
 rcases m1 with _|m1
 ·cases hF
 refine X0 5 rfl (qh rfl hF ?_ ?_)<;>intro hF
 ·refine X0 13 rfl ?_
  obtain ⟨y1,hy1,hF,he1,b1,_,q1,cs2,hp1,hq1,rfl,hc2⟩:=s1.ix hF
  refine zxe hp1 hq1 he1 rfl (zc 0 (hc2.below h.below) rfl (zcB h hF qoc rfl fun r1 w2 h hF=>qc6 (qh rfl hF ?_ ?_)))<;>intro hF
  ·refine X0 5 rfl ?_
   obtain rfl:=qb hF;replace hF:=hK1
   exact ri h hF rfl
  exact X0 6 rfl (rK ⟨_,hF,rfl,h⟩ rfl)
 refine qq rfl ?_
 obtain rfl:=qb hF;replace hF:=hK1
 exact X0 4 rfl (ri h hF rfl)
def qbO (n:Nat) (s:(List Int)):Option Bool :=
 (qb1 n s).bind fun r1 =>
 some (decide (r1 ≥ 0))
theorem qf9 {s:(List Int)} (ha1:GoT.R w (old w) s cs1) {r:Bool} (hF:qbO n s=some r):RetV Tryz.prog 230 [GoT.v (List Int) cs1,.func (.func 231) #[] #[]] w r:=by
 obtain ⟨p1,k1,rfl,s1⟩:=ha1
 exact zV 9 Tryz.func230 rfl fun h=>X0 8 rfl (zcI h hF (qgV ⟨_,_,rfl,(h.oldS s1)⟩) rfl fun r1 w1 h hF=>X0 3 rfl (rb h hF rfl))
def qcr (a_1:qf):Nat→(List Int)→Int→Option (Flow Bool ((List Int) × Int))
 | 0,_,_=>none
 | n+1,x3,i2 =>
  bif decide (i2<(a_1.Ah.length:Int)) then
   (idx a_1.Ah i2).bind fun y5 =>
   (
    bif (y5.Br != 1) then
     bif (y5.Br != 2) then some true else
     (qdB n a_1 y5.Bt).bind fun r2 =>
     some (!r2)
    else
     (qdB n a_1 y5.Bt).bind fun r3 =>
     some (!r3)).bind fun b7 =>
   bif b7 then some (.ret false) else
   bif (y5.Br==1) then
    (idx x3 y5.Bt).bind fun y6 =>
    (idx x3 y5.Bt).bind fun _ =>
    qcr a_1 n (setS x3 y5.Bt (W64 (y6+1))) (W64 (i2+1))
   else
    qcr a_1 n x3 (W64 (i2+1))
  else
   some (.nxt (x3,i2))
def qdk (a_0:qr) (a_1:qf):Nat→(List Int)→Int→Option (Flow Bool ((List Int) × Int))
 | 0,_,_=>none
 | n+1,x2,i1 =>
  bif decide (i1<(a_1.Ab.length:Int)) then
   (idx a_1.Ab i1).bind fun y1 =>
   (qeb n a_1 a_0 y1).bind fun r1 =>
   bif (!r1) then some (.ret false) else
   (idx y1.Ai (W64 ((y1.Ai.length:Int)-1))).bind fun y2 =>
   (idx x2 y2).bind fun y3 =>
   (idx x2 y2).bind fun _ =>
   qdk a_0 a_1 n (setS x2 y2 (W64 (y3+1))) (W64 (i1+1))
  else
   some (.nxt (x2,i1))
def qjk (n:Nat) (a_0:qr) (a_1:qf):Option Bool :=
 (
  (qiT n a_0).bind fun r5 =>
  bif (!r5) then some true else
  (qfk n a_1).bind fun r6 =>
  some (!r6)).bind fun b1 =>
 bif b1 then some false else
 (mkS (a_1.Ai.length:Int) (0:Int)).bind fun x1 =>
 (qdk a_0 a_1 n x1 0).bind fun o=>match o with
 | .ret r=>some r
 | .nxt (x2,_) =>
  (qcr a_1 n x2 0).bind fun o=>match o with
  | .ret r=>some r
  | .nxt (x3,_) =>
   (qbO n x3).bind fun r4 =>
   some (!r4)
theorem qpE {a_0:qr} {a_1:qf} (ha1:GoT.R w (old w) a_0 cs1) (ha2:GoT.R w (old w) a_1 cs2) {r:Bool} (hF:qjk n a_0 a_1=some r):RetV Tryz.prog 161 [GoT.v qr cs1,GoT.v qf cs2] w r:=by
 obtain ⟨p1,k1,rfl,s1⟩:=qbG ha1
 obtain ⟨p2,k2,p3,k3,p4,k4,rfl,s2,s3,s4⟩:=qaA ha2
 refine zV 84 Tryz.func161 rfl fun h=>zSR (qv h rfl rfl fun w1 bb1 h=>qv h rfl rfl fun w2 bb2 h=>X0 4 rfl ?_)
 obtain ⟨KF2,hKF2,o4,hF,hK4⟩:=bindE hF
 refine qba (fun e w'=>∃ (b1:Bool),KF2 b1=some r∧e=[(2,.pointer (some ⟨bb1,0,none⟩)),(3,.pointer (some ⟨bb2,0,none⟩)),(17,.bool b1)]∧SH w w' [Ch.box bb2 (qaQ a_1 p2 p3 p4 k2 k3 k4) 50,Ch.box bb1 [.slice p1 a_0.Ap.length k1] 46]) ?_ ?_
 ·refine X1 2 1 h rfl (zcB h hF (qov (h.old ha1)) rfl fun r5 w17 h hF=>zp2 rfl (qk (t:=13) hF rfl ?_ ?_))<;>intro hF
  ·refine X0 5 rfl ?_
   obtain rfl:=qb hF
   exact rG ⟨_,hK4,rfl,h⟩ rfl
  refine X1 3 0 h rfl (zcB h hF (qlY (h.old ha2)) rfl fun r6 w18 h hF=>X0 4 rfl ?_)
  obtain rfl:=qb hF
  exact rG ⟨_,hK4,rfl,h⟩ rfl
 rintro e4 w19 ⟨b1,hF,rfl,h⟩
 subst hKF2
 refine qh rfl hF ?_ ?_<;>intro hF
 ·exact X0 4 rfl (rb h hF rfl)
 refine X1 6 0 h rfl ?_
 obtain ⟨x1,hx1,hF⟩:=qd hF
 obtain ⟨g1,g2,hx1⟩:=qV hx1
 refine qam qa Int h rfl rfl rfl rfl rfl rfl rfl rfl rfl g1 g2 hx1 rfl fun w3 S1 p5 h=>X1 10 1 h rfl ?_
 obtain ⟨o1,hF,hK1⟩:=qd hF
 refine qm (rL (fun m e w'=>∃ (x2:(List Int)) (i1:Int),qdk a_0 a_1 m x2 i1=some o1∧e=[(2,.pointer (some ⟨bb1,0,none⟩)),(3,.pointer (some ⟨bb2,0,none⟩)),(5,.slice p5 x1.length x1.length),(23,.slice p2 a_1.Ab.length k2),(24,.int .i64 (a_1.Ab.length:Int)),(25,.int .i64 i1)]∧SH w w' [Ch.own S1 (x2:List Int) [.slice p5 x1.length x1.length],Ch.box bb2 (qaQ a_1 p2 p3 p4 k2 k3 k4) 50,Ch.box bb1 [.slice p1 a_0.Ap.length k1] 46]) n ⟨_,_,hF,rfl,h⟩ rfl ?_)
 rintro m1 e1 w4 ⟨x2,i1,hF,rfl,h⟩
 rcases m1 with _|m1
 ·cases hF
 refine X0 5 rfl (qh rfl hF ?_ ?_)<;>intro hF
 ·refine zKSBSR ?_
  obtain ⟨y1,hy1,hF,he1,b2,_,q1,cs3,hp1,hq1,hr1,hc3⟩:=s2.ix hF
  obtain ⟨p6,k5,rfl,s5⟩:=qO hr1
  refine zxe hp1 hq1 he1 rfl (zc 0 (hc3.below h.below) rfl (qp qa h rfl rfl rfl fun w5 bb3 h=>zs 0 h rfl fun w6 h=>X3 7 2 3 0 h rfl (zcB h hF (qk6 (h.old ha2) (h.old ha1) (qgz y1 (h.oldS s5))) rfl fun r1 w7 h hF=>X0 2 rfl (qh rfl hF ?_ ?_))))<;>intro hF
  ·refine X0 4 rfl ?_
   obtain rfl:=qb hF;replace hF:=hK1
   exact rb h hF rfl
  refine X2 9 0 0 h rfl ?_
  obtain ⟨y2,hy2,hF,he2,b3,_,q2,cs4,hp2,hq2,rfl,hc5⟩:=s5.ix hF
  refine zxe hp2 hq2 he2 rfl (zc 0 (hc5.below h.below) rfl ?_)
  obtain ⟨y3,hy3,hF,he3,b4,_,q3,cs5,hp3,hq3,rfl,hc6⟩:=(h.sl 1 rfl).1.ix hF
  refine zx hp3 hq3 ⟨he3.1,qD he3.2.1 (h.sl 1 rfl).2⟩ rfl (zc 0 hc6 rfl (zp1 rfl ?_))
  obtain ⟨y4,hy4,hF,he4,b5,_,q4,cs6,hp4,hq4,rfl,hc7⟩:=(h.sl 1 rfl).1.ix hF
  refine zx hp4 hq4 ⟨he4.1,qD he4.2.1 (h.sl 1 rfl).2⟩ rfl (qau qa 1 0 (W64 (y3+1)) h rfl hy4 hp4 hq4 rfl hc7 rfl rfl rfl rfl rfl rfl rfl fun w8 h=>X0 6 rfl ?_)
  replace h:=h.pick [1,2,3] rfl
  exact rK ⟨_,_,hF,rfl,h⟩ rfl
 refine qq rfl ?_
 obtain rfl:=qb hF;replace hF:=hK1
 refine X1 8 1 h rfl ?_
 obtain ⟨o2,hF,hK2⟩:=qd hF
 refine qm ?_
 replace h:=h.pick [0,1] rfl
 refine rL (fun m e w'=>∃ (x3:(List Int)) (i2:Int),qcr a_1 m x3 i2=some o2∧e=[(3,.pointer (some ⟨bb2,0,none⟩)),(5,.slice p5 x1.length x1.length),(49,.slice p4 a_1.Ah.length k4),(50,.int .i64 (a_1.Ah.length:Int)),(51,.int .i64 i2)]∧SH w w' [Ch.own S1 (x3:List Int) [.slice p5 x1.length x1.length],Ch.box bb2 (qaQ a_1 p2 p3 p4 k2 k3 k4) 50]) n ⟨_,_,hF,rfl,h⟩ rfl ?_
 rintro m2 e2 w9 ⟨x3,i2,hF,rfl,h⟩
 rcases m2 with _|m2
 ·cases hF
 refine X0 5 rfl (qh rfl hF ?_ ?_)<;>intro hF
 ·refine zKSBSR ?_
  obtain ⟨y5,hy5,hF,he5,b6,_,q5,cs7,hp5,hq5,hr6,hc9⟩:=s4.ix hF
  obtain rfl:=qaS hr6
  refine zxe hp5 hq5 he5 rfl (zc 0 (hc9.below h.below) rfl (qp qa h rfl rfl rfl fun w10 bb4 h=>zs 0 h rfl fun w11 h=>zNSS ?_))
  obtain ⟨KF1,hKF1,o3,hF,hK3⟩:=bindE hF
  refine qba (fun e w'=>∃ (b7:Bool),KF1 b7=some o2∧e=[(3,.pointer (some ⟨bb2,0,none⟩)),(5,.slice p5 x1.length x1.length),(9,.pointer (some ⟨bb4,0,none⟩)),(49,.slice p4 a_1.Ah.length k4),(50,.int .i64 (a_1.Ah.length:Int)),(51,.int .i64 i2),(69,.bool b7)]∧SH w w' [Ch.box bb4 (qqz y5) 294,Ch.own S1 (x3:List Int) [.slice p5 x1.length x1.length],Ch.box bb2 (qaQ a_1 p2 p3 p4 k2 k3 k4) 50]) ?_ ?_
  ·refine X1 5 0 h rfl (qk (t:=58) hF rfl ?_ ?_)<;>intro hF
   ·refine X1 8 0 h rfl (qk (t:=63) hF rfl ?_ ?_)<;>intro hF
    ·refine X0 7 rfl ?_
     obtain rfl:=qb hF
     exact rG ⟨_,hK3,rfl,h⟩ rfl
    refine X2 7 2 0 h rfl (zcB h hF (qhe (h.old ha2)) rfl fun r2 w13 h hF=>X0 4 rfl ?_)
    obtain rfl:=qb hF
    exact rG ⟨_,hK3,rfl,h⟩ rfl
   refine X2 12 2 0 h rfl (zcB h hF (qhe (h.old ha2)) rfl fun r3 w14 h hF=>X0 4 rfl ?_)
   obtain rfl:=qb hF
   exact rG ⟨_,hK3,rfl,h⟩ rfl
  rintro e3 w15 ⟨b7,hF,rfl,h⟩
  subst hKF1
  refine qh rfl hF ?_ ?_<;>intro hF
  ·refine X0 4 rfl ?_
   obtain rfl:=qb hF;replace hF:=hK2
   exact rb h hF rfl
  refine X1 7 0 h rfl (qh rfl hF ?_ ?_)<;>intro hF
  ·refine X1 4 0 h rfl ?_
   obtain ⟨y6,hy6,hF,he6,b8,_,q6,cs8,hp6,hq6,rfl,hc12⟩:=(h.sl 1 rfl).1.ix hF
   refine zx hp6 hq6 ⟨he6.1,qD he6.2.1 (h.sl 1 rfl).2⟩ rfl (zc 0 hc12 rfl (zp1 rfl ?_))
   obtain ⟨y7,hy7,hF,he7,b9,_,q7,cs9,hp7,hq7,rfl,hc13⟩:=(h.sl 1 rfl).1.ix hF
   refine zx hp7 hq7 ⟨he7.1,qD he7.2.1 (h.sl 1 rfl).2⟩ rfl (qau qa 1 0 (W64 (y6+1)) h rfl hy7 hp7 hq7 rfl hc13 rfl rfl rfl rfl rfl rfl rfl fun w12 h=>X0 6 rfl ?_)
   replace h:=h.pick [1,2] rfl
   exact rK ⟨_,_,hF,rfl,h⟩ rfl
  refine X0 6 rfl ?_
  replace h:=h.pick [1,2] rfl
  exact rK ⟨_,_,hF,rfl,h⟩ rfl
 refine qq rfl ?_
 obtain rfl:=qb hF;replace hF:=hK2
 exact X0 3 rfl (zcB h hF (qf9 (h.own 0 rfl)) rfl fun r4 w16 h hF=>X0 3 rfl (rb h hF rfl))
def qbN (i1:Int) (y1:qi):Nat→(List Tplace)→Int→Option ((List Tplace) × Int)
 | 0,_,_=>none
 | n+1,x2,i2 =>
  bif decide (i2<(y1.Ai.length:Int)) then
   (idx y1.Ai i2).bind fun y2 =>
   (appS x2 ([(⟨i1,i2,y2,(i2==(W64 ((y1.Ai.length:Int)-1)))⟩:Tplace)]:List Tplace)).bind fun x3 =>
   qbN i1 y1 n x3 (W64 (i2+1))
  else
   some (x2,i2)
def qbL (d:qf):Nat→(List Tplace)→Int→Option ((List Tplace) × Int)
 | 0,_,_=>none
 | n+1,x4,i3 =>
  bif decide (i3<(d.Ah.length:Int)) then
   (idx d.Ah i3).bind fun y3 =>
   (appS x4 ([(⟨(-1),i3,y3.Bt,(y3.Br==1)⟩:Tplace)]:List Tplace)).bind fun x5 =>
   qbL d n x5 (W64 (i3+1))
  else
   some (x4,i3)
def qbK (d:qf):Nat→(List Tplace)→Int→Option ((List Tplace) × Int)
 | 0,_,_=>none
 | n+1,x1,i1 =>
  bif decide (i1<(d.Ab.length:Int)) then
   (idx d.Ab i1).bind fun y1 =>
   (qbN i1 y1 n x1 0).bind fun o=>match o with
   | (x2,_) =>
    qbK d n x2 (W64 (i1+1))
  else
   some (x1,i1)
def qcn (n:Nat) (d:qf):Option (List Tplace) :=
 (qbK d n ([]:List Tplace) 0).bind fun o=>match o with
 | (x1,_) =>
  (qbL d n x1 0).bind fun o=>match o with
  | (x4,_) =>
   some x4
theorem qeO {d:qf} (ha1:GoT.R w (old w) d cs1) {r:(List Tplace)} (hF:qcn n d=some r):RetV Tryz.prog 162 [GoT.v qf cs1] w r:=by
 obtain ⟨p1,k1,p2,k2,p3,k3,rfl,s1,s2,s3⟩:=qaA ha1
 refine zV 61 Tryz.func162 rfl fun h=>zSR (qv h rfl rfl fun w1 bb1 h=>X1 14 0 h rfl ?_)
 replace h:=h.nil (α:=Tplace)
 obtain ⟨o1,hF,hK1⟩:=qd hF
 refine qm (rL (fun m e w'=>∃ (S1:Nat→Prop) (p4:Option Addr) (ln1:Nat) (k4:Nat) (x1:(List Tplace)) (i1:Int),qbK d m x1 i1=some o1∧e=[(1,.pointer (some ⟨bb1,0,none⟩)),(3,.slice p4 ln1 k4),(11,.slice p1 d.Ab.length k1),(12,.int .i64 (d.Ab.length:Int)),(13,.int .i64 i1)]∧SH w w' [Ch.own S1 (x1:List Tplace) [.slice p4 ln1 k4],Ch.box bb1 (qaQ d p1 p2 p3 k1 k2 k3) 50]) n ⟨_,_,_,_,_,_,hF,rfl,h⟩ rfl ?_)
 rintro m1 e1 w2 ⟨S1,p4,ln1,k4,x1,i1,hF,rfl,h⟩
 obtain rfl:=(h.sl 0 rfl).2
 rcases m1 with _|m1
 ·cases hF
 refine X0 5 rfl (qh rfl hF ?_ ?_)<;>intro hF
 ·refine X0 6 rfl ?_
  obtain ⟨y1,hy1,hF,he1,b1,_,q1,cs2,hp1,hq1,hr1,hc2⟩:=s1.ix hF
  obtain ⟨p5,k5,rfl,s4⟩:=qO hr1
  refine zxe hp1 hq1 he1 rfl (zc 0 (hc2.below h.below) rfl (qp qa h rfl rfl rfl fun w3 bb2 h=>zp1 rfl (zs 0 h rfl fun w4 h=>X1 8 0 h rfl ?_)))
  obtain ⟨o2,hF,hK2⟩:=qd hF
  refine qm (rL (fun m e w'=>∃ (S2:Nat→Prop) (p6:Option Addr) (ln2:Nat) (k6:Nat) (x2:(List Tplace)) (i2:Int),qbN i1 y1 m x2 i2=some o2∧e=[(1,.pointer (some ⟨bb1,0,none⟩)),(3,.slice p6 ln2 k6),(4,.int .i64 i1),(5,.pointer (some ⟨bb2,0,none⟩)),(11,.slice p1 d.Ab.length k1),(12,.int .i64 (d.Ab.length:Int)),(13,.int .i64 i1),(19,.slice p5 y1.Ai.length k5),(20,.int .i64 (y1.Ai.length:Int)),(21,.int .i64 i2)]∧SH w w' [Ch.box bb2 (qjU y1 p5 k5) 174,Ch.own S2 (x2:List Tplace) [.slice p6 ln2 k6],Ch.box bb1 (qaQ d p1 p2 p3 k1 k2 k3) 50]) m1 ⟨_,_,_,_,_,_,hF,rfl,h⟩ rfl ?_)
  rintro m2 e2 w5 ⟨S2,p6,ln2,k6,x2,i2,hF,rfl,h⟩
  obtain rfl:=(h.sl 1 rfl).2
  rcases m2 with _|m2
  ·cases hF
  refine X0 5 rfl (qh rfl hF ?_ ?_)<;>intro hF
  ·refine X0 6 rfl ?_
   obtain ⟨y2,hy2,hF,he2,b2,_,q2,cs3,hp2,hq2,rfl,hc4⟩:=s4.ix hF
   refine zxe hp2 hq2 he2 rfl (zc 0 (hc4.below h.below) rfl (X1 14 0 h rfl (r_v (qW qa [0,1,2,3] [.tmp 27,.tmp 28,.tmp 29,.tmp 35] rfl rfl rfl rfl rfl rfl rfl rfl) rfl (qU qa [.tmp 36] _ ([(⟨i1,i2,y2,(i2==(W64 ((y1.Ai.length:Int)-1)))⟩:Tplace)]:List Tplace) h rfl rfl rfl rfl rfl rfl rfl rfl rfl ⟨(ql9 (⟨i1,i2,y2,(i2==(W64 ((y1.Ai.length:Int)-1)))⟩:Tplace)),trivial⟩ rfl fun w6 p7 S3 h=>?_))))
   obtain ⟨x3,hx1,hF⟩:=qd hF
   obtain ⟨g1,hx1⟩:=qaF hx1
   refine qc3 qa 2 h rfl (h.sl 0 rfl).1 (h.sl 0 rfl).2 rfl rfl rfl rfl rfl rfl rfl rfl rfl g1 hx1 rfl fun w7 p8 k7 S4 h=>X0 7 rfl ?_
   replace h:=h.pick [1,2,3] rfl
   exact rK ⟨_,_,_,_,_,_,hF,rfl,h⟩ rfl
  refine qq rfl ?_
  obtain rfl:=qb hF;replace hF:=hK2
  refine X0 5 rfl ?_
  replace h:=h.pick [1,2] rfl
  exact rK ⟨_,_,_,_,_,_,hF,rfl,h⟩ rfl
 refine qq rfl ?_
 obtain rfl:=qb hF;replace hF:=hK1
 refine X1 8 1 h rfl ?_
 obtain ⟨o3,hF,hK3⟩:=qd hF
 refine qm ?_
 replace h:=h.pick [0] rfl
 refine rL (fun m e w'=>∃ (S5:Nat→Prop) (p9:Option Addr) (ln3:Nat) (k8:Nat) (x4:(List Tplace)) (i3:Int),qbL d m x4 i3=some o3∧e=[(3,.slice p9 ln3 k8),(42,.slice p3 d.Ah.length k3),(43,.int .i64 (d.Ah.length:Int)),(44,.int .i64 i3)]∧SH w w' [Ch.own S5 (x4:List Tplace) [.slice p9 ln3 k8]]) n ⟨_,_,_,_,_,_,hF,rfl,h⟩ rfl ?_
 rintro m3 e3 w8 ⟨S5,p9,ln3,k8,x4,i3,hF,rfl,h⟩
 obtain rfl:=(h.sl 0 rfl).2
 rcases m3 with _|m3
 ·cases hF
 refine X0 5 rfl (qh rfl hF ?_ ?_)<;>intro hF
 ·refine X0 6 rfl ?_
  obtain ⟨y3,hy3,hF,he3,b3,_,q3,cs4,hp3,hq3,hr3,hc6⟩:=s3.ix hF
  obtain rfl:=qaS hr3
  refine zxe hp3 hq3 he3 rfl (zc 0 (hc6.below h.below) rfl (qp qa h rfl rfl rfl fun w9 bb3 h=>zp1 rfl (zs 0 h rfl fun w10 h=>X2 9 0 0 h rfl (r_v (qW qa [0,1,2,3] [.const (.int .i64 (-1)),.tmp 50,.tmp 52,.tmp 55] rfl rfl rfl rfl rfl rfl rfl rfl) rfl (qU qa [.tmp 56] _ ([(⟨(-1),i3,y3.Bt,(y3.Br==1)⟩:Tplace)]:List Tplace) h rfl rfl rfl rfl rfl rfl rfl rfl rfl ⟨(ql9 (⟨(-1),i3,y3.Bt,(y3.Br==1)⟩:Tplace)),trivial⟩ rfl fun w11 p10 S6 h=>?_)))))
  obtain ⟨x5,hx2,hF⟩:=qd hF
  obtain ⟨g2,hx2⟩:=qaF hx2
  refine qc3 qa 2 h rfl (h.sl 0 rfl).1 (h.sl 0 rfl).2 rfl rfl rfl rfl rfl rfl rfl rfl rfl g2 hx2 rfl fun w12 p11 k9 S7 h=>X0 7 rfl ?_
  replace h:=h.pick [2] rfl
  exact rK ⟨_,_,_,_,_,_,hF,rfl,h⟩ rfl
 refine qq rfl ?_
 obtain rfl:=qb hF;replace hF:=hK3
 refine X0 5 rfl ?_
 obtain rfl:=qb hF
 exact rO 0 h rfl ⟨rfl,trivial⟩
def qbf (a_w:qE):Nat→Int→Option (Flow Bool Int)
 | 0,_=>none
 | n+1,i1 =>
  bif decide (i1<(a_w.Ak.length:Int)) then
   (idx a_w.Ak i1).bind fun y1 =>
   bif (i1==0) then
    bif (y1 != (-1)) then some (.ret false) else
    (idx a_w.Bs 0).bind fun y2 =>
    bif (y2 != 0) then some (.ret false) else
    bif decide (i1 > 0) then
     (qaU n y1 0 (W64 (i1-1))).bind fun r1 =>
     bif (!r1) then some (.ret false) else
     qbf a_w n (W64 (i1+1))
    else
     qbf a_w n (W64 (i1+1))
   else
    bif decide (i1 > 0) then
     (qaU n y1 0 (W64 (i1-1))).bind fun r2 =>
     bif (!r2) then some (.ret false) else
     qbf a_w n (W64 (i1+1))
    else
     qbf a_w n (W64 (i1+1))
  else
   some (.nxt i1)
def qht (n:Nat) (a_w:qE):Option Bool :=
 (qbf a_w n 0).bind fun o=>match o with
 | .ret r=>some r
 | .nxt _ =>
  some true
theorem qnS {a_w:qE} (ha1:GoT.R w (old w) a_w cs1) {r:Bool} (hF:qht n a_w=some r):RetV Tryz.prog 232 [GoT.v qE cs1] w r:=by
 obtain ⟨p1,k1,p2,k2,p3,k3,p4,k4,rfl,s1,s2,s3,s4⟩:=qaN ha1
 refine zV 38 Tryz.func232 rfl fun h=>zSR (qv h rfl rfl fun w1 bb1 h=>X1 10 0 h rfl ?_)
 obtain ⟨o1,hF,hK1⟩:=qd hF
 refine qm (rL (fun m e w'=>∃ (i1:Int),qbf a_w m i1=some o1∧e=[(1,.pointer (some ⟨bb1,0,none⟩)),(6,.slice p1 a_w.Ak.length k1),(7,.int .i64 (a_w.Ak.length:Int)),(8,.int .i64 i1)]∧SH w w' [Ch.box bb1 (qgO a_w p1 p2 p3 p4 k1 k2 k3 k4) 210]) n ⟨_,hF,rfl,h⟩ rfl ?_)
 rintro m1 e1 w2 ⟨i1,hF,rfl,h⟩
 rcases m1 with _|m1
 ·cases hF
 refine X0 5 rfl (qh rfl hF ?_ ?_)<;>intro hF
 ·refine X0 6 rfl ?_
  obtain ⟨y1,hy1,hF,he1,b1,_,q1,cs2,hp1,hq1,rfl,hc2⟩:=s1.ix hF
  refine zxe hp1 hq1 he1 rfl (zc 0 (hc2.below h.below) rfl (X0 8 rfl (qk (t:=15) hF rfl ?_ ?_)))<;>intro hF
  ·refine X0 6 rfl (qk (t:=18) hF rfl ?_ ?_)<;>intro hF
   ·refine X0 20 rfl (qb8 rfl rfl (X0 4 rfl ?_))
    obtain rfl:=qb hF;replace hF:=hK1
    exact rb h hF rfl
   refine X1 5 0 h rfl ?_
   obtain ⟨y2,hy2,hF,he2,b2,_,q2,cs3,hp2,hq2,rfl,hc3⟩:=s2.ix hF
   refine zxe hp2 hq2 he2 rfl (X0 1 rfl (zc 0 (hc3.below h.below) rfl (X0 6 rfl (qk (t:=26) hF rfl ?_ ?_))))<;>intro hF
   ·refine X0 11 rfl (qb8 rfl rfl (X0 4 rfl ?_))
    obtain rfl:=qb hF;replace hF:=hK1
    exact rb h hF rfl
   refine X0 6 rfl (qk (t:=29) hF rfl ?_ ?_)<;>intro hF
   ·refine X0 7 rfl (zcB h hF qaH rfl fun r1 w3 h hF=>X0 6 rfl (qh rfl hF ?_ ?_))<;>intro hF
    ·refine X0 4 rfl ?_
     obtain rfl:=qb hF;replace hF:=hK1
     exact rb h hF rfl
    exact X0 6 rfl (rK ⟨_,hF,rfl,h⟩ rfl)
   exact X0 9 rfl (qcj rfl rfl (X0 6 rfl (rK ⟨_,hF,rfl,h⟩ rfl)))
  refine X0 17 rfl (qk (t:=29) hF rfl ?_ ?_)<;>intro hF
  ·refine X0 7 rfl (zcB h hF qaH rfl fun r2 w4 h hF=>X0 6 rfl (qh rfl hF ?_ ?_))<;>intro hF
   ·refine X0 4 rfl ?_
    obtain rfl:=qb hF;replace hF:=hK1
    exact rb h hF rfl
   exact X0 6 rfl (rK ⟨_,hF,rfl,h⟩ rfl)
  exact X0 9 rfl (qcj rfl rfl (X0 6 rfl (rK ⟨_,hF,rfl,h⟩ rfl)))
 refine qq rfl ?_
 obtain rfl:=qb hF;replace hF:=hK1
 exact X0 4 rfl (rb h hF rfl)
def qlm (n:Nat) (a_w:qE) (sinks:Int):Option Bool :=
 (qbv n a_w.Ak).bind fun r1 =>
 (qaU n r1 1 8).bind fun r2 =>
 bif r2 then
  (qbv n a_w.Bs).bind fun r3 =>
  bif (r3==r1) then
   (qbv n a_w.Bo).bind fun r4 =>
   bif (r4==r1) then
    (qht n a_w).bind fun r5 =>
    bif r5 then
     (qbD n a_w.Bs 0 1000).bind fun r6 =>
     bif r6 then
      (qbD n a_w.Bo 0 500).bind fun r7 =>
      bif r7 then
       (qbv n a_w.Bh).bind fun r8 =>
       bif (r8==sinks) then
        (qbD n a_w.Bh 0 (W64 (r1-1))).bind fun r9 =>
        some r9
       else
        some false
      else
       some false
     else
      some false
    else
     some false
   else
    some false
  else
   some false
 else
  some false
theorem qq5 {a_w:qE} {sinks:Int} (ha1:GoT.R w (old w) a_w cs1) {r:Bool} (hF:qlm n a_w sinks=some r):RetV Tryz.prog 163 [GoT.v qE cs1,.int .i64 sinks] w r:=by
 obtain ⟨p1,k1,p2,k2,p3,k3,p4,k4,rfl,s1,s2,s3,s4⟩:=qaN ha1
 refine zV 53 Tryz.func163 rfl fun h=>zSR (qv h rfl rfl fun w1 bb1 h=>X1 6 0 h rfl (zcI h hF (qcu ⟨_,_,rfl,(h.oldS s1)⟩) rfl fun r1 w2 h hF=>X0 5 rfl (zcB h hF qaH rfl fun r2 w3 h hF=>zp1 rfl (qk (t:=11) hF rfl ?_ ?_))))<;>intro hF
 ·refine X1 5 0 h rfl (zcI h hF (qcu ⟨_,_,rfl,(h.oldS s2)⟩) rfl fun r3 w4 h hF=>X0 6 rfl (qk (t:=18) hF rfl ?_ ?_))<;>intro hF
  ·refine X1 5 0 h rfl (zcI h hF (qcu ⟨_,_,rfl,(h.oldS s3)⟩) rfl fun r4 w5 h hF=>X0 6 rfl (qk (t:=25) hF rfl ?_ ?_))<;>intro hF
   ·refine X1 3 0 h rfl (zcB h hF (qnS (h.old ha1)) rfl fun r5 w6 h hF=>zp2 rfl (qk (t:=29) hF rfl ?_ ?_))<;>intro hF
    ·refine X1 5 0 h rfl (zcB h hF (qb6 ⟨_,_,rfl,(h.oldS s2)⟩) rfl fun r6 w7 h hF=>zp2 rfl (qk (t:=34) hF rfl ?_ ?_))<;>intro hF
     ·refine X1 5 0 h rfl (zcB h hF (qb6 ⟨_,_,rfl,(h.oldS s3)⟩) rfl fun r7 w8 h hF=>zp2 rfl (qk (t:=39) hF rfl ?_ ?_))<;>intro hF
      ·refine X1 5 0 h rfl (zcI h hF (qcu ⟨_,_,rfl,(h.oldS s4)⟩) rfl fun r8 w9 h hF=>X0 6 rfl (qk (t:=46) hF rfl ?_ ?_))<;>intro hF
       ·exact X1 9 0 h rfl (zcB h hF (qb6 ⟨_,_,rfl,(h.oldS s4)⟩) rfl fun r9 w10 h hF=>X0 3 rfl (rb h hF rfl))
       exact X0 8 rfl (rb h hF rfl)
      exact X0 15 rfl (rb h hF rfl)
     exact X0 20 rfl (rb h hF rfl)
    exact X0 25 rfl (rb h hF rfl)
   exact X0 29 rfl (rb h hF rfl)
  exact X0 36 rfl (rb h hF rfl)
 exact X0 43 rfl (rb h hF rfl)
def qe1 (b:qg) (x2:(List Int)):Nat→Int→Option (Flow Bool Int)
 | 0,_=>none
 | n+1,i2 =>
  bif decide (i2<(b.Ac.length:Int)) then
   (idx b.Ac i2).bind fun y4 =>
   (idx x2 i2).bind fun y5 =>
   (qlm n y4 y5).bind fun r2 =>
   bif (!r2) then some (.ret false) else
   qe1 b x2 n (W64 (i2+1))
  else
   some (.nxt i2)
def qcV (r1:(List Tplace)):Nat→(List Int)→Int→Option ((List Int) × Int)
 | 0,_,_=>none
 | n+1,x2,i1 =>
  bif decide (i1<(r1.length:Int)) then
   (idx r1 i1).bind fun y1 =>
   bif (!y1.drives) then
    (idx x2 y1.net).bind fun y2 =>
    (idx x2 y1.net).bind fun _ =>
    qcV r1 n (setS x2 y1.net (W64 (y2+1))) (W64 (i1+1))
   else
    qcV r1 n x2 (W64 (i1+1))
  else
   some (x2,i1)
def qf6 (n:Nat) (b:qg):Option Bool :=
 (
  (qjk n (⟨b.Ar.Ap⟩:qr) (⟨b.Aa.Ab,b.Aa.Ai,b.Aa.Ah⟩:qf)).bind fun r3 =>
  bif (!r3) then some true else
  some ((b.Ac.length:Int) != (b.Aa.Ai.length:Int))).bind fun b1 =>
 bif b1 then some false else
 (mkS (b.Ac.length:Int) (0:Int)).bind fun x1 =>
 (qcn n (⟨b.Aa.Ab,b.Aa.Ai,b.Aa.Ah⟩:qf)).bind fun r1 =>
 (qcV r1 n x1 0).bind fun o=>match o with
 | (x2,_) =>
  (qe1 b x2 n 0).bind fun o=>match o with
  | .ret r=>some r
  | .nxt _ =>
   some true
theorem qmD {b:qg} (ha1:GoT.R w (old w) b cs1) {r:Bool} (hF:qf6 n b=some r):RetV Tryz.prog 85 [GoT.v qg cs1] w r:=by
 obtain ⟨p1,k1,p2,k2,p3,k3,p4,k4,p5,k5,rfl,s1,s2,s3,s4,s5⟩:=qI ha1
 refine zV 63 Tryz.func85 rfl fun h=>zSR (qv h rfl rfl fun w1 bb1 h=>X0 4 rfl ?_)
 obtain ⟨KF1,hKF1,o3,hF,hK3⟩:=bindE hF
 refine qba (fun e w'=>∃ (b1:Bool),KF1 b1=some r∧e=[(1,.pointer (some ⟨bb1,0,none⟩)),(23,.bool b1)]∧SH w w' [Ch.box bb1 (qZ b p1 p2 p3 p4 p5 k1 k2 k3 k4 k5) 53]) ?_ ?_
 ·refine X2 5 0 0 h rfl (zcB h hF (qpE (qd7 _ (h.oldS s1)) (qax _ (h.oldS s2) (h.oldS s3) (h.oldS s4))) rfl fun r3 w12 h hF=>zp2 rfl (qk (t:=14) hF rfl ?_ ?_))<;>intro hF
  ·refine X0 10 rfl ?_
   obtain rfl:=qb hF
   exact rG ⟨_,hK3,rfl,h⟩ rfl
  refine X2 18 0 0 h rfl ?_
  obtain rfl:=qb hF
  exact rG ⟨_,hK3,rfl,h⟩ rfl
 rintro e3 w13 ⟨b1,hF,rfl,h⟩
 subst hKF1
 refine qh rfl hF ?_ ?_<;>intro hF
 ·exact X0 4 rfl (rb h hF rfl)
 refine X1 6 0 h rfl ?_
 obtain ⟨x1,hx1,hF⟩:=qd hF
 obtain ⟨g1,g2,hx1⟩:=qV hx1
 refine qam qa Int h rfl rfl rfl rfl rfl rfl rfl rfl rfl g1 g2 hx1 rfl fun w2 S1 p6 h=>X1 7 1 h rfl (zcL h hF (qeO (qax _ (h.oldS s2) (h.oldS s3) (h.oldS s4))) rfl fun r1 w3 S2 p7 k6 h hF=>X0 3 rfl ?_)
 obtain ⟨o1,hF,hK1⟩:=qd hF
 refine qm (rL (fun m e w'=>∃ (x2:(List Int)) (i1:Int),qcV r1 m x2 i1=some o1∧e=[(1,.pointer (some ⟨bb1,0,none⟩)),(3,.slice p6 x1.length x1.length),(30,.slice p7 r1.length k6),(31,.int .i64 (r1.length:Int)),(32,.int .i64 i1)]∧SH w w' [Ch.own S2 (r1:List Tplace) [.slice p7 r1.length k6],Ch.own S1 (x2:List Int) [.slice p6 x1.length x1.length],Ch.box bb1 (qZ b p1 p2 p3 p4 p5 k1 k2 k3 k4 k5) 53]) n ⟨_,_,hF,rfl,h⟩ rfl ?_)
 rintro m1 e1 w4 ⟨x2,i1,hF,rfl,h⟩
 rcases m1 with _|m1
 ·cases hF
 refine X0 5 rfl (qh rfl hF ?_ ?_)<;>intro hF
 ·refine zKSBSR ?_
  obtain ⟨y1,hy1,hF,he1,b2,_,q1,cs2,hp1,hq1,hr2,hc3⟩:=(h.sl 0 rfl).1.ix hF
  obtain rfl:=qhk hr2
  refine zx hp1 hq1 ⟨he1.1,qD he1.2.1 (h.sl 0 rfl).2⟩ rfl (zc 0 hc3 rfl (qp qa h rfl rfl rfl fun w5 bb2 h=>zs 0 h rfl fun w6 h=>X1 7 0 h rfl (qh rfl hF ?_ ?_)))<;>intro hF
  ·refine X1 4 0 h rfl ?_
   obtain ⟨y2,hy2,hF,he2,b3,_,q2,cs3,hp2,hq2,rfl,hc5⟩:=(h.sl 2 rfl).1.ix hF
   refine zx hp2 hq2 ⟨he2.1,qD he2.2.1 (h.sl 2 rfl).2⟩ rfl (zc 0 hc5 rfl (zp1 rfl ?_))
   obtain ⟨y3,hy3,hF,he3,b4,_,q3,cs4,hp3,hq3,rfl,hc6⟩:=(h.sl 2 rfl).1.ix hF
   refine zx hp3 hq3 ⟨he3.1,qD he3.2.1 (h.sl 2 rfl).2⟩ rfl (qau qa 2 0 (W64 (y2+1)) h rfl hy3 hp3 hq3 rfl hc6 rfl rfl rfl rfl rfl rfl rfl fun w7 h=>X0 6 rfl ?_)
   replace h:=h.pick [1,2,3] rfl
   exact rK ⟨_,_,hF,rfl,h⟩ rfl
  refine X0 6 rfl ?_
  replace h:=h.pick [1,2,3] rfl
  exact rK ⟨_,_,hF,rfl,h⟩ rfl
 refine qq rfl ?_
 obtain rfl:=qb hF;replace hF:=hK1
 refine X1 8 2 h rfl ?_
 obtain ⟨o2,hF,hK2⟩:=qd hF
 refine qm ?_
 replace h:=h.pick [1] rfl
 refine rL (fun m e w'=>∃ (i2:Int),qe1 b x2 m i2=some o2∧e=[(3,.slice p6 x1.length x1.length),(48,.slice p5 b.Ac.length k5),(49,.int .i64 (b.Ac.length:Int)),(50,.int .i64 i2)]∧SH w w' [Ch.own S1 (x2:List Int) [.slice p6 x1.length x1.length]]) n ⟨_,hF,rfl,h⟩ rfl ?_
 rintro m2 e2 w8 ⟨i2,hF,rfl,h⟩
 rcases m2 with _|m2
 ·cases hF
 refine X0 5 rfl (qh rfl hF ?_ ?_)<;>intro hF
 ·refine X0 6 rfl ?_
  obtain ⟨y4,hy4,hF,he4,b5,_,q4,cs5,hp4,hq4,hr5,hc8⟩:=s5.ix hF
  obtain ⟨p8,k7,p9,k8,p10,k9,p11,k10,rfl,s6,s7,s8,s9⟩:=qaN hr5
  refine zxe hp4 hq4 he4 rfl (zc 0 (hc8.below h.below) rfl (qp qa h rfl rfl rfl fun w9 bb3 h=>zp1 rfl (zs 0 h rfl fun w10 h=>zNS (rD (Y1 1 0 h rfl ?_)))))
  refine zd2 rfl ?_
  obtain ⟨y5,hy5,hF,he5,b6,_,q5,cs6,hp5,hq5,rfl,hc9⟩:=(h.sl 1 rfl).1.ix hF
  refine zdx hp5 hq5 ⟨he5.1,qD he5.2.1 (h.sl 1 rfl).2⟩ rfl (zdc 0 hc9 rfl ?_)
  obtain ⟨r2,hr7,hF⟩:=qd hF
  refine qbm r2 (vsB _) (cB 163 rfl) (fun _ hb=>qq5 (qku y4 ((h.ext hb).oldS s6) ((h.ext hb).oldS s7) ((h.ext hb).oldS s8) ((h.ext hb).oldS s9)) hr7) rfl rfl rfl rfl (zd1 rfl (dN h fun w11 h=>qh rfl hF ?_ ?_))<;>intro hF
  ·refine X0 4 rfl ?_
   obtain rfl:=qb hF;replace hF:=hK2
   exact rb h hF rfl
  refine X0 6 rfl ?_
  replace h:=h.pick [1] rfl
  exact rK ⟨_,hF,rfl,h⟩ rfl
 refine qq rfl ?_
 obtain rfl:=qb hF;replace hF:=hK2
 exact X0 4 rfl (rb h hF rfl)
end Go.Fw


namespace Go.Fw
open Go
def qaO (a:(List Int)):Nat:=a.length
theorem qdv {a:(List Int)} (h:(rngL rngI) a) (w:qaO a≤1048576):(okL okI) a :=
 ⟨by simp only [qaO] at w;omega,fun x hx=>h.2 x hx⟩
def qio (x:qt):Prop:=(rngL rngI) x.Bi∧(rngL rngI) x.Bb∧(rngL rngI) x.Ba
def qea (x:qt):Nat:=qaO x.Bi+qaO x.Bb+qaO x.Ba
structure qiz (x:qt):Prop where
 Bi:(okL okI) x.Bi
 Bb:(okL okI) x.Bb
 Ba:(okL okI) x.Ba
theorem qus {x:qt} (h:qio x) (w:qea x≤1048576):qiz x:=⟨qdv (h.1) (by simp only [qea] at w;omega),qdv (h.2.1) (by simp only [qea] at w;omega),qdv (h.2.2) (by simp only [qea] at w;omega)⟩
def qc8 (a:(List qt)):Nat:=a.length+(a.map fun x=>qea x).sum
theorem qpU {a:(List qt)} (h:(rngL qio) a) (w:qc8 a≤1048576):(okL qiz) a :=
 ⟨by simp only [qc8] at w;omega,fun x hx=>qus (h.2 x hx) (by have:=qcB (wt:=fun x:qt=>qea x) hx;simp only [qc8] at w;omega)⟩
def qms (x:qG):Prop:=rngI x.Av∧rngI x.Be∧rngI x.To∧rngI x.Bl∧(rngL qio) x.Bj∧(rngL qio) x.Aq
def qi2 (x:qG):Nat:=qc8 x.Bj+qc8 x.Aq
structure qob (x:qG):Prop where
 Av:okI x.Av
 Be:okI x.Be
 To:okI x.To
 Bl:okI x.Bl
 Bj:(okL qiz) x.Bj
 Aq:(okL qiz) x.Aq
theorem qwx {x:qG} (h:qms x) (w:qi2 x≤1048576):qob x:=⟨h.1,h.2.1,h.2.2.1,h.2.2.2.1,qpU (h.2.2.2.2.1) (by simp only [qi2] at w;omega),qpU (h.2.2.2.2.2) (by simp only [qi2] at w;omega)⟩
theorem qfM {a:(List Int)} (h:qaO a≤1048576):Ev (fun n=>qbu n a a) true:=by
 have hl:a.length≤1048576:=by simp only [qaO] at h;omega
 unfold qbu
 exact Ev.ff (by simp) (Ev.bind (b:=.nxt (a.length:Int)) (qh4 (eqf:=fun _ x y=>some (!(x != y))) (fun x _=>Ev.now (by simp))
  (fun n=>by simp only [qfS,ql (je _),cond_false])
  (fun n j x hx=>by
   have hj:=(List.getElem?_eq_some_iff.1 hx).1
   simp only [qfS,qj hj,cond_true,qM hx,jd,Bool.not_not,wS j])) .done)
theorem qwU {a:qt} (h:qea a≤1048576):Ev (fun n=>qiC n a a) true:=by
 unfold qiC
 simp only [qea] at h
 exact Ev.bind (qfM (a:=a.Bi) (by omega)) (Ev.ff rfl (Ev.bind (qfM (a:=a.Bb) (by omega)) (Ev.ff rfl (Ev.bind (qfM (a:=a.Ba) (by omega)) (Ev.ff rfl (.done))))))
theorem qsj {a:(List qt)} (h:qc8 a≤1048576):Ev (fun n=>qhO n a a) true:=by
 have hl:a.length≤1048576:=by simp only [qc8] at h;omega
 unfold qhO
 exact Ev.ff (by simp) (Ev.bind (b:=.nxt (a.length:Int)) (qh4 (eqf:=qiC) (fun x hx=>qwU (by have:=qcB (wt:=fun x:qt=>qea x) hx;simp only [qc8] at h;omega))
  (fun n=>by simp only [qfD,ql (je _),cond_false])
  (fun n j x hx=>by
   have hj:=(List.getElem?_eq_some_iff.1 hx).1
   simp only [qfD,qj hj,cond_true,qM hx,jd,wS j])) .done)
theorem qyK {a:qG} (h:qi2 a≤1048576):Ev (fun n=>qkx n a a) true:=by
 unfold qkx
 simp only [qi2] at h
 exact Ev.ff qby (Ev.ff qby (Ev.ff qby (Ev.ff qby (Ev.bind (qsj (a:=a.Bj) (by omega)) (Ev.ff rfl (Ev.bind (qsj (a:=a.Aq) (by omega)) (Ev.ff rfl (.done))))))))
def qhK (a:(List qG)):Nat:=a.length+(a.map fun x=>qi2 x).sum
theorem qvk {a:(List qG)} (h:(rngL qms) a) (w:qhK a≤1048576):(okL qob) a :=
 ⟨by simp only [qhK] at w;omega,fun x hx=>qwx (h.2 x hx) (by have:=qcB (wt:=fun x:qG=>qi2 x) hx;simp only [qhK] at w;omega)⟩
theorem qxY {a:(List qG)} (h:qhK a≤1048576):Ev (fun n=>qk9 n a a) true:=by
 have hl:a.length≤1048576:=by simp only [qhK] at h;omega
 unfold qk9
 exact Ev.ff (by simp) (Ev.bind (b:=.nxt (a.length:Int)) (qh4 (eqf:=qkx) (fun x hx=>qyK (by have:=qcB (wt:=fun x:qG=>qi2 x) hx;simp only [qhK] at h;omega))
  (fun n=>by simp only [qgW,ql (je _),cond_false])
  (fun n j x hx=>by
   have hj:=(List.getElem?_eq_some_iff.1 hx).1
   simp only [qgW,qj hj,cond_true,qM hx,jd,wS j])) .done)
def qmg (x:qal):Prop:=rngS x.Az∧rngI x.Br∧rngI x.Bo∧rngB x.Bn
def qkE (x:qal):Nat:=x.Az.size
structure qmP (x:qal):Prop where
 Az:okS x.Az
 Br:okI x.Br
 Bo:okI x.Bo
 Bn:okT x.Bn
theorem qwo {x:qal} (h:qmg x) (w:qkE x≤1048576):qmP x:=⟨(by unfold okS;simp only [qkE] at w;omega),h.2.1,h.2.2.1,trivial⟩
def qhI (a:(List qal)):Nat:=a.length+(a.map fun x=>qkE x).sum
theorem qvu {a:(List qal)} (h:(rngL qmg) a) (w:qhI a≤1048576):(okL qmP) a :=
 ⟨by simp only [qhI] at w;omega,fun x hx=>qwo (h.2 x hx) (by have:=qcB (wt:=fun x:qal=>qkE x) hx;simp only [qhI] at w;omega)⟩
def qkT (x:qw):Prop:=rngS x.Az∧rngI x.Av∧(rngL qmg) x.Au∧(rngL qms) x.As∧(rngL rngI) x.Bk∧rngI x.Bw∧rngI x.Bq
def qfO (x:qw):Nat:=x.Az.size+qhI x.Au+qhK x.As+qaO x.Bk
structure qny (x:qw):Prop where
 Az:okS x.Az
 Av:okI x.Av
 Au:(okL qmP) x.Au
 As:(okL qob) x.As
 Bk:(okL okI) x.Bk
 Bw:okI x.Bw
 Bq:okI x.Bq
theorem qvH {x:qw} (h:qkT x) (w:qfO x≤1048576):qny x:=⟨(by unfold okS;simp only [qfO] at w;omega),h.2.1,qvu (h.2.2.1) (by simp only [qfO] at w;omega),qvk (h.2.2.2.1) (by simp only [qfO] at w;omega),qdv (h.2.2.2.2.1) (by simp only [qfO] at w;omega),h.2.2.2.2.2.1,h.2.2.2.2.2.2⟩
def qgf (a:(List qw)):Nat:=a.length+(a.map fun x=>qfO x).sum
theorem qu0 {a:(List qw)} (h:(rngL qkT) a) (w:qgf a≤1048576):(okL qny) a :=
 ⟨by simp only [qgf] at w;omega,fun x hx=>qvH (h.2 x hx) (by have:=qcB (wt:=fun x:qw=>qfO x) hx;simp only [qgf] at w;omega)⟩
def qlk (x:qr):Prop:=(rngL qkT) x.Ap
def qew (x:qr):Nat:=qgf x.Ap
structure qih (x:qr):Prop where
 Ap:(okL qny) x.Ap
theorem qs6 {x:qr} (h:qlk x) (w:qew x≤1048576):qih x:=⟨qu0 (h) (by simp only [qew] at w;omega)⟩
def qf4 (x:qi):Prop:=rngS x.Az∧rngI x.Bp∧(rngL rngI) x.Ai
def qbM (x:qi):Nat:=x.Az.size+qaO x.Ai
structure qnq (x:qi):Prop where
 Az:okS x.Az
 Bp:okI x.Bp
 Ai:(okL okI) x.Ai
theorem qrB {x:qi} (h:qf4 x) (w:qbM x≤1048576):qnq x:=⟨(by unfold okS;simp only [qbM] at w;omega),h.2.1,qdv (h.2.2) (by simp only [qbM] at w;omega)⟩
def qbS (a:(List qi)):Nat:=a.length+(a.map fun x=>qbM x).sum
theorem qq6 {a:(List qi)} (h:(rngL qf4) a) (w:qbS a≤1048576):(okL qnq) a :=
 ⟨by simp only [qbS] at w;omega,fun x hx=>qrB (h.2 x hx) (by have:=qcB (wt:=fun x:qi=>qbM x) hx;simp only [qbS] at w;omega)⟩
def qem (a:(List ByteArray)):Nat:=a.length+(a.map fun x=>x.size).sum
theorem qsR {a:(List ByteArray)} (_:(rngL rngS) a) (w:qem a≤1048576):(okL okS) a :=
 ⟨by simp only [qem] at w;omega,fun x hx=>(by unfold okS;have:=qcB (wt:=fun x:ByteArray=>x.size) hx;simp only [qem] at w;omega)⟩
def qkQ (x:qP):Prop:=rngS x.Az∧rngI x.Br∧rngI x.Bt
def qie (x:qP):Nat:=x.Az.size
structure qsW (x:qP):Prop where
 Az:okS x.Az
 Br:okI x.Br
 Bt:okI x.Bt
theorem qvx {x:qP} (h:qkQ x) (w:qie x≤1048576):qsW x:=⟨(by unfold okS;simp only [qie] at w;omega),h.2.1,h.2.2⟩
def qf5 (a:(List qP)):Nat:=a.length+(a.map fun x=>qie x).sum
theorem quR {a:(List qP)} (h:(rngL qkQ) a) (w:qf5 a≤1048576):(okL qsW) a :=
 ⟨by simp only [qf5] at w;omega,fun x hx=>qvx (h.2 x hx) (by have:=qcB (wt:=fun x:qP=>qie x) hx;simp only [qf5] at w;omega)⟩
def qmd (x:qf):Prop:=(rngL qf4) x.Ab∧(rngL rngS) x.Ai∧(rngL qkQ) x.Ah
def qeE (x:qf):Nat:=qbS x.Ab+qem x.Ai+qf5 x.Ah
structure qks (x:qf):Prop where
 Ab:(okL qnq) x.Ab
 Ai:(okL okS) x.Ai
 Ah:(okL qsW) x.Ah
theorem qtr {x:qf} (h:qmd x) (w:qeE x≤1048576):qks x:=⟨qq6 (h.1) (by simp only [qeE] at w;omega),qsR (h.2.1) (by simp only [qeE] at w;omega),quR (h.2.2) (by simp only [qeE] at w;omega)⟩
def qkw (x:qE):Prop:=(rngL rngI) x.Ak∧(rngL rngI) x.Bs∧(rngL rngI) x.Bo∧(rngL rngI) x.Bh
def qfA (x:qE):Nat:=qaO x.Ak+qaO x.Bs+qaO x.Bo+qaO x.Bh
structure qol (x:qE):Prop where
 Ak:(okL okI) x.Ak
 Bs:(okL okI) x.Bs
 Bo:(okL okI) x.Bo
 Bh:(okL okI) x.Bh
theorem qvP {x:qE} (h:qkw x) (w:qfA x≤1048576):qol x:=⟨qdv (h.1) (by simp only [qfA] at w;omega),qdv (h.2.1) (by simp only [qfA] at w;omega),qdv (h.2.2.1) (by simp only [qfA] at w;omega),qdv (h.2.2.2) (by simp only [qfA] at w;omega)⟩
def qf8 (a:(List qE)):Nat:=a.length+(a.map fun x=>qfA x).sum
theorem quC {a:(List qE)} (h:(rngL qkw) a) (w:qf8 a≤1048576):(okL qol) a :=
 ⟨by simp only [qf8] at w;omega,fun x hx=>qvP (h.2 x hx) (by have:=qcB (wt:=fun x:qE=>qfA x) hx;simp only [qf8] at w;omega)⟩
def qnt (x:qg):Prop:=qlk x.Ar∧qmd x.Aa∧(rngL qkw) x.Ac
def qf7 (x:qg):Nat:=qew x.Ar+qeE x.Aa+qf8 x.Ac
structure qjF (x:qg):Prop where
 Ar:qih x.Ar
 Aa:qks x.Aa
 Ac:(okL qol) x.Ac
theorem quc {x:qg} (h:qnt x) (w:qf7 x≤1048576):qjF x:=⟨qs6 (h.1) (by simp only [qf7] at w;omega),qtr (h.2.1) (by simp only [qf7] at w;omega),quC (h.2.2) (by simp only [qf7] at w;omega)⟩
theorem qy1 {a:qal} (_:qkE a≤1048576):Ev (fun n=>qkN n a a) true:=by
 unfold qkN
 exact Ev.ff qkd (Ev.ff qby (Ev.ff qby (Ev.ff qsQ (.done))))
theorem qyh {a:(List qal)} (h:qhI a≤1048576):Ev (fun n=>qli n a a) true:=by
 have hl:a.length≤1048576:=by simp only [qhI] at h;omega
 unfold qli
 exact Ev.ff (by simp) (Ev.bind (b:=.nxt (a.length:Int)) (qh4 (eqf:=qkN) (fun x hx=>qy1 (by have:=qcB (wt:=fun x:qal=>qkE x) hx;simp only [qhI] at h;omega))
  (fun n=>by simp only [qhg,ql (je _),cond_false])
  (fun n j x hx=>by
   have hj:=(List.getElem?_eq_some_iff.1 hx).1
   simp only [qhg,qj hj,cond_true,qM hx,jd,wS j])) .done)
theorem qxE {a:qw} (h:qfO a≤1048576):Ev (fun n=>qjB n a a) true:=by
 unfold qjB
 simp only [qfO] at h
 exact Ev.ff qkd (Ev.ff qby (Ev.bind (qyh (a:=a.Au) (by omega)) (Ev.ff rfl (Ev.bind (qxY (a:=a.As) (by omega)) (Ev.ff rfl (Ev.bind (qfM (a:=a.Bk) (by omega)) (Ev.ff rfl (Ev.ff qby (Ev.ff qby (.done))))))))))
theorem qwY {a:(List qw)} (h:qgf a≤1048576):Ev (fun n=>qkk n a a) true:=by
 have hl:a.length≤1048576:=by simp only [qgf] at h;omega
 unfold qkk
 exact Ev.ff (by simp) (Ev.bind (b:=.nxt (a.length:Int)) (qh4 (eqf:=qjB) (fun x hx=>qxE (by have:=qcB (wt:=fun x:qw=>qfO x) hx;simp only [qgf] at h;omega))
  (fun n=>by simp only [qgk,ql (je _),cond_false])
  (fun n j x hx=>by
   have hj:=(List.getElem?_eq_some_iff.1 hx).1
   simp only [qgk,qj hj,cond_true,qM hx,jd,wS j])) .done)
theorem qup {a:qr} (h:qew a≤1048576):Ev (fun n=>qiE n a a) true:=by
 unfold qiE
 simp only [qew] at h
 exact Ev.bind (qwY (a:=a.Ap) (by omega)) (Ev.ff rfl (.done))
theorem qtN {a:qi} (h:qbM a≤1048576):Ev (fun n=>qgu n a a) true:=by
 unfold qgu
 simp only [qbM] at h
 exact Ev.ff qkd (Ev.ff qby (Ev.bind (qfM (a:=a.Ai) (by omega)) (Ev.ff rfl (.done))))
theorem qs0 {a:(List qi)} (h:qbS a≤1048576):Ev (fun n=>qhn n a a) true:=by
 have hl:a.length≤1048576:=by simp only [qbS] at h;omega
 unfold qhn
 exact Ev.ff (by simp) (Ev.bind (b:=.nxt (a.length:Int)) (qh4 (eqf:=qgu) (fun x hx=>qtN (by have:=qcB (wt:=fun x:qi=>qbM x) hx;simp only [qbS] at h;omega))
  (fun n=>by simp only [qd3,ql (je _),cond_false])
  (fun n j x hx=>by
   have hj:=(List.getElem?_eq_some_iff.1 hx).1
   simp only [qd3,qj hj,cond_true,qM hx,jd,wS j])) .done)
theorem quD {a:(List ByteArray)} (h:qem a≤1048576):Ev (fun n=>qiA n a a) true:=by
 have hl:a.length≤1048576:=by simp only [qem] at h;omega
 unfold qiA
 exact Ev.ff (by simp) (Ev.bind (b:=.nxt (a.length:Int)) (qh4 (eqf:=fun _ x y=>some (!(x.toList != y.toList))) (fun x _=>Ev.now (by simp))
  (fun n=>by simp only [qfl,ql (je _),cond_false])
  (fun n j x hx=>by
   have hj:=(List.getElem?_eq_some_iff.1 hx).1
   simp only [qfl,qj hj,cond_true,qM hx,jd,Bool.not_not,wS j])) .done)
theorem qyb {a:qP} (_:qie a≤1048576):Ev (fun n=>qjP n a a) true:=by
 unfold qjP
 exact Ev.ff qkd (Ev.ff qby (Ev.ff qby (.done)))
theorem qwG {a:(List qP)} (h:qf5 a≤1048576):Ev (fun n=>qj7 n a a) true:=by
 have hl:a.length≤1048576:=by simp only [qf5] at h;omega
 unfold qj7
 exact Ev.ff (by simp) (Ev.bind (b:=.nxt (a.length:Int)) (qh4 (eqf:=qjP) (fun x hx=>qyb (by have:=qcB (wt:=fun x:qP=>qie x) hx;simp only [qf5] at h;omega))
  (fun n=>by simp only [qgt,ql (je _),cond_false])
  (fun n j x hx=>by
   have hj:=(List.getElem?_eq_some_iff.1 hx).1
   simp only [qgt,qj hj,cond_true,qM hx,jd,wS j])) .done)
theorem qvG {a:qf} (h:qeE a≤1048576):Ev (fun n=>qjp n a a) true:=by
 unfold qjp
 simp only [qeE] at h
 exact Ev.bind (qs0 (a:=a.Ab) (by omega)) (Ev.ff rfl (Ev.bind (quD (a:=a.Ai) (by omega)) (Ev.ff rfl (Ev.bind (qwG (a:=a.Ah) (by omega)) (Ev.ff rfl (.done))))))
theorem qxP {a:qE} (h:qfA a≤1048576):Ev (fun n=>qjH n a a) true:=by
 unfold qjH
 simp only [qfA] at h
 exact Ev.bind (qfM (a:=a.Ak) (by omega)) (Ev.ff rfl (Ev.bind (qfM (a:=a.Bs) (by omega)) (Ev.ff rfl (Ev.bind (qfM (a:=a.Bo) (by omega)) (Ev.ff rfl (Ev.bind (qfM (a:=a.Bh) (by omega)) (Ev.ff rfl (.done))))))))
theorem qwI {a:(List qE)} (h:qf8 a≤1048576):Ev (fun n=>qki n a a) true:=by
 have hl:a.length≤1048576:=by simp only [qf8] at h;omega
 unfold qki
 exact Ev.ff (by simp) (Ev.bind (b:=.nxt (a.length:Int)) (qh4 (eqf:=qjH) (fun x hx=>qxP (by have:=qcB (wt:=fun x:qE=>qfA x) hx;simp only [qf8] at h;omega))
  (fun n=>by simp only [qgg,ql (je _),cond_false])
  (fun n j x hx=>by
   have hj:=(List.getElem?_eq_some_iff.1 hx).1
   simp only [qgg,qj hj,cond_true,qM hx,jd,wS j])) .done)
theorem qwK {a:qg} (h:qf7 a≤1048576):Ev (fun n=>qka n a a) true:=by
 unfold qka
 simp only [qf7] at h
 exact Ev.bind (qup (a:=a.Ar) (by omega)) (Ev.ff rfl (Ev.bind (qvG (a:=a.Aa) (by omega)) (Ev.ff rfl (Ev.bind (qwI (a:=a.Ac) (by omega)) (Ev.ff rfl (.done))))))
theorem qhw {a:(List Int)} {left:Int} (h:(rngL rngI) a) (h0:0≤left) (h1:left≤1048576):Sz (fun n=>qcf n a left) (fun r=>r=left-(qaO a:Int)) :=
 Sz.less h0 h1 (by omega) (by have:=h.1;omega) (fun _=>rfl)
theorem qwD {a:qt} {left:Int} (h:qio a) (h0:0≤left) (h1:left≤1048576):Sz (fun n=>qiY n a left) (fun r=>r=left-(qea a:Int)):=by
 unfold qiY
 obtain ⟨h_0,h_1,h_2⟩:=h
 exact Sz.step (qhw (a:=a.Bi) h_0 (by omega) (by omega)) fun r0 p0 q0=>Sz.step (qhw (a:=a.Bb) h_1 (by omega) (by omega)) fun r1 p1 q1=>Sz.step (qhw (a:=a.Ba) h_2 (by omega) (by omega)) fun r2 p2 q2=>Sz.done p2 (by simp only [qea];omega)
theorem qsf {a:(List qt)} {left:Int} (h:(rngL qio) a) (h0:0≤left) (h1:left≤1048576):Sz (fun n=>qjn n a left) (fun r=>r=left-(qc8 a:Int)) :=
 Sz.list (Lf:=qey a) (wt:=fun x:qt=>qea x) (el:=qiY) h0 h1 h.1 (fun x hx left p q=>qwD (h.2 x hx) p q)
  (fun acc n=>by simp only [qey,ql (je _),cond_false])
  (fun acc n j x hx=>by
   have hj:=(List.getElem?_eq_some_iff.1 hx).1
   have hl:=h.1
   simp only [qey,qj hj,cond_true,qM hx,jd,wS j])
  (fun _=>rfl)
theorem qyW {a:qG} {left:Int} (h:qms a) (h0:0≤left) (h1:left≤1048576):Sz (fun n=>qkX n a left) (fun r=>r=left-(qi2 a:Int)):=by
 unfold qkX
 obtain ⟨h_0,h_1,h_2,h_3,h_4,h_5⟩:=h
 exact Sz.step (qsf (a:=a.Bj) h_4 (by omega) (by omega)) fun r0 p0 q0=>Sz.step (qsf (a:=a.Aq) h_5 (by omega) (by omega)) fun r1 p1 q1=>Sz.done p1 (by simp only [qi2];omega)
theorem qx2 {a:(List qG)} {left:Int} (h:(rngL qms) a) (h0:0≤left) (h1:left≤1048576):Sz (fun n=>qna n a left) (fun r=>r=left-(qhK a:Int)) :=
 Sz.list (Lf:=qfU a) (wt:=fun x:qG=>qi2 x) (el:=qkX) h0 h1 h.1 (fun x hx left p q=>qyW (h.2 x hx) p q)
  (fun acc n=>by simp only [qfU,ql (je _),cond_false])
  (fun acc n j x hx=>by
   have hj:=(List.getElem?_eq_some_iff.1 hx).1
   have hl:=h.1
   simp only [qfU,qj hj,cond_true,qM hx,jd,wS j])
  (fun _=>rfl)
theorem qzb {a:qal} {left:Int} (h:qmg a) (h0:0≤left) (h1:left≤1048576):Sz (fun n=>qkU n a left) (fun r=>r=left-(qkE a:Int)):=by
 unfold qkU
 obtain ⟨h_0,h_1,h_2,h_3⟩:=h
 exact Sz.strStep h_0 (by omega) (by omega) fun p0 q0=>Sz.done p0 (by simp only [qkE];omega)
theorem qye {a:(List qal)} {left:Int} (h:(rngL qmg) a) (h0:0≤left) (h1:left≤1048576):Sz (fun n=>qnn n a left) (fun r=>r=left-(qhI a:Int)) :=
 Sz.list (Lf:=qfz a) (wt:=fun x:qal=>qkE x) (el:=qkU) h0 h1 h.1 (fun x hx left p q=>qzb (h.2 x hx) p q)
  (fun acc n=>by simp only [qfz,ql (je _),cond_false])
  (fun acc n j x hx=>by
   have hj:=(List.getElem?_eq_some_iff.1 hx).1
   have hl:=h.1
   simp only [qfz,qj hj,cond_true,qM hx,jd,wS j])
  (fun _=>rfl)
theorem qym {a:qw} {left:Int} (h:qkT a) (h0:0≤left) (h1:left≤1048576):Sz (fun n=>qjQ n a left) (fun r=>r=left-(qfO a:Int)):=by
 unfold qjQ
 obtain ⟨h_0,h_1,h_2,h_3,h_4,h_5,h_6⟩:=h
 exact Sz.strStep h_0 (by omega) (by omega) fun p0 q0=>Sz.step (qye (a:=a.Au) h_2 (by omega) (by omega)) fun r1 p1 q1=>Sz.step (qx2 (a:=a.As) h_3 (by omega) (by omega)) fun r2 p2 q2=>Sz.step (qhw (a:=a.Bk) h_4 (by omega) (by omega)) fun r3 p3 q3=>Sz.done p3 (by simp only [qfO];omega)
theorem qwC {a:(List qw)} {left:Int} (h:(rngL qkT) a) (h0:0≤left) (h1:left≤1048576):Sz (fun n=>qme n a left) (fun r=>r=left-(qgf a:Int)) :=
 Sz.list (Lf:=qeR a) (wt:=fun x:qw=>qfO x) (el:=qjQ) h0 h1 h.1 (fun x hx left p q=>qym (h.2 x hx) p q)
  (fun acc n=>by simp only [qeR,ql (je _),cond_false])
  (fun acc n j x hx=>by
   have hj:=(List.getElem?_eq_some_iff.1 hx).1
   have hl:=h.1
   simp only [qeR,qj hj,cond_true,qM hx,jd,wS j])
  (fun _=>rfl)
theorem quy {a:qr} {left:Int} (h:qlk a) (h0:0≤left) (h1:left≤1048576):Sz (fun n=>qiX n a left) (fun r=>r=left-(qew a:Int)):=by
 unfold qiX
 have h_0:=h
 exact Sz.step (qwC (a:=a.Ap) h_0 (by omega) (by omega)) fun r0 p0 q0=>Sz.done p0 (by simp only [qew];omega)
theorem qtE {a:qi} {left:Int} (h:qf4 a) (h0:0≤left) (h1:left≤1048576):Sz (fun n=>qgq n a left) (fun r=>r=left-(qbM a:Int)):=by
 unfold qgq
 obtain ⟨h_0,h_1,h_2⟩:=h
 exact Sz.strStep h_0 (by omega) (by omega) fun p0 q0=>Sz.step (qhw (a:=a.Ai) h_2 (by omega) (by omega)) fun r1 p1 q1=>Sz.done p1 (by simp only [qbM];omega)
theorem qsF {a:(List qi)} {left:Int} (h:(rngL qf4) a) (h0:0≤left) (h1:left≤1048576):Sz (fun n=>qi8 n a left) (fun r=>r=left-(qbS a:Int)) :=
 Sz.list (Lf:=qcO a) (wt:=fun x:qi=>qbM x) (el:=qgq) h0 h1 h.1 (fun x hx left p q=>qtE (h.2 x hx) p q)
  (fun acc n=>by simp only [qcO,ql (je _),cond_false])
  (fun acc n j x hx=>by
   have hj:=(List.getElem?_eq_some_iff.1 hx).1
   have hl:=h.1
   simp only [qcO,qj hj,cond_true,qM hx,jd,wS j])
  (fun _=>rfl)
theorem qug {a:(List ByteArray)} {left:Int} (h:(rngL rngS) a) (h0:0≤left) (h1:left≤1048576):Sz (fun n=>qkO n a left) (fun r=>r=left-(qem a:Int)) :=
 Sz.list (Lf:=qdH a) (wt:=fun x:ByteArray=>x.size) (el:=fun _ (x:ByteArray) acc=>some (W64 (acc-(x.size:Int)))) h0 h1 h.1 (fun x hx left p q=>Sz.str (h.2 x hx) p q)
  (fun acc n=>by simp only [qdH,ql (je _),cond_false])
  (fun acc n j x hx=>by
   have hj:=(List.getElem?_eq_some_iff.1 hx).1
   have hl:=h.1
   simp only [qdH,qj hj,cond_true,qM hx,jd,wS j])
  (fun _=>rfl)
theorem qxV {a:qP} {left:Int} (h:qkQ a) (h0:0≤left) (h1:left≤1048576):Sz (fun n=>qjK n a left) (fun r=>r=left-(qie a:Int)):=by
 unfold qjK
 obtain ⟨h_0,h_1,h_2⟩:=h
 exact Sz.strStep h_0 (by omega) (by omega) fun p0 q0=>Sz.done p0 (by simp only [qie];omega)
theorem qwW {a:(List qP)} {left:Int} (h:(rngL qkQ) a) (h0:0≤left) (h1:left≤1048576):Sz (fun n=>ql6 n a left) (fun r=>r=left-(qf5 a:Int)) :=
 Sz.list (Lf:=qe0 a) (wt:=fun x:qP=>qie x) (el:=qjK) h0 h1 h.1 (fun x hx left p q=>qxV (h.2 x hx) p q)
  (fun acc n=>by simp only [qe0,ql (je _),cond_false])
  (fun acc n j x hx=>by
   have hj:=(List.getElem?_eq_some_iff.1 hx).1
   have hl:=h.1
   simp only [qe0,qj hj,cond_true,qM hx,jd,wS j])
  (fun _=>rfl)
theorem qvF {a:qf} {left:Int} (h:qmd a) (h0:0≤left) (h1:left≤1048576):Sz (fun n=>qjv n a left) (fun r=>r=left-(qeE a:Int)):=by
 unfold qjv
 obtain ⟨h_0,h_1,h_2⟩:=h
 exact Sz.step (qsF (a:=a.Ab) h_0 (by omega) (by omega)) fun r0 p0 q0=>Sz.step (qug (a:=a.Ai) h_1 (by omega) (by omega)) fun r1 p1 q1=>Sz.step (qwW (a:=a.Ah) h_2 (by omega) (by omega)) fun r2 p2 q2=>Sz.done p2 (by simp only [qeE];omega)
theorem qxI {a:qE} {left:Int} (h:qkw a) (h0:0≤left) (h1:left≤1048576):Sz (fun n=>qjM n a left) (fun r=>r=left-(qfA a:Int)):=by
 unfold qjM
 obtain ⟨h_0,h_1,h_2,h_3⟩:=h
 exact Sz.step (qhw (a:=a.Ak) h_0 (by omega) (by omega)) fun r0 p0 q0=>Sz.step (qhw (a:=a.Bs) h_1 (by omega) (by omega)) fun r1 p1 q1=>Sz.step (qhw (a:=a.Bo) h_2 (by omega) (by omega)) fun r2 p2 q2=>Sz.step (qhw (a:=a.Bh) h_3 (by omega) (by omega)) fun r3 p3 q3=>Sz.done p3 (by simp only [qfA];omega)
theorem qxj {a:(List qE)} {left:Int} (h:(rngL qkw) a) (h0:0≤left) (h1:left≤1048576):Sz (fun n=>ql5 n a left) (fun r=>r=left-(qf8 a:Int)) :=
 Sz.list (Lf:=qeU a) (wt:=fun x:qE=>qfA x) (el:=qjM) h0 h1 h.1 (fun x hx left p q=>qxI (h.2 x hx) p q)
  (fun acc n=>by simp only [qeU,ql (je _),cond_false])
  (fun acc n j x hx=>by
   have hj:=(List.getElem?_eq_some_iff.1 hx).1
   have hl:=h.1
   simp only [qeU,qj hj,cond_true,qM hx,jd,wS j])
  (fun _=>rfl)
theorem qwl {a:qg} {left:Int} (h:qnt a) (h0:0≤left) (h1:left≤1048576):Sz (fun n=>qkl n a left) (fun r=>r=left-(qf7 a:Int)):=by
 unfold qkl
 obtain ⟨h_0,h_1,h_2⟩:=h
 exact Sz.step (quy (a:=a.Ar) h_0 (by omega) (by omega)) fun r0 p0 q0=>Sz.step (qvF (a:=a.Aa) h_1 (by omega) (by omega)) fun r1 p1 q1=>Sz.step (qxj (a:=a.Ac) h_2 (by omega) (by omega)) fun r2 p2 q2=>Sz.done p2 (by simp only [qf7];omega)
theorem qcy {a:(List Int)} (h:qaO a≤1048576):Ev (fun n=>qaz n a) a:=by
 have hl:a.length≤1048576:=by simp only [qaO] at h;omega
 unfold qaz
 exact Ev.bindN (qiq (by omega)) (Ev.bind (b:=(a,(a.length:Int))) (qjm (cp:=fun _ x=>some x) (fun _ _=>.done)
  (fun acc n=>by simp only [qfN,ql (je _),cond_false])
  (fun acc n j x y hx hy=>by
   have hj:=(List.getElem?_eq_some_iff.1 hx).1
   simp only [qfN,qj hj,cond_true,qM hx,qM hy,jd,wS j])) .done)
theorem qxn {a:qt} (h:qea a≤1048576):Ev (fun n=>qiy n a) a:=by
 unfold qiy
 simp only [qea] at h
 exact Ev.bind (qcy (a:=a.Bi) (by omega)) (Ev.bind (qcy (a:=a.Bb) (by omega)) (Ev.bind (qcy (a:=a.Ba) (by omega)) (.done)))
theorem qr5 {a:(List qt)} (h:qc8 a≤1048576):Ev (fun n=>qhQ n a) a:=by
 have hl:a.length≤1048576:=by simp only [qc8] at h;omega
 unfold qhQ
 exact Ev.bindN (qiq (by omega)) (Ev.bind (b:=(a,(a.length:Int))) (qjm (cp:=qiy) (fun x hx=>qxn (by have:=qcB (wt:=fun x:qt=>qea x) hx;simp only [qc8] at h;omega))
  (fun acc n=>by simp only [qfT,ql (je _),cond_false])
  (fun acc n j x y hx hy=>by
   have hj:=(List.getElem?_eq_some_iff.1 hx).1
   simp only [qfT,qj hj,cond_true,qM hx,qM hy,jd,wS j])) .done)
theorem qyL {a:qG} (h:qi2 a≤1048576):Ev (fun n=>qkY n a) a:=by
 unfold qkY
 simp only [qi2] at h
 exact Ev.bind (qr5 (a:=a.Bj) (by omega)) (Ev.bind (qr5 (a:=a.Aq) (by omega)) (.done))
theorem qxG {a:(List qG)} (h:qhK a≤1048576):Ev (fun n=>qld n a) a:=by
 have hl:a.length≤1048576:=by simp only [qhK] at h;omega
 unfold qld
 exact Ev.bindN (qiq (by omega)) (Ev.bind (b:=(a,(a.length:Int))) (qjm (cp:=qkY) (fun x hx=>qyL (by have:=qcB (wt:=fun x:qG=>qi2 x) hx;simp only [qhK] at h;omega))
  (fun acc n=>by simp only [qhc,ql (je _),cond_false])
  (fun acc n j x y hx hy=>by
   have hj:=(List.getElem?_eq_some_iff.1 hx).1
   simp only [qhc,qj hj,cond_true,qM hx,qM hy,jd,wS j])) .done)
theorem qy7 {a:qal} (_:qkE a≤1048576):Ev (fun n=>qkJ n a) a:=by
 unfold qkJ
 exact .done
theorem qx8 {a:(List qal)} (h:qhI a≤1048576):Ev (fun n=>qla n a) a:=by
 have hl:a.length≤1048576:=by simp only [qhI] at h;omega
 unfold qla
 exact Ev.bindN (qiq (by omega)) (Ev.bind (b:=(a,(a.length:Int))) (qjm (cp:=qkJ) (fun x hx=>qy7 (by have:=qcB (wt:=fun x:qal=>qkE x) hx;simp only [qhI] at h;omega))
  (fun acc n=>by simp only [qha,ql (je _),cond_false])
  (fun acc n j x y hx hy=>by
   have hj:=(List.getElem?_eq_some_iff.1 hx).1
   simp only [qha,qj hj,cond_true,qM hx,qM hy,jd,wS j])) .done)
theorem qxC {a:qw} (h:qfO a≤1048576):Ev (fun n=>qjN n a) a:=by
 unfold qjN
 simp only [qfO] at h
 exact Ev.bind (qx8 (a:=a.Au) (by omega)) (Ev.bind (qxG (a:=a.As) (by omega)) (Ev.bind (qcy (a:=a.Bk) (by omega)) (.done)))
theorem qxd {a:(List qw)} (h:qgf a≤1048576):Ev (fun n=>qkf n a) a:=by
 have hl:a.length≤1048576:=by simp only [qgf] at h;omega
 unfold qkf
 exact Ev.bindN (qiq (by omega)) (Ev.bind (b:=(a,(a.length:Int))) (qjm (cp:=qjN) (fun x hx=>qxC (by have:=qcB (wt:=fun x:qw=>qfO x) hx;simp only [qgf] at h;omega))
  (fun acc n=>by simp only [qgv,ql (je _),cond_false])
  (fun acc n j x y hx hy=>by
   have hj:=(List.getElem?_eq_some_iff.1 hx).1
   simp only [qgv,qj hj,cond_true,qM hx,qM hy,jd,wS j])) .done)
theorem qum {a:qr} (h:qew a≤1048576):Ev (fun n=>qiB n a) a:=by
 unfold qiB
 simp only [qew] at h
 exact Ev.bind (qxd (a:=a.Ap) (by omega)) (.done)
theorem qtm {a:qi} (h:qbM a≤1048576):Ev (fun n=>qgr n a) a:=by
 unfold qgr
 simp only [qbM] at h
 exact Ev.bind (qcy (a:=a.Ai) (by omega)) (.done)
theorem qsz {a:(List qi)} (h:qbS a≤1048576):Ev (fun n=>qhz n a) a:=by
 have hl:a.length≤1048576:=by simp only [qbS] at h;omega
 unfold qhz
 exact Ev.bindN (qiq (by omega)) (Ev.bind (b:=(a,(a.length:Int))) (qjm (cp:=qgr) (fun x hx=>qtm (by have:=qcB (wt:=fun x:qi=>qbM x) hx;simp only [qbS] at h;omega))
  (fun acc n=>by simp only [qd1,ql (je _),cond_false])
  (fun acc n j x y hx hy=>by
   have hj:=(List.getElem?_eq_some_iff.1 hx).1
   simp only [qd1,qj hj,cond_true,qM hx,qM hy,jd,wS j])) .done)
theorem quv {a:(List ByteArray)} (h:qem a≤1048576):Ev (fun n=>qiI n a) a:=by
 have hl:a.length≤1048576:=by simp only [qem] at h;omega
 unfold qiI
 exact Ev.bindN (qiq (by omega)) (Ev.bind (b:=(a,(a.length:Int))) (qjm (cp:=fun _ x=>some x) (fun _ _=>.done)
  (fun acc n=>by simp only [qe3,ql (je _),cond_false])
  (fun acc n j x y hx hy=>by
   have hj:=(List.getElem?_eq_some_iff.1 hx).1
   simp only [qe3,qj hj,cond_true,qM hx,qM hy,jd,wS j])) .done)
theorem qx7 {a:qP} (_:qie a≤1048576):Ev (fun n=>qjJ n a) a:=by
 unfold qjJ
 exact .done
theorem qwF {a:(List qP)} (h:qf5 a≤1048576):Ev (fun n=>qkg n a) a:=by
 have hl:a.length≤1048576:=by simp only [qf5] at h;omega
 unfold qkg
 exact Ev.bindN (qiq (by omega)) (Ev.bind (b:=(a,(a.length:Int))) (qjm (cp:=qjJ) (fun x hx=>qx7 (by have:=qcB (wt:=fun x:qP=>qie x) hx;simp only [qf5] at h;omega))
  (fun acc n=>by simp only [qgh,ql (je _),cond_false])
  (fun acc n j x y hx hy=>by
   have hj:=(List.getElem?_eq_some_iff.1 hx).1
   simp only [qgh,qj hj,cond_true,qM hx,qM hy,jd,wS j])) .done)
theorem qvT {a:qf} (h:qeE a≤1048576):Ev (fun n=>qjq n a) a:=by
 unfold qjq
 simp only [qeE] at h
 exact Ev.bind (qsz (a:=a.Ab) (by omega)) (Ev.bind (quv (a:=a.Ai) (by omega)) (Ev.bind (qwF (a:=a.Ah) (by omega)) (.done)))
theorem qxH {a:qE} (h:qfA a≤1048576):Ev (fun n=>qjR n a) a:=by
 unfold qjR
 simp only [qfA] at h
 exact Ev.bind (qcy (a:=a.Ak) (by omega)) (Ev.bind (qcy (a:=a.Bs) (by omega)) (Ev.bind (qcy (a:=a.Bo) (by omega)) (Ev.bind (qcy (a:=a.Bh) (by omega)) (.done))))
theorem qw7 {a:(List qE)} (h:qf8 a≤1048576):Ev (fun n=>qj8 n a) a:=by
 have hl:a.length≤1048576:=by simp only [qf8] at h;omega
 unfold qj8
 exact Ev.bindN (qiq (by omega)) (Ev.bind (b:=(a,(a.length:Int))) (qjm (cp:=qjR) (fun x hx=>qxH (by have:=qcB (wt:=fun x:qE=>qfA x) hx;simp only [qf8] at h;omega))
  (fun acc n=>by simp only [qgw,ql (je _),cond_false])
  (fun acc n j x y hx hy=>by
   have hj:=(List.getElem?_eq_some_iff.1 hx).1
   simp only [qgw,qj hj,cond_true,qM hx,qM hy,jd,wS j])) .done)
theorem qoA {a:qg} (h:qf7 a≤1048576):Ev (fun n=>qfY n a) a:=by
 unfold qfY
 simp only [qf7] at h
 exact Ev.bind (qum (a:=a.Ar) (by omega)) (Ev.bind (qvT (a:=a.Aa) (by omega)) (Ev.bind (qw7 (a:=a.Ac) (by omega)) (.done)))
end Go.Fw


namespace Go.Fw
open Go
set_option maxRecDepth 100000
theorem qcK {n:Nat} {x lo hi:Int}:qay n x lo hi=some (inI x lo hi):=by
 simp only [qay,qno,qoZ];rfl
theorem qdE {n:Nat} {x lo hi:Int}:qaU n x lo hi=some (inI x lo hi):=by
 simp only [qaU,qno,qoZ];rfl
def bt (s:ByteArray) (j:Nat):Nat:=(s.data.toList.getD j 0).toNat
theorem qxg {s:ByteArray} {j:Nat} (h:j<s.size):atS s (j:Int)=some (bt s j:Int):=by
 have h':j<s.data.size:=h
 have hl:j<s.data.toList.length:=by simpa using h'
 unfold atS
 rw [if_pos (by omega),jo]
 have:s[j]?=some (s.data.toList.getD j 0):=by
  rw [getElem?_pos s j h,jC,ji hl]
  rfl
 rw [this]
 rfl
def letB (b:Nat):Bool:=decide (97≤b)&&decide (b≤122)
def digB (b:Nat):Bool:=decide (48≤b)&&decide (b≤57)
def chB (s:ByteArray) (j:Nat):Bool:=letB (bt s j) || digB (bt s j)&&decide (0<j)
def nameB (s:ByteArray):Bool:=(decide (1≤s.size)&&decide (s.size≤8))&&allN (chB s) s.size
theorem qmc {s:ByteArray} (h:okS s):Ev (fun n=>qgc n s) (nameB s):=by
 unfold okS at h
 have hL:Ev (fun n=>qdO s n 0) (bif allN (chB s) s.size then .nxt (s.size:Int) else .ret false):=by
  refine qd8 ?_ (fun j hj X hX=>?_)
  ·exact Ev.succ (by simp only [qdO,ql (je _),cond_false];exact .done)
  ·refine Ev.succ ?_
   simp only [qdO,qj hj,cond_true,qxg hj,jd,qno,qoZ,wS j]
   have e1:(decide ((bt s j:Int) ≥ 97)&&decide ((bt s j:Int)≤122))=letB (bt s j):=by unfold letB;rw [jk];simp;omega
   have e2:(decide ((bt s j:Int) ≥ 48)&&decide ((bt s j:Int)≤57))=digB (bt s j):=by unfold digB;rw [jk];simp;omega
   have e3:decide ((j:Int) > 0)=decide (0<j):=by rw [jk];simp
   rw [e1,e2,e3]
   unfold chB
   cases letB (bt s j)<;>cases digB (bt s j)<;>cases decide (0<j)<;>first|exact hX|exact .done
 unfold qgc
 refine Ev.cast (r:=bif allN (chB s) s.size then (decide (1≤s.size)&&decide (s.size≤8)) else false) (Ev.bindB hL (fun _=>?_) (fun _=>.done)) ?_
 ·simp only [qno,qoZ]
  exact Ev.now (by congr 1;rw [jk];simp;omega)
 ·unfold nameB
  cases allN (chB s) s.size<;>simp
def cutset:List UInt8:=[97,98,99,100,101,102,103,104,105,106,107,108,109,110,111,112,113,114,115,116,117,118,119,120,121,122,48,49,50,51,52,53,54,55,56,57]
theorem qrc (b:UInt8):cutset.contains b=(letB b.toNat || digB b.toNat):=by
 have h0:(List.range 256).all (fun m=>cutset.contains (UInt8.ofNat m)==(letB (UInt8.ofNat m).toNat || digB (UInt8.ofNat m).toNat))=true:=by kernel_rfl
 have h:=List.all_eq_true.1 h0 b.toNat (List.mem_range.2 b.toNat_lt)
 rw [beq_iff_eq] at h
 simpa using h
def letters:List UInt8:=[97,98,99,100,101,102,103,104,105,106,107,108,109,110,111,112,113,114,115,116,117,118,119,120,121,122]
theorem quF (m:Nat) (hm:m<256):decide ((Lib.indexByte letters m.toUInt8) ≥ 0)=letB m:=by
 have h0:(List.range 256).all (fun m=>decide ((Lib.indexByte letters m.toUInt8) ≥ 0)==letB m)=true:=by kernel_rfl
 have h:=List.all_eq_true.1 h0 m (List.mem_range.2 hm)
 rwa [beq_iff_eq] at h
theorem qrJ {α:Type} {p:α→Bool} {l:List α}:l.dropWhile p=[]↔∀ x,x ∈ l→p x=true:=by
 induction l with
 | nil=>simp
 | cons y l ih =>
  rw [List.dropWhile_cons]
  by_cases h:p y=true
  ·rw [if_pos h,ih];simp [h]
  ·rw [if_neg h];simp [h]
theorem qrC {α:Type} {p:α→Bool} {l:List α} (h:∀ x,x ∈ l.dropWhile p→p x=true):∀ x,x ∈ l→p x=true:=by
 induction l with
 | nil=>simp
 | cons y l ih =>
  rw [List.dropWhile_cons] at h
  by_cases hy:p y=true
  ·rw [if_pos hy] at h
   intro x hx
   rcases List.mem_cons.1 hx with rfl|hx
   ·exact hy
   ·exact ih h x hx
  ·rw [if_neg hy] at h
   exact h
theorem qwh {l cs:List UInt8}:Lib.trimS l cs=[]↔∀ x,x ∈ l→cs.contains x=true:=by
 unfold Lib.trimS Lib.trimRightS Lib.trimLeftS
 rw [qrJ]
 constructor
 ·intro h x hx
  exact qrC (p:=(cs.contains ·)) (l:=l.reverse) (fun y hy=>h y (List.mem_reverse.2 hy)) x (List.mem_reverse.2 hx)
 ·intro h x hx
  exact h x (List.mem_reverse.1 ((List.dropWhile_suffix _).subset (List.mem_reverse.1 hx)))
theorem qhS {a b:ByteArray}:(a.toList==b.toList)=decide (a=b):=by
 rw [jk,beq_iff_eq,decide_eq_true_iff]
 constructor
 ·intro h
  exact ByteArray.ext (by have:=congrArg List.toArray h;simpa [ByteArray.toList_eq] using this)
 ·rintro rfl;rfl
end Go.Fw


namespace Go.Fw
open Go
set_option maxRecDepth 100000
theorem qyz {s:ByteArray} {j:Nat} (h:j<s.data.toList.length):bt s j=(s.data.toList[j]).toNat:=by
 unfold bt;rw [jC,ji h];rfl
theorem qzj {s:ByteArray} {j:Nat}:bt s j<256:=UInt8.toNat_lt _
theorem qpt {n:Nat} {s:ByteArray} (h:okS s):qij n s=some (nameB s):=by
 unfold okS at h
 have hl:s.data.toList.length=s.size:=by simp
 simp only [qij,qdE,jd]
 cases hI:inI (s.size:Int) 1 8 with
 | false =>
  have hs:(decide (1≤s.size)&&decide (s.size≤8))=false:=by rw [qvv] at hI;rw [Bool.and_eq_false_iff,decide_eq_false_iff_not,decide_eq_false_iff_not];omega
  simp [nameB,hs]
 | true =>
  have hs:1≤s.size∧s.size≤8:=by rw [qbt] at hI;omega
  have hT:qiR n s (⟨#[97,98,99,100,101,102,103,104,105,106,107,108,109,110,111,112,113,114,115,116,117,118,119,120,121,122,48,49,50,51,52,53,54,55,56,57]⟩:ByteArray)=some ⟨(Lib.trimS s.data.toList cutset).toArray⟩:=by
   unfold qiR
   rw [if_pos ⟨by omega,by decide,by decide⟩]
   rfl
  rw [hT]
  simp only [cond_true,jd]
  have hE:(((⟨(Lib.trimS s.data.toList cutset).toArray⟩:ByteArray).toList==(⟨#[]⟩:ByteArray).toList))=allN (fun j=>letB (bt s j) || digB (bt s j)) s.size:=by
   rw [qhS,jk,decide_eq_true_iff,qav]
   have:((⟨(Lib.trimS s.data.toList cutset).toArray⟩:ByteArray)=⟨#[]⟩)↔Lib.trimS s.data.toList cutset=[]:=by
    constructor
    ·intro he
     have:=congrArg (fun x:ByteArray=>x.data.toList) he
     simpa using this
    ·intro he;rw [he]
   rw [this,qwh]
   constructor
   ·intro hx j hj
    have hj':j<s.data.toList.length:=by omega
    have:=hx _ (jp hj')
    rw [qrc,←qyz hj'] at this
    exact this
   ·intro hx x hm
    obtain ⟨j,hj,rfl⟩:=jO hm
    have:=hx j (by omega)
    rw [qrc,←qyz hj]
    exact this
  rw [hE]
  have h0:atS s 0=some (bt s 0:Int):=qxg (j:=0) (by omega)
  have hI2:decide (Lib.indexByte letters (bt s 0:Int).toNat.toUInt8 ≥ 0)=letB (bt s 0):=by
   rw [jo];exact quF _ qzj
  have hF:∀ b:Bool,(bif b then (atS s 0).bind fun y1=>(qgS n (⟨#[97,98,99,100,101,102,103,104,105,106,107,108,109,110,111,112,113,114,115,116,117,118,119,120,121,122]⟩:ByteArray) (⟨y1⟩:IntK .u8)).bind fun r3=>some (decide (r3 ≥ 0)) else some false)=some (b&&letB (bt s 0)):=by
   intro b
   cases b with
   | false=>rfl
   | true =>
    rw [h0]
    simp only [cond_true,jd,qgS,jz]
    exact congrArg some hI2
  rw [hF]
  congr 1
  have hs':(decide (1≤s.size)&&decide (s.size≤8))=true:=by simp [hs]
  unfold nameB
  rw [hs',jz,jk,jf,qav,qav]
  simp only [chB,Bool.or_eq_true,jf,decide_eq_true_eq]
  constructor
  ·rintro ⟨h1,h2⟩ j hj
   rcases Nat.eq_zero_or_pos j with rfl|hp
   ·exact .inl h2
   ·exact (h1 j hj).imp id (fun h=>⟨h,hp⟩)
  ·intro h1
   refine ⟨fun j hj=>(h1 j hj).imp id (fun h=>h.1),?_⟩
   rcases h1 0 (by omega) with h2|h2
   ·exact h2
   ·omega
def strAt (xs:List ByteArray) (j:Nat):ByteArray:=xs.getD j ByteArray.empty
theorem qoS {xs:List ByteArray} {j:Nat} (h:j<xs.length):strAt xs j=xs[j]:=by simp [strAt,h]
theorem qqw {xs:List ByteArray} {j:Nat} (h:j<xs.length):idx xs (j:Int)=some (strAt xs j):=by rw [qge h,qoS h]
def neB (xs:List ByteArray) (j i:Nat):Bool:=!decide (strAt xs i=strAt xs j)
def namesB (xs:List ByteArray):Bool:=allN (fun j=>nameB (strAt xs j)&&allN (neB xs j) j) xs.length
theorem qm1 {xs:List ByteArray} (h:okL okS xs):Ev (fun n=>qgA n xs) (namesB xs):=by
 have hl:=h.len
 have hL2:∀ j,j<xs.length→Ev (fun n=>qeA xs (j:Int) n 0) (bif allN (neB xs j) j then .nxt (j:Int) else .ret false):=by
  intro j hj
  refine qd8 ?_ (fun i hi X hX=>Ev.succ ?_)
  ·exact Ev.succ (by simp only [qeA,ql (je _),cond_false];exact .done)
  ·simp only [qeA,qj hi,cond_true,qqw (show i<xs.length by omega),qqw hj,jd,qhS,wS i]
   unfold neB
   cases decide (strAt xs i=strAt xs j)
   ·exact hX
   ·exact .done
 have hL1:Ev (fun n=>qeo xs n 0) (bif namesB xs then .nxt (xs.length:Int) else .ret false):=by
  refine qd8 ?_ (fun j hj X hX=>Ev.succ ?_)
  ·exact Ev.succ (by simp only [qeo,ql (je _),cond_false];exact .done)
  ·simp only [qeo,qj hj,cond_true,qqw hj,jd,wS j]
   refine Ev.bind (qmc (by rw [qoS hj];exact h.at hj)) ?_
   cases nameB (strAt xs j)
   ·exact .done
   ·refine Ev.ff rfl (Ev.bind (hL2 j hj) ?_)
    cases allN (neB xs j) j
    ·exact .done
    ·exact hX
 unfold qgA
 refine Ev.bind hL1 ?_
 cases namesB xs<;>exact .done
theorem qtx {xs:List ByteArray} {v:ByteArray} (hl:xs.length≤1048576):Ev (fun n=>qfx n xs v) (ixL (fun x=>decide (v=x)) xs) :=
 qgx (fin:=(xs.length:Int)) (Lf:=qbZ xs v) (pf:=fun _ x=>some (decide (v=x))) (fun _ _=>.done)
  (fun n=>by simp only [qbZ,ql (je _),cond_false])
  (fun n j x hx=>by
   have hj:=(List.getElem?_eq_some_iff.1 hx).1
   simp only [qbZ,qj hj,cond_true,qM hx,jd,qhS,wS j])
  (fun n=>by unfold qfx;congr 1;funext o;cases o<;>rfl)
theorem qro {xs:List ByteArray} {v:ByteArray} (hl:xs.length≤1048576):Ev (fun n=>qd6 n xs v) (xs.any fun x=>decide (v=x)):=by
 unfold qd6
 exact Ev.bind (qtx hl) (Ev.now (by rw [qn1]))
theorem qjS {xs:List ByteArray} (h:okL okS xs):Ev (fun n=>qeh n xs) (namesB xs):=by
 have hl:=h.len
 have hL1:Ev (fun n=>qer xs n 0) (bif namesB xs then .nxt (xs.length:Int) else .ret false):=by
  refine qd8 ?_ (fun j hj X hX=>Ev.succ ?_)
  ·exact Ev.succ (by simp only [qer,ql (je _),cond_false];exact .done)
  ·have hs:subS xs 0 (j:Int)=some (xs.take j):=by
    unfold subS
    rw [if_pos ⟨by omega,by omega,by omega⟩]
    simp
   simp only [qer,qj hj,cond_true,qqw hj,jd,hs,qpt (show okS (strAt xs j) by rw [qoS hj];exact h.at hj),wS j]
   cases nameB (strAt xs j)
   ·exact .done
   ·refine Ev.ff rfl (Ev.bind (qro (by simp;omega)) ?_)
    have:((xs.take j).any fun x=>decide (strAt xs j=x)) = !allN (neB xs j) j:=by
     rw [qt1 (d:=ByteArray.empty)]
     congr 1
     rw [Jb,Nat.min_eq_left (by omega)]
     refine qh8 (fun i hi=>?_)
     unfold neB strAt
     congr 1
     have:(xs.take j).getD i ByteArray.empty=xs.getD i ByteArray.empty:=by simp [jC,hi]
     rw [this]
     exact decide_eq_decide.2 eq_comm
    rw [this]
    cases allN (neB xs j) j
    ·exact .done
    ·exact hX
 unfold qeh
 refine Ev.bind hL1 ?_
 cases namesB xs<;>exact .done
end Go.Fw


namespace Go.Fw
open Go
set_option maxRecDepth 100000
theorem qrL {n:Nat} {x lo hi:Int}:qhC n x lo hi=some (!inI x lo hi):=by simp only [qhC,qdE,jd]
theorem qfc {xs:List Int} {lo hi:Int} (hl:xs.length≤1048576):Ev (fun n=>qbD n xs lo hi) (xs.all fun x=>inI x lo hi):=by
 have h1:Ev (fun n=>qaZ n xs lo hi) (ixL (fun x=>!inI x lo hi) xs) :=
  qgx (fin:=(xs.length:Int)) (Lf:=qag xs lo hi) (pf:=fun _ x=>some (!inI x lo hi)) (fun _ _=>.done)
   (fun n=>by simp only [qag,ql (je _),cond_false])
   (fun n j x hx=>by
    have hj:=(List.getElem?_eq_some_iff.1 hx).1
    simp only [qag,qj hj,cond_true,qM hx,jd,qrL,wS j])
   (fun n=>by unfold qaZ;congr 1;funext o;cases o<;>rfl)
 unfold qbD qbC
 refine Ev.bind (Ev.bind h1 (Ev.now rfl)) (Ev.now ?_)
 rw [qn1,qqt]
def stepB (xs:List Int) (j:Nat):Bool:=decide (j=0) || decide (at0 xs (j-1)<at0 xs j)
def incB (xs:List Int):Bool:=allN (stepB xs) xs.length
theorem qmy {xs:List Int} (hl:xs.length≤1048576):Ev (fun n=>qe2 n xs) (incB xs):=by
 have hL:Ev (fun n=>qbz xs n 1) (bif incB xs then .nxt (max 1 xs.length:Int) else .ret false):=by
  by_cases h0:xs.length=0
  ·have hb:incB xs=true:=by unfold incB;rw [h0];rfl
   rw [hb]
   refine Ev.succ ?_
   have:decide ((1:Int)<(xs.length:Int))=false:=by rw [h0];decide
   simp only [qbz,this,cond_false]
   exact Ev.now (by rw [h0];rfl)
  ·have:=qu6 (Lf:=qbz xs) (len:=xs.length) (i0:=1) (f:=stepB xs) (bad:=false) (fin:=.nxt (max 1 xs.length:Int)) (by omega)
    (Ev.succ (by
     simp only [qbz,ql (je _),cond_false]
     exact Ev.now (by congr 2;omega)))
    (fun j h1 hj X hX=>Ev.succ (by
     simp only [qbz,qj hj,cond_true,wS j,show (j:Int)-1=((j-1:Nat):Int) by omega,qJ (show -9223372036854775808≤((j-1:Nat):Int) by omega) (by omega),qar (show j-1<xs.length by omega),qar hj,jd]
     unfold stepB
     by_cases hc:at0 xs (j-1)<at0 xs j
     ·have e1:decide (at0 xs (j-1) ≥ at0 xs j)=false:=by simp;omega
      rw [e1];simp only [hc,decide_true,Bool.or_true,cond_true,cond_false];exact hX
     ·have e1:decide (at0 xs (j-1) ≥ at0 xs j)=true:=by simp;omega
      have e2:decide (j=0)=false:=by simp;omega
      rw [e1,e2];simp only [hc,decide_false,Bool.or_self,cond_true,cond_false];exact .done))
   have e:allN (fun j=>stepB xs (1+j)) (xs.length-1)=incB xs:=by
    unfold incB
    rw [jk,qav,qav]
    constructor
    ·intro h j hj
     cases j with
     | zero=>rfl
     | succ j=>have:=h j (by omega);rwa [Nat.add_comm] at this
    ·intro h j hj
     exact h (1+j) (by omega)
   rw [e] at this
   exact this
 unfold qe2
 refine Ev.bind hL ?_
 cases incB xs<;>exact .done
def lenB {α:Type} (xs:List α) (lo hi:Nat):Bool:=decide (lo≤xs.length)&&decide (xs.length≤hi)
theorem qs9 {α:Type} {xs:List α} {lo hi:Nat}:inI (xs.length:Int) (lo:Int) (hi:Int)=lenB xs lo hi:=by
 unfold inI lenB;rw [jk];simp
def axisB (xs:List Int):Bool:=lenB xs 1 4&&((xs.all fun x=>inI x 0 100000)&&incB xs)
theorem qrX {xs:List Int} (hl:xs.length≤1048576):Ev (fun n=>qjL n xs) (axisB xs):=by
 simp only [qjL,qbv,jd,qdE,show inI (xs.length:Int) 1 4=lenB xs 1 4 from qs9 (lo:=1) (hi:=4)]
 unfold axisB
 cases lenB xs 1 4
 ·exact .done
 ·refine Ev.tt rfl (Ev.bind (qfc hl) ?_)
  cases (xs.all fun x=>inI x 0 100000)
  ·exact .done
  ·exact Ev.tt rfl (Ev.bind (qmy hl) .done)
theorem qqG {xs:List Int} (hl:xs.length≤1048576):Ev (fun n=>qiN n xs) (axisB xs):=by
 have hL:Ev (fun n=>qdU xs n 0) (bif allN (fun j=>inI (at0 xs j) 0 100000&&stepB xs j) xs.length then .nxt (xs.length:Int) else .ret false):=by
  refine qd8 ?_ (fun j hj X hX=>Ev.succ ?_)
  ·exact Ev.succ (by simp only [qdU,ql (je _),cond_false];exact .done)
  ·simp only [qdU,qj hj,cond_true,qar hj,jd,qcK,wS j]
   cases inI (at0 xs j) 0 100000
   ·exact .done
   ·simp only [jX,cond_false,jz]
    unfold stepB
    by_cases h0:j=0
    ·subst h0
     exact Ev.ff (by decide) hX
    ·simp only [show (j:Int)-1=((j-1:Nat):Int) by omega,qJ (show -9223372036854775808≤((j-1:Nat):Int) by omega) (by omega),qar (show j-1<xs.length by omega),jd]
     have e2:decide (j=0)=false:=by simp;omega
     have e3:decide ((j:Int) > 0)=true:=by simp;omega
     rw [e2,e3]
     simp only [cond_true,Bool.false_or]
     by_cases hc:at0 xs (j-1)<at0 xs j
     ·have e1:decide (at0 xs (j-1) ≥ at0 xs j)=false:=by simp;omega
      rw [e1];simp only [hc,decide_true,cond_true,cond_false];exact hX
     ·have e1:decide (at0 xs (j-1) ≥ at0 xs j)=true:=by simp;omega
      rw [e1];simp only [hc,decide_false,cond_true,cond_false];exact .done
 have e:axisB xs=(allN (fun j=>inI (at0 xs j) 0 100000&&stepB xs j) xs.length&&lenB xs 1 4):=by
  unfold axisB incB
  rw [qlI,qg4 (d:=0),Bool.and_comm]
  rfl
 rw [e]
 unfold qiN
 refine Ev.bind hL ?_
 cases allN (fun j=>inI (at0 xs j) 0 100000&&stepB xs j) xs.length
 ·exact .done
 ·simp only [cond_true,qno,qoZ,jz]
  exact Ev.now (by congr 1;unfold lenB;rw [jk];simp;omega)
def tableB (t:qt):Bool:=axisB t.Bi&&(axisB t.Bb&&(decide (t.Ba.length=t.Bi.length*t.Bb.length)&&(t.Ba.all fun x=>inI x (-1000000) 1000000)))
theorem qvf {a b:Nat} (ha:a≤1048576) (hb:b≤1048576):W64 ((a:Int)*(b:Int))=((a*b:Nat):Int):=by
 have h:a*b≤1048576*1048576:=Nat.mul_le_mul ha hb
 have e:(a:Int)*(b:Int)=((a*b:Nat):Int):=by simp
 rw [e]
 exact qJ (by omega) (by omega)
theorem quH {t:qt} (h:qiz t):Ev (fun n=>qkm n t) (tableB t):=by
 unfold qkm tableB
 refine Ev.bind (qrX h.Bi.len) ?_
 cases axisB t.Bi
 ·exact .done
 ·refine Ev.tt rfl (Ev.bind (qrX h.Bb.len) ?_)
  cases axisB t.Bb
  ·exact .done
  ·rw [qvf h.Bi.len h.Bb.len]
   have e:(((t.Ba.length:Nat):Int)==((t.Bi.length*t.Bb.length:Nat):Int))=decide (t.Ba.length=t.Bi.length*t.Bb.length):=by rw [jk];simp;omega
   rw [e]
   cases decide (t.Ba.length=t.Bi.length*t.Bb.length)
   ·exact .done
   ·exact Ev.tt rfl (Ev.tt rfl (Ev.bind (qfc h.Ba.len) .done))
theorem qtO {t:qt} (h:qiz t):Ev (fun n=>qkc n t) (tableB t):=by
 have hl:=h.Ba.len
 have hL:Ev (fun n=>qeS t n 0) (bif (t.Ba.all fun x=>inI x (-1000000) 1000000) then .nxt (t.Ba.length:Int) else .ret false) :=
  qoL (fun n=>by simp only [qeS,ql (je _),cond_false]) (fun j hj X hX=>by
   simp only [qeS,qj hj,cond_true,qge hj,jd,qcK,wS j]
   cases inI t.Ba[j] (-1000000) 1000000
   ·exact .done
   ·exact hX)
 unfold qkc tableB
 refine Ev.bind (b:=!(axisB t.Bi&&(axisB t.Bb&&decide (t.Ba.length=t.Bi.length*t.Bb.length)))) ?_ ?_
 ·refine Ev.bind (qqG h.Bi.len) ?_
  cases axisB t.Bi
  ·exact .done
  ·refine Ev.ff rfl (Ev.bind (qqG h.Bb.len) ?_)
   cases axisB t.Bb
   ·exact .done
   ·refine Ev.ff rfl (Ev.now ?_)
    rw [qvf h.Bi.len h.Bb.len]
    congr 1
    rw [jk];simp;omega
 ·cases axisB t.Bi
  ·exact .done
  ·cases axisB t.Bb
   ·exact .done
   ·cases decide (t.Ba.length=t.Bi.length*t.Bb.length)
    ·exact .done
    ·refine Ev.ff rfl (Ev.bind hL ?_)
     cases (t.Ba.all fun x=>inI x (-1000000) 1000000)<;>exact .done
end Go.Fw


namespace Go.Fw
open Go
set_option maxRecDepth 100000
instance:Inhabited qal:=⟨⟨ByteArray.empty,0,0,false⟩⟩
instance:Inhabited qt:=⟨⟨[],[],[]⟩⟩
instance:Inhabited qG:=⟨⟨0,0,0,0,[],[]⟩⟩
instance:Inhabited qw:=⟨⟨ByteArray.empty,0,[],[],[],0,0⟩⟩
instance:Inhabited qi:=⟨⟨ByteArray.empty,0,[]⟩⟩
instance:Inhabited qP:=⟨⟨ByteArray.empty,0,0⟩⟩
instance:Inhabited qE:=⟨⟨[],[],[],[]⟩⟩
theorem lastE {j m:Nat} (h:j<m) (hm:m≤1048576):((j:Int)==W64 ((m:Int)-1))=decide (j+1=m):=by
 rcases qyi h with h|h
 ·exact h
 ·omega
theorem qkr {α:Type} [Inhabited α] {xs:List α} {g:α→ByteArray} {j:Nat} (h:j<xs.length):strAt (xs.map g) j=g (gt xs j):=by
 rw [qoS (by simpa using h),qfu h];simp
theorem qnu {α:Type} {xs:List α} {g:α→ByteArray} {ok:α→Prop} (h:okL ok xs) (hg:∀ x,ok x→okS (g x)):okL okS (xs.map g) :=
 ⟨by rw [jx];exact h.1,fun y hy=>by
  obtain ⟨x,hx,rfl⟩:=List.mem_map.1 hy
  exact hg x (h.2 x hx)⟩
theorem qlJ {α β:Type} {xs:List α} {g:α→β} {j:Nat} (h:j<xs.length) (hl:xs.length≤1048576) {y:β}:appS ((xs.take j).map g) [y]=some ((xs.take j).map g++[y]) :=
 qc5 (by simp;omega)
def pinB (ps:List qal) (j:Nat):Bool :=
 bif decide (j+1=ps.length) then ((gt ps j).Br==2)&&(((gt ps j).Bo==0)&&!(gt ps j).Bn) else ((gt ps j).Br==1)&&inI (gt ps j).Bo 0 500
def pinsB (ps:List qal):Bool:=allN (pinB ps) ps.length&&(lenB ps 2 5&&namesB (ps.map qal.Az))
def clkN (ps:List qal) (j:Nat):Nat:=cntP (fun i=>(gt ps i).Bn) j
theorem qu1 {ps:List qal} (h:okL qmP ps):Ev (fun n=>qkb n ps) (pinsB ps):=by
 have hl:=h.len
 have hL:Ev (fun n=>qc2 ps n ([]:List ByteArray) 0) (bif allN (pinB ps) ps.length then .nxt (ps.map qal.Az,(ps.length:Int)) else .ret false):=by
  refine loopN (Lf:=qc2 ps) (S:=fun j=>(ps.take j).map qal.Az) (pinB ps) (fun n=>?_) (fun j hj hp X hX=>?_)
  ·simp only [qc2,ql (je _),cond_false,jF]
  ·simp only [qc2,qj hj,cond_true,qC hj,jd,qlJ hj hl,qf2 (g:=qal.Az) hj,lastE hj hl,bne,qda,qdE,wS j]
   generalize hc:pinB ps j=c at hX ⊢
   unfold pinB at hc
   cases hd:decide (j+1=ps.length)
   ·rw [hd] at hc
    simp only [cond_false] at hc ⊢
    subst hc
    exact Ev.okP (fun h1=>Ev.okP1 (fun h2=>hX (by rw [h1,h2];rfl)))
   ·rw [hd] at hc
    simp only [cond_true] at hc ⊢
    subst hc
    refine Ev.okP (fun h1=>Ev.okP (fun h2=>Ev.chkP1 (fun h3=>hX (by rw [h1,h2,h3];rfl))))
 unfold qkb pinsB
 refine Ev.bind hL ?_
 cases allN (pinB ps) ps.length
 ·exact .done
 ·simp only [cond_true,qcv,qdE,jd,show inI (ps.length:Int) 2 5=lenB ps 2 5 from qs9 (lo:=2) (hi:=5),jz]
  exact Ev.andP (fun _=>Ev.last (qjS (qnu h (fun x hx=>hx.Az))))
def pinS (ps:List qal) (j:Nat):Bool:=allN (neB (ps.map qal.Az) j) j&&((nameB (gt ps j).Az&&inI (gt ps j).Bo 0 500)&&(bif decide (j+1=ps.length) then ((gt ps j).Br==2)&&(((gt ps j).Bo==0)&&!(gt ps j).Bn) else ((gt ps j).Br==1)))
theorem qxM {ps:List qal}:(lenB ps 2 5&&allN (pinS ps) ps.length)=pinsB ps:=by
 have e:namesB (ps.map qal.Az)=allN (fun j=>nameB (gt ps j).Az&&allN (neB (ps.map qal.Az) j) j) ps.length:=by
  unfold namesB
  rw [jx]
  exact qh8 (fun j hj=>by rw [qkr hj])
 unfold pinsB
 rw [e,←Bool.and_assoc,Bool.and_comm (allN (pinB ps) ps.length),Bool.and_assoc,←qlI]
 congr 1
 refine qh8 (fun j hj=>?_)
 unfold pinS pinB
 cases hd:decide (j+1=ps.length)
 ·simp only [cond_false]
  cases allN (neB (ps.map qal.Az) j) j<;>cases nameB (gt ps j).Az<;>cases inI (gt ps j).Bo 0 500<;>cases ((gt ps j).Br==1)<;>rfl
 ·simp only [cond_true]
  cases hcap:((gt ps j).Bo==0)
  ·simp
  ·have:inI (gt ps j).Bo 0 500=true:=by rw [beq_iff_eq] at hcap;rw [hcap];rfl
   rw [this]
   cases allN (neB (ps.map qal.Az) j) j<;>cases nameB (gt ps j).Az<;>cases ((gt ps j).Br==2)<;>cases (gt ps j).Bn<;>rfl
theorem quq {c:qw} (h:okL qmP c.Au):Ev (fun n=>qj6 n c) (bif pinsB c.Au then (((clkN c.Au c.Au.length:Nat):Int),true) else (0,false)):=by
 have hl:=h.len
 have hL2:∀ j,j<c.Au.length→Ev (fun n=>qeY c (j:Int) (gt c.Au j) n 0) (bif allN (neB (c.Au.map qal.Az) j) j then .nxt (j:Int) else .ret (0,false)):=by
  intro j hj
  refine qd8 ?_ (fun i hi X hX=>Ev.succ ?_)
  ·exact Ev.succ (by simp only [qeY,ql (je _),cond_false];exact .done)
  ·simp only [qeY,qj hi,cond_true,qC (show i<c.Au.length by omega),jd,qhS,wS i]
   unfold neB
   rw [qkr (g:=qal.Az) (show i<c.Au.length by omega),qkr (g:=qal.Az) hj]
   exact Ev.chkP1 (fun _=>hX)
 have hL1:Ev (fun n=>qcU c n 0 0) (bif allN (pinS c.Au) c.Au.length then .nxt (((clkN c.Au c.Au.length:Nat):Int),(c.Au.length:Int)) else .ret (0,false)):=by
  refine loopN (Lf:=qcU c) (S:=fun j=>((clkN c.Au j:Nat):Int)) (pinS c.Au) (fun n=>?_) (fun j hj hp X hX=>?_)
  ·simp only [qcU,ql (je _),cond_false]
  ·have hn:clkN c.Au j≤j:=qf0
   have ejl:((j:Int)==W64 ((c.Au.length:Int)-1))=decide (j+1=c.Au.length):=lastE hj hl
   have elt:decide ((j:Int)<W64 ((c.Au.length:Int)-1)) = !decide (j+1=c.Au.length):=by
    rw [qJ (by omega) (by omega),jk];simp;omega
   simp only [qcU,qj hj,cond_true,qC hj,jd,wS j,qc9 (show clkN c.Au j<9223372036854775807 by omega),ejl,elt,qcK]
   unfold pinS
   refine Ev.bind (hL2 j hj) ?_
   cases ha:allN (neB (c.Au.map qal.Az) j) j
   ·exact .done
   ·simp only [cond_true,jz]
    refine Ev.chkT ?_ (fun h1=>?_)
    ·exact Ev.or (qmc (qm7 h hj).Az) (fun _=>.done)
    ·refine Ev.chkT1 ?_ (fun h2=>?_)
     ·cases decide (j+1=c.Au.length)
      ·exact .done
      ·simp only [cond_true,jX,cond_false,bne,qda]
       cases ((gt c.Au j).Br==2)<;>cases ((gt c.Au j).Bo==0)<;>cases (gt c.Au j).Bn<;>exact .done
     ·have hX:=hX (by unfold pinS;rw [ha,h1,h2];rfl)
      have hck:clkN c.Au (j+1)=clkN c.Au j+(bif (gt c.Au j).Bn then 1 else 0):=rfl
      rw [hck] at hX
      cases hc:(gt c.Au j).Bn
      ·rw [hc] at hX;exact Ev.ff rfl hX
      ·rw [hc] at hX;exact Ev.tt rfl hX
 rw [←qxM]
 unfold qj6
 refine Ev.guard ?_ (fun h1=>?_)
 ·unfold lenB
  have e1:decide ((c.Au.length:Int)<2) = !decide (2≤c.Au.length):=by rw [jk];simp;omega
  have e2:decide ((c.Au.length:Int) > 5) = !decide (c.Au.length≤5):=by rw [jk];simp;omega
  rw [e1,e2]
  cases decide (2≤c.Au.length)<;>cases decide (c.Au.length≤5)<;>exact .done
 ·refine Ev.bind hL1 ?_
  cases allN (pinS c.Au) c.Au.length<;>exact .done
def mnL (xs:List Int):Int:=(xs.drop 1).foldl (fun m y=>if y<m then y else m) (at0 xs 0)
def mxL (xs:List Int):Int:=(xs.drop 1).foldl (fun m y=>if y > m then y else m) (at0 xs 0)
theorem qqN {t:qt} (h:tableB t=true):1≤t.Ba.length:=by
 unfold tableB axisB lenB at h
 simp only [jf,decide_eq_true_eq] at h
 obtain ⟨⟨⟨h1,_⟩,_⟩,⟨⟨h2,_⟩,_⟩,h3,_⟩:=h
 rw [h3]
 exact Nat.mul_pos h1 h2
theorem qxR {xs:List Int} (h1:1≤xs.length) (hl:xs.length≤1048576):Ev (fun n=>qhx n xs) (mnL xs):=by
 have hL:=(qpK (Lf:=fun n t j=>qcP xs n t j) (xs:=xs) (step:=fun (m y:Int)=>if y<m then y else m) (fin:=fun t=>(t,(xs.length:Int))) 1 (at0 xs 0) (fun _ _=>True) h1 trivial (fun _ _ _ _=>trivial)
  (fun n t=>by simp only [qcP,ql (je _),cond_false])
  (fun j t hj _ X hX=>by simpa only [qcP,qj hj,cond_true,qge hj,jd,wS j] using hX)).1
 unfold qhx
 rw [show decide ((xs.length:Int)<1)=false by simp;omega,show idx xs (0:Int)=some (at0 xs 0) from qar (j:=0) (by omega)]
 simp only [cond_false,jd]
 exact Ev.bind hL .done
theorem quT {t:qt} (h:qiz t):Ev (fun n=>qhB n t) (bif tableB t then (⟨mnL t.Ba,mxL t.Ba⟩,0) else (⟨0,0⟩,1)):=by
 unfold qhB
 refine Ev.chk1 (qtO h) (fun hb=>?_)
 have h1:=qqN hb
 have hl:=h.Ba.len
 have hL:=(qpK (Lf:=fun n (t':Int × Int) j=>qcR t n t'.1 t'.2 j) (xs:=t.Ba) (step:=fun (m:Int × Int) y=>(if y<m.1 then y else m.1,if y > m.2 then y else m.2)) (fin:=fun t'=>(t'.1,t'.2,(t.Ba.length:Int))) 1 (at0 t.Ba 0,at0 t.Ba 0) (fun _ _=>True) h1 trivial (fun _ _ _ _=>trivial)
  (fun n t=>by simp only [qcR,ql (je _),cond_false])
  (fun j t hj _ X hX=>by simpa only [qcR,qj hj,cond_true,qge hj,jd,wS j] using hX)).1
 have hf:∀ (ys:List Int) (a b:Int),ys.foldl (fun (m:Int × Int) y=>(if y<m.1 then y else m.1,if y > m.2 then y else m.2)) (a,b)=(ys.foldl (fun m y=>if y<m then y else m) a,ys.foldl (fun m y=>if y > m then y else m) b):=by
  intro ys
  induction ys with
  | nil=>intro a b;rfl
  | cons y ys ih=>intro a b;simp only [List.foldl_cons,ih]
 rw [hf] at hL
 rw [show idx t.Ba (0:Int)=some (at0 t.Ba 0) from qar (j:=0) (by omega)]
 simp only [jd]
 exact Ev.bind hL .done
def tabB (pos:Bool) (t:qt):Bool:=tableB t&&(!pos || decide (0≤mnL t.Ba))
def tablesB (ts:List qt) (pos:Bool):Bool:=decide (ts.length=2)&&ts.all (tabB pos)
theorem qmb {ts:List qt} {pos:Bool} (h:okL qiz ts):Ev (fun n=>qfG n ts pos) (tablesB ts pos):=by
 have hl:=h.len
 have h1:Ev (fun n=>qaJ n ts pos) (ixL (fun x=>!tabB pos x) ts) :=
  qgx (fin:=(ts.length:Int)) (Lf:=qS ts pos) (pf:=fun n x=>qhs n x pos) (fun x hx=>by
    unfold qhs tabB
    refine Ev.or (quH (h.2 x hx)) (fun hb=>?_)
    cases pos
    ·exact .done
    ·refine Ev.tt rfl (Ev.bind (qxR (qqN hb) (h.2 x hx).Ba.len) (Ev.now ?_))
     congr 1
     rw [jk];simp)
   (fun n=>by simp only [qS,ql (je _),cond_false])
   (fun n j x hx=>by
    have hj:=(List.getElem?_eq_some_iff.1 hx).1
    simp only [qS,qj hj,cond_true,qM hx,jd,wS j])
   (fun n=>by unfold qaJ;congr 1;funext o;cases o<;>rfl)
 unfold qfG qa5 tablesB
 rw [show ((ts.length:Int)==2)=decide (ts.length=2) by rw [jk];simp;omega]
 refine Ev.andP (fun _=>Ev.bind (Ev.bind h1 (Ev.now rfl)) (Ev.now ?_))
 rw [qn1,qqt]
theorem qiH {ts:List qt} {pos:Bool} (h:okL qiz ts):Ev (fun n=>qdt n ts pos) (tablesB ts pos):=by
 unfold qdt tablesB
 rw [show ((ts.length:Int) != 2) = !decide (ts.length=2) by rw [jk];simp;omega]
 simp only [qda]
 refine Ev.andP (fun h2=>?_)
 have h2:ts.length=2:=by simpa using h2
 have hL:Ev (fun n=>qcM ts pos n 0) (bif allN (fun j=>tabB pos (gt ts j)) ts.length then .nxt (2:Int) else .ret false):=by
  refine qd8 (len:=ts.length) ?_ (fun j hj X hX=>Ev.succ ?_)
  ·rw [h2];exact Ev.succ (by simp only [qcM];exact .done)
  ·simp only [qcM,show decide ((j:Int)<2)=true by simp;omega,cond_true,qC hj,jd,wS j]
   refine Ev.bind (quT (qm7 h hj)) ?_
   unfold tabB
   cases tableB (gt ts j)
   ·exact .done
   ·simp only [cond_true,jz]
    refine Ev.ff rfl ?_
    cases pos
    ·exact hX
    ·refine Ev.tt rfl ?_
     rw [show decide (mnL (gt ts j).Ba<0) = !decide (0≤mnL (gt ts j).Ba) by rw [jk];simp]
     simp only [qda]
     exact Ev.okP1 (fun _=>hX)
 rw [qiV]
 refine Ev.bind hL ?_
 cases allN (fun j=>tabB pos (gt ts j)) ts.length<;>exact .done
end Go.Fw


namespace Go.Fw
open Go
set_option maxRecDepth 100000
theorem qfI {α:Type} [Inhabited α] {xs:List α} {x:Int} (h0:0≤x) (h1:x<xs.length):idx xs x=some (gt xs x.toNat):=by
  have:=qC (xs:=xs) (j:=x.toNat) (by omega)
  rwa [←qhd h0] at this
theorem qsd {q:Nat→Bool} {m n:Nat} (h:m≤n):cntP q m≤cntP q n:=by
  induction n with
  | zero =>
    obtain rfl:m=0:=by omega
    exact je _
  | succ n ih =>
    rcases Nat.lt_or_eq_of_le h with h|rfl
    · exact Nat.le_trans (ih (by omega)) (Nat.le_add_right _ _)
    · exact je _
theorem qnD {m k:Nat}:decide ((m:Int)≤(k:Int))=decide (m≤k):=by rw [jk];simp
theorem qtd {q:Nat→Bool} {n i j:Nat} (hi:i<j) (hj:j<n) (h1:q i=true) (h2:q j=true):2≤cntP q n:=by
  have e1:cntP q (i+1)=cntP q i+1:=by rw [cntP,h1];rfl
  have e2:cntP q (j+1)=cntP q j+1:=by rw [cntP,h2];rfl
  have m1:=qsd (q:=q) (show i+1≤j by omega)
  have m2:=qsd (q:=q) (show j+1≤n by omega)
  omega
theorem qty {q:Nat→Bool} {n i j:Nat} (hn:cntP q n≤1) (hi:i<n) (hj:j<n) (h1:q i=true) (h2:q j=true):i=j:=by
  rcases Nat.lt_trichotomy i j with h|h|h
  · have:=qtd h hj h1 h2;omega
  · exact h
  · have:=qtd h hi h2 h1;omega
def clkIx (ps:List qal):Int:=ixL (fun p=>p.Bn) ps
def clkAt (ps:List qal) (x:Int):Bool:=(gt ps x.toNat).Bn
theorem qwQ {c:qw} (hl:c.Au.length≤1048576):Ev (fun n=>qh7 n c) (clkIx c.Au):=by
  unfold qh7
  refine Ev.bind (b:=clkIx c.Au) ?_ .done
  exact qgx (fin:=(c.Au.length:Int)) (Lf:=qY c.Au) (pf:=fun n x=>qix n x) (fun _ _=>.done)
    (fun n=>by simp only [qY,ql (je _),cond_false])
    (fun n j x hx=>by
      have hj:=(List.getElem?_eq_some_iff.1 hx).1
      simp only [qY,qj hj,cond_true,qM hx,jd,wS j])
    (fun n=>by unfold qbw;congr 1;funext o;cases o<;>rfl)
def arcI (ps:List qal) (a:qG):Bool :=
  bif (a.Av==4) || (a.Av==5) then
    (a.Bl==0)&&(((a.Aq.length:Int)==0)&&(tablesB a.Bj false&&((a.Be==clkIx ps)&&(decide (a.Be ≥ 0)&&(inI a.To 0 (ps.length-2)&&!(a.To==a.Be))))))
  else
    (tablesB a.Bj true&&(tablesB a.Aq true&&((a.To==(ps.length:Int)-1)&&inI a.Be 0 (ps.length-2)))) &&
      (bif a.Av==1 then !clkAt ps a.Be&&inI a.Bl 1 3 else (bif (a.Av==2) || (a.Av==3) then clkAt ps a.Be&&(a.Bl==0) else false))
def arcS (ps:List qal) (a:qG):Bool :=
  (inI a.Be 0 (ps.length-2)&&inI a.To 0 (ps.length-1)) &&
    (bif a.Av==1 then !clkAt ps a.Be&&((a.To==(ps.length:Int)-1)&&(inI a.Bl 1 3&&(tablesB a.Bj true&&tablesB a.Aq true)))
     else (bif (a.Av==2) || (a.Av==3) then clkAt ps a.Be&&((a.To==(ps.length:Int)-1)&&((a.Bl==0)&&(tablesB a.Bj true&&tablesB a.Aq true)))
     else (bif (a.Av==4) || (a.Av==5) then clkAt ps a.Be&&(decide (a.To<(ps.length:Int)-1)&&(!clkAt ps a.To&&((a.Bl==0)&&(tablesB a.Bj false&&((a.Aq.length:Int)==0))))) else false)))
theorem qpN {c d:Bool}:(bif c then some c else some d)=some (c || d):=by cases c<;>rfl
theorem qtV {c d:Bool}:(bif c then some true else some d)=some (c || d):=by cases c<;>rfl
theorem qux {n:Nat} {k:Int}:qkj n k=some ((k==4) || (k==5)):=by simp only [qkj,qtV]
theorem qxc {c:qw} {a:qG} (h:okL qmP c.Au) (ha:qob a) (hm:2≤c.Au.length):Ev (fun n=>qhZ n c a) (arcI c.Au a):=by
  have hl:=h.len
  have e1:W64 ((c.Au.length:Int)-1)=(c.Au.length:Int)-1:=qe6 (by omega)
  have e2:W64 ((c.Au.length:Int)-1-1)=(c.Au.length:Int)-2:=by rw [qJ (by omega) (by omega)];omega
  simp only [qhZ,qux,jd,qgM,qez,qcv,e1,e2,qdE,qpN,bne]
  unfold arcI
  refine Ev.iff (fun _=>Ev.last ?_) (fun _=>Ev.guardB ?_ (fun hb=>?_))
  · exact Ev.andP fun _=>Ev.andP fun _=>Ev.and (qmb ha.Bj) fun _=>Ev.bind (qwQ hl) (Ev.andP fun _=>Ev.andP fun _=>Ev.andP fun _=>.done)
  · refine Ev.or (qmb ha.Bj) fun _=>Ev.or (qmb ha.Aq) fun _=>?_
    simp only [qda]
    exact Ev.orBP fun _=>.done
  · have hf:0≤a.Be∧a.Be≤(c.Au.length:Int)-2:=by
      simp only [jf,qbt] at hb
      exact hb.2.2.2
    simp only [qfI hf.1 (show a.Be<(c.Au.length:Int) by omega),jd]
    exact Ev.iff (fun _=>Ev.andP fun _=>.done) (fun _=>Ev.iff (fun _=>Ev.andP fun _=>.done) (fun _=>.done))
theorem qvn {c:qw} {a:qG} (h:okL qmP c.Au) (ha:qob a) (hm:2≤c.Au.length):Ev (fun n=>qlo n c a) (arcS c.Au a):=by
  have hl:=h.len
  have e1:W64 ((c.Au.length:Int)-1)=(c.Au.length:Int)-1:=qe6 (by omega)
  have e2:W64 ((c.Au.length:Int)-1-1)=(c.Au.length:Int)-2:=by rw [qJ (by omega) (by omega)];omega
  simp only [qlo,jd,e1,e2,qcK,qpN]
  unfold arcS
  refine Ev.guardB ?_ (fun hb=>?_)
  · simp only [qda]
    exact Ev.orBP fun _=>.done
  · have hf:(0≤a.Be∧a.Be≤(c.Au.length:Int)-2)∧(0≤a.To∧a.To≤(c.Au.length:Int)-1):=by
      simp only [jf,qbt] at hb
      exact hb
    simp only [qfI hf.1.1 (show a.Be<(c.Au.length:Int) by omega),qfI hf.2.1 (show a.To<(c.Au.length:Int) by omega),jd]
    refine Ev.iff (fun _=>?_) (fun _=>Ev.iff (fun _=>?_) (fun _=>Ev.iff (fun _=>?_) (fun _=>.done)))
    · exact Ev.andP fun _=>Ev.andP fun _=>Ev.andP fun _=>Ev.and (qiH ha.Bj) fun _=>Ev.last (qiH ha.Aq)
    · exact Ev.andP fun _=>Ev.andP fun _=>Ev.andP fun _=>Ev.and (qiH ha.Bj) fun _=>Ev.last (qiH ha.Aq)
    · exact Ev.andP fun _=>Ev.andP fun _=>Ev.andP fun _=>Ev.andP fun _=>Ev.and (qiH ha.Bj) fun _=>.done
theorem qpg {ps:List qal} (h1:clkN ps ps.length≤1) {x:Int} (hx:0≤x):clkIx ps=x↔x<ps.length∧clkAt ps x=true:=by
  unfold clkIx ixL
  cases hf:ps.findIdx? (fun p=>p.Bn) with
  | some j =>
    obtain ⟨hj,hp,_⟩:=List.findIdx?_eq_some_iff_getElem.1 hf
    have hpj:(gt ps j).Bn=true:=by rw [qfu hj];exact hp
    constructor
    · intro e
      have e:(j:Int)=x:=e
      subst e
      exact ⟨by omega,by unfold clkAt;rw [jo];exact hpj⟩
    · rintro ⟨hl,hc⟩
      have:=qty h1 hj (show x.toNat<ps.length by omega) hpj hc
      show (j:Int)=x
      omega
  | none =>
    have hn:=List.findIdx?_eq_none_iff.1 hf
    constructor
    · intro e
      have e:(-1:Int)=x:=e
      omega
    · rintro ⟨hl,hc⟩
      have hxl:x.toNat<ps.length:=by omega
      unfold clkAt at hc
      rw [qfu hxl] at hc
      have:=hn _ (jp hxl)
      rw [hc] at this
      exact absurd this (by decide)
theorem qg2 {ps:List qal} (h:pinsB ps=true):(2≤ps.length∧ps.length≤5)∧clkAt ps ((ps.length:Int)-1)=false:=by
  unfold pinsB lenB at h
  simp only [jf,decide_eq_true_eq] at h
  refine ⟨h.2.1,?_⟩
  have h1:=qav.1 h.1 (ps.length-1) (by omega)
  unfold pinB at h1
  rw [show decide (ps.length-1+1=ps.length)=true by simp;omega] at h1
  simp only [cond_true,jf,jG] at h1
  unfold clkAt
  rw [show ((ps.length:Int)-1).toNat=ps.length-1 by omega]
  exact h1.2.2
theorem qxB {ps:List qal} {a:qG} (h:pinsB ps=true) (h1:clkN ps ps.length≤1):arcI ps a=arcS ps a:=by
  obtain ⟨⟨hm,hm5⟩,hlast⟩:=qg2 h
  rw [jk]
  unfold arcI arcS
  cases h45:((a.Av==4) || (a.Av==5)) with
  | true =>
    have k1:(a.Av==1)=false:=by simp at h45 ⊢;omega
    have k23:((a.Av==2) || (a.Av==3))=false:=by simp at h45 ⊢;omega
    rw [k1,k23]
    simp only [cond_true,cond_false,jf,qbt,decide_eq_true_eq,beq_iff_eq,jG,beq_eq_false_iff_ne,ne_eq]
    constructor
    · rintro ⟨hs,hsl,hd,hf,hf0,ht,hne⟩
      obtain ⟨hl,hc⟩:=(qpg h1 hf0).1 hf.symm
      have hfl:a.Be ≠ (ps.length:Int)-1:=by intro e;rw [e,hlast] at hc;cases hc
      refine ⟨⟨⟨hf0,by omega⟩,⟨ht.1,by omega⟩⟩,hc,by omega,?_,hs,hd,hsl⟩
      cases hct:clkAt ps a.To with
      | false=>rfl
      | true =>
        have:=(qpg h1 ht.1).2 ⟨by omega,hct⟩
        omega
    · rintro ⟨⟨hf,ht⟩,hc,hlt,hct,hs,hd,hsl⟩
      have:=(qpg h1 hf.1).2 ⟨by omega,hc⟩
      refine ⟨hs,hsl,hd,this.symm,hf.1,⟨ht.1,by omega⟩,?_⟩
      intro e
      rw [e,hc] at hct
      cases hct
  | false =>
    simp only [cond_false,jf,qbt,beq_iff_eq]
    cases (a.Av==1)
    · cases ((a.Av==2) || (a.Av==3))
      · simp
      · simp only [cond_true,cond_false,jf,beq_iff_eq]
        constructor
        · rintro ⟨⟨h1,h2,h3,h4⟩,h5,h6⟩
          exact ⟨⟨h4,by omega⟩,h5,h3,h6,h1,h2⟩
        · rintro ⟨⟨h4,h7⟩,h5,h3,h6,h1,h2⟩
          exact ⟨⟨h1,h2,h3,h4⟩,h5,h6⟩
    · simp only [cond_true,jf,qbt,jG,beq_iff_eq]
      constructor
      · rintro ⟨⟨h1,h2,h3,h4⟩,h5,h6⟩
        exact ⟨⟨h4,by omega⟩,h5,h3,h6,h1,h2⟩
      · rintro ⟨⟨h4,h7⟩,h5,h3,h6,h1,h2⟩
        exact ⟨⟨h1,h2,h3,h4⟩,h5,h6⟩
theorem qsc {ps:List qal} {a:qG} (h:arcS ps a=true):1≤a.Av∧a.Av≤5:=by
  unfold arcS at h
  rw [jf] at h
  have h:=h.2
  cases h1:(a.Av==1)
  · cases h2:((a.Av==2) || (a.Av==3))
    · cases h4:((a.Av==4) || (a.Av==5))
      · rw [h1,h2,h4] at h;cases h
      · simp at h4;omega
    · simp at h2;omega
  · simp at h1;omega
def sameArc (x y:qG):Bool:=(x.Av==y.Av)&&((x.Be==y.Be)&&(x.To==y.To))
def newArc (ar:List qG) (j:Nat):Bool:=allN (fun i=>!sameArc (gt ar i) (gt ar j)) j
theorem quZ {c:qw} (h:okL qmP c.Au) (ha:okL qob c.As) (hm:2≤c.Au.length):Ev (fun n=>qgL n c) (allN (fun j=>arcI c.Au (gt c.As j)&&newArc c.As j) c.As.length&&decide (c.As.length≤8)):=by
  have hl:=ha.len
  have h1:∀ (ar:List qG) (y:qG),ar.length≤1048576→Ev (fun n=>qaB n ar y) (ar.any fun x=>sameArc x y):=by
    intro ar y hl
    unfold qaB
    refine Ev.bind (b:=ixL (fun x=>sameArc x y) ar) (qgx (fin:=(ar.length:Int)) (Lf:=qQ ar y) (pf:=fun n x=>qfw n x y) (fun x _=>?_)
      (fun n=>by simp only [qQ,ql (je _),cond_false])
      (fun n j x hx=>by
        have hj:=(List.getElem?_eq_some_iff.1 hx).1
        simp only [qQ,qj hj,cond_true,qM hx,jd,wS j])
      (fun n=>by unfold qbd;congr 1;funext o;cases o<;>rfl)) (Ev.now (by rw [qn1]))
    unfold qfw sameArc
    exact Ev.andP fun _=>Ev.andP fun _=>.done
  have hL:Ev (fun n=>qcq c n 0) (bif allN (fun j=>arcI c.Au (gt c.As j)&&newArc c.As j) c.As.length then .nxt (c.As.length:Int) else .ret false):=by
    refine qd8 ?_ (fun j hj X hX=>Ev.succ ?_)
    · exact Ev.succ (by simp only [qcq,ql (je _),cond_false];exact .done)
    · simp only [qcq,qj hj,cond_true,qC hj,jd,qvD (Nat.le_of_lt hj),wS j]
      refine Ev.chk (qxc h (qm7 ha hj) hm) fun _=>Ev.chkT1 ?_ (fun _=>hX)
      refine (h1 _ _ (by simp;omega)).cast ?_
      rw [qxu (Nat.le_of_lt hj)];rfl
  unfold qgL
  refine Ev.bind hL ?_
  cases allN (fun j=>arcI c.Au (gt c.As j)&&newArc c.As j) c.As.length
  · exact .done
  · refine Ev.now ?_
    show some (decide ((c.As.length:Int)≤((8:Nat):Int)))=some (true&&decide (c.As.length≤8))
    rw [qnD,jz]
def hasB (ar:List qG) (k:Int):Bool:=ar.any fun a=>a.Av==k
theorem qpi {c:qw} {k:Int} (hl:c.As.length≤1048576):Ev (fun n=>qdo n c k) (hasB c.As k):=by
  unfold qdo qbo
  exact Ev.last (Ev.bind (b:=ixL (fun x=>x.Av==k) c.As) (qgx (fin:=(c.As.length:Int)) (Lf:=qac c.As k) (pf:=fun n x=>qjX n x k) (fun x _=>.done)
      (fun n=>by simp only [qac,ql (je _),cond_false])
      (fun n j x hx=>by
        have hj:=(List.getElem?_eq_some_iff.1 hx).1
        simp only [qac,qj hj,cond_true,qM hx,jd,wS j])
      (fun n=>by unfold qbE;congr 1;funext o;cases o<;>rfl)) (Ev.now (by rw [qn1];rfl)))
def kindN (ar:List qG) (k:Nat) (j:Nat):Nat:=cntP (fun i=>(gt ar i).Av==(k:Int)) j
theorem qrU {ar:List qG} {k:Nat}:decide (((kindN ar k ar.length:Nat):Int) > 0)=hasB ar k:=by
  rw [show decide (((kindN ar k ar.length:Nat):Int) > 0)=decide (0<kindN ar k ar.length) by simp]
  unfold kindN hasB
  rw [qte,qul]
theorem quW {ar:List qG} {k:Nat}:(((kindN ar k ar.length:Nat):Int)==0) = !hasB ar k:=by
  rw [←qrU,jk];simp
theorem qtF {c:qw} (ha:okL qob c.As) (hk:∀ j,j<c.As.length→1≤(gt c.As j).Av∧(gt c.As j).Av≤5):Ev (fun n=>qjo n c) (vecC (fun k=>kindN c.As k c.As.length) 6):=by
  have hl:=ha.len
  have hL:Ev (fun n=>qdb c n (vecC (fun _=>0) 6) 0) (vecC (fun k=>kindN c.As k c.As.length) 6,(c.As.length:Int)):=by
    refine loopF (Lf:=qdb c) (S:=fun j=>vecC (fun k=>kindN c.As k j) 6) (len:=c.As.length) (fun n=>?_) (fun j hj X hX=>?_)
    · simp only [qdb,ql (je _),cond_false]
    · obtain ⟨k1,k5⟩:=hk j hj
      have ek:(gt c.As j).Av=(((gt c.As j).Av.toNat:Nat):Int):=qhd (by omega)
      have hc:kindN c.As (gt c.As j).Av.toNat j≤j:=qf0
      simp only [qdb,qj hj,cond_true,qC hj,jd,wS j]
      rw [ek,qkF (show (gt c.As j).Av.toNat<6 by omega)]
      simp only [jd]
      rw [qr4 (c:=fun k=>kindN c.As k j) (by show kindN c.As _ j<_;omega)]
      have:vecC (fun i=>kindN c.As i j+(bif decide ((gt c.As j).Av.toNat=i) then 1 else 0)) 6=vecC (fun k=>kindN c.As k (j+1)) 6:=by
        refine qkA (fun k _=>?_)
        show _=kindN c.As k j+(bif (gt c.As j).Av==(k:Int) then 1 else 0)
        congr 2
        rw [jk];simp;omega
      rw [this]
      exact hX
  unfold qjo
  rw [show mkS 6 (0:Int)=some (vecC (fun _=>0) 6) from qnC (m:=6) (by omega)]
  simp only [jd]
  exact Ev.bind hL .done
def kindB (c:qw):Bool :=
  bif c.Av==1 then (((clkN c.Au c.Au.length:Nat):Int)==0)&&(((c.Bk.length:Int)==((2 ^ (c.Au.length-1):Nat):Int))&&(c.Bk.all fun x=>inI x 0 1))
  else bif c.Av==2 then (((clkN c.Au c.Au.length:Nat):Int)==1)&&(((c.Bk.length:Int)==0)&&(!hasB c.As 1&&!(hasB c.As 2==hasB c.As 3)))
  else bif c.Av==3 then (((clkN c.Au c.Au.length:Nat):Int)==1)&&(((c.Bk.length:Int)==0)&&(hasB c.As 1&&(hasB c.As 2&&!hasB c.As 3)))
  else false
theorem qrV {c:qw} (h:kindB c=true):clkN c.Au c.Au.length≤1:=by
  unfold kindB at h
  cases h1:(c.Av==1)
  · cases h2:(c.Av==2)
    · cases h3:(c.Av==3)
      · rw [h1,h2,h3] at h;cases h
      · rw [h1,h2,h3] at h
        simp only [cond_true,cond_false,jf,beq_iff_eq] at h
        omega
    · rw [h1,h2] at h
      simp only [cond_true,cond_false,jf,beq_iff_eq] at h
      omega
  · rw [h1] at h
    simp only [cond_true,jf,beq_iff_eq] at h
    omega
theorem qt8 {m:Nat} (h1:2≤m) (h2:m≤5):shlS 1 (W64 ((m:Int)-1))=some ((2 ^ (m-1):Nat):Int)∧shlS 1 (IntKind.wrap .u64 (W64 ((m:Int)-1)))=some ((2 ^ (m-1):Nat):Int):=by
  have:m=2∨m=3∨m=4∨m=5:=by omega
  rcases this with rfl|rfl|rfl|rfl<;>exact ⟨by decide,by decide⟩
theorem qtl {c:qw} (hc:qny c) (hm:2≤c.Au.length) (hm5:c.Au.length≤5):Ev (fun n=>qga n c) (kindB c):=by
  have hl:=hc.Au.len
  have hL:Ev (fun n=>qbe c n 0 0) (((clkN c.Au c.Au.length:Nat):Int),(c.Au.length:Int)):=by
    refine loopF (Lf:=qbe c) (S:=fun j=>((clkN c.Au j:Nat):Int)) (len:=c.Au.length) (fun n=>?_) (fun j hj X hX=>?_)
    · simp only [qbe,ql (je _),cond_false]
    · have hn:clkN c.Au j≤j:=qf0
      simp only [qbe,qj hj,cond_true,qC hj,jd,wS j,qc9 (show clkN c.Au j<9223372036854775807 by omega)]
      have hck:clkN c.Au (j+1)=clkN c.Au j+(bif (gt c.Au j).Bn then 1 else 0):=rfl
      rw [hck] at hX
      cases hc:(gt c.Au j).Bn
      · rw [hc] at hX;exact Ev.ff rfl hX
      · rw [hc] at hX;exact Ev.tt rfl hX
  unfold qga kindB
  refine Ev.bind hL ?_
  simp only [qez,qcv,jd,(qt8 hm hm5).1]
  have hal:=hc.As.len
  refine Ev.iff (fun _=>?_) (fun _=>Ev.iff (fun _=>?_) (fun _=>Ev.iff (fun _=>?_) (fun _=>.done)))
  · exact Ev.andP fun _=>Ev.andP fun _=>Ev.last (qfc hc.Bk.len)
  · exact Ev.andP fun _=>Ev.andP fun _=>Ev.bind (qpi hal) (Ev.andP fun _=>Ev.bind (qpi hal) (Ev.bind (qpi hal) .done))
  · exact Ev.andP fun _=>Ev.andP fun _=>Ev.and (qpi hal) fun _=>Ev.and (qpi hal) fun _=>Ev.bind (qpi hal) .done
def cellB (c:qw):Bool :=
  nameB c.Az&&(pinsB c.Au&&((allN (fun j=>arcI c.Au (gt c.As j)&&newArc c.As j) c.As.length&&decide (c.As.length≤8))&&(inI c.Bw 0 100000&&(inI c.Bq 0 100000&&kindB c))))
theorem qvz {c:qw} (hc:qny c):Ev (fun n=>qlc n c) (cellB c):=by
  simp only [qlc,qpt hc.Az,qdE,jd]
  unfold cellB
  refine Ev.andP fun _=>Ev.and (qu1 hc.Au) fun hp=>?_
  obtain ⟨⟨hm,hm5⟩,_⟩:=qg2 hp
  exact Ev.and (quZ hc.Au hc.As hm) fun _=>Ev.andP fun _=>Ev.andP fun _=>Ev.last (qtl hc hm hm5)
theorem quE {c:qw} (hc:qny c):Ev (fun n=>qlt n c) (cellB c):=by
  have hal:=hc.As.len
  have htl:=hc.Bk.len
  have e:cellB c=((pinsB c.Au&&(nameB c.Az&&(decide (c.As.length≤8)&&(inI c.Bw 0 100000&&inI c.Bq 0 100000))))&&(allN (fun j=>arcS c.Au (gt c.As j)&&newArc c.As j) c.As.length&&kindB c)):=by
    unfold cellB
    cases hk:kindB c
    · simp
    · cases hp:pinsB c.Au
      · simp
      · rw [qh8 (fun j _=>by rw [qxB hp (qrV hk)])]
        cases nameB c.Az<;>cases allN (fun j=>arcS c.Au (gt c.As j)&&newArc c.As j) c.As.length<;>cases decide (c.As.length≤8)<;>cases inI c.Bw 0 100000<;>cases inI c.Bq 0 100000<;>rfl
  rw [e]
  unfold qlt
  refine Ev.bind (quq hc.Au) ?_
  cases hp:pinsB c.Au
  · exact .done
  · obtain ⟨⟨hm,hm5⟩,_⟩:=qg2 hp
    simp only [cond_true,jz,jX,cond_false]
    refine Ev.guardB ?_ (fun _=>?_)
    · simp only [qcK,jd,qda]
      refine Ev.orB (qmc hc.Az) fun _=>?_
      rw [show decide ((c.As.length:Int) > 8) = !decide (c.As.length≤8) by rw [jk];simp;omega,qda]
      exact Ev.orBP fun _=>Ev.orBP fun _=>.done
    · have hL2:∀ j,j<c.As.length→Ev (fun n=>qdx c (j:Int) (gt c.As j) n 0) (bif newArc c.As j then .nxt (j:Int) else .ret false):=by
        intro j hj
        refine qd8 ?_ (fun i hi X hX=>Ev.succ ?_)
        · exact Ev.succ (by simp only [qdx,ql (je _),cond_false];exact .done)
        · simp only [qdx,qj hi,cond_true,qC (show i<c.As.length by omega),jd,wS i]
          unfold sameArc
          cases ((gt c.As i).Av==(gt c.As j).Av)
          · exact hX
          · cases ((gt c.As i).Be==(gt c.As j).Be)
            · exact hX
            · cases ((gt c.As i).To==(gt c.As j).To)
              · exact hX
              · exact .done
      have hL1:Ev (fun n=>qfy c n 0) (bif allN (fun j=>arcS c.Au (gt c.As j)&&newArc c.As j) c.As.length then .nxt (c.As.length:Int) else .ret false):=by
        refine qd8 ?_ (fun j hj X hX=>Ev.succ ?_)
        · exact Ev.succ (by simp only [qfy,ql (je _),cond_false];exact .done)
        · simp only [qfy,qj hj,cond_true,qC hj,jd,wS j]
          refine Ev.chk (qvn hc.Au (qm7 hc.As hj) hm) fun _=>Ev.bind (hL2 j hj) ?_
          cases newArc c.As j
          · exact .done
          · exact hX
      have hL3:Ev (fun n=>qfJ c n 0) (bif (c.Bk.all fun x=>inI x 0 1) then .nxt (c.Bk.length:Int) else .ret false) :=
        qoL (fun n=>by simp only [qfJ,ql (je _),cond_false]) (fun j hj X hX=>by
          simp only [qfJ,qj hj,cond_true,qge hj,jd,qcK,wS j,qda]
          exact Ev.okP1 fun _=>hX)
      refine Ev.bind hL1 ?_
      cases hA:allN (fun j=>arcS c.Au (gt c.As j)&&newArc c.As j) c.As.length
      · exact .done
      · have hk:∀ j,j<c.As.length→1≤(gt c.As j).Av∧(gt c.As j).Av≤5:=fun j hj=>by
          have:=qav.1 hA j hj
          rw [jf] at this
          exact qsc this.1
        simp only [cond_true,jz]
        refine Ev.bind (qtF hc.As hk) ?_
        simp only [(qt8 hm hm5).2,jd,
          show idx (vecC (fun k=>kindN c.As k c.As.length) 6) (1:Int)=some ((kindN c.As 1 c.As.length:Nat):Int) from qkF (k:=1) (by omega),
          show idx (vecC (fun k=>kindN c.As k c.As.length) 6) (2:Int)=some ((kindN c.As 2 c.As.length:Nat):Int) from qkF (k:=2) (by omega),
          show idx (vecC (fun k=>kindN c.As k c.As.length) 6) (3:Int)=some ((kindN c.As 3 c.As.length:Nat):Int) from qkF (k:=3) (by omega),qrU,quW]
        unfold kindB
        refine Ev.iff (fun _=>?_) (fun _=>Ev.iff (fun _=>?_) (fun _=>Ev.iff (fun _=>?_) (fun _=>.done)))
        · refine Ev.bind hL3 ?_
          cases (c.Bk.all fun x=>inI x 0 1)
          · exact Ev.now (by simp)
          · exact (Ev.andP (fun _=>.done)).cast (by rw [Bool.and_true])
        · refine (Ev.andP fun _=>Ev.andP fun _=>Ev.andP fun _=>.done).cast ?_
          cases (((clkN c.Au c.Au.length:Nat):Int)==1)<;>cases ((c.Bk.length:Int)==0)<;>cases hasB c.As ((1:Nat):Int)<;>cases hasB c.As ((2:Nat):Int)<;>cases hasB c.As ((3:Nat):Int)<;>rfl
        · refine (Ev.andP fun _=>Ev.andP fun _=>Ev.andP fun _=>Ev.andP fun _=>.done).cast ?_
          cases (((clkN c.Au c.Au.length:Nat):Int)==1)<;>cases ((c.Bk.length:Int)==0)<;>cases hasB c.As ((1:Nat):Int)<;>cases hasB c.As ((2:Nat):Int)<;>cases hasB c.As ((3:Nat):Int)<;>rfl
def libB (l:qr):Bool:=l.Ap.all cellB&&(decide (l.Ap.length≤8)&&namesB (l.Ap.map qw.Az))
theorem qsE {l:qr} (h:qih l):Ev (fun n=>qiT n l) (libB l):=by
  have hl:=h.Ap.len
  have hL:Ev (fun n=>qcG l n ([]:List ByteArray) 0) (bif allN (fun j=>cellB (gt l.Ap j)) l.Ap.length then .nxt (l.Ap.map qw.Az,(l.Ap.length:Int)) else .ret false):=by
    refine loopN (Lf:=qcG l) (S:=fun j=>(l.Ap.take j).map qw.Az) (fun j=>cellB (gt l.Ap j)) (fun n=>?_) (fun j hj hp X hX=>?_)
    · simp only [qcG,ql (je _),cond_false,jF]
    · simp only [qcG,qj hj,cond_true,qC hj,jd,qlJ hj hl,qf2 (g:=qw.Az) hj,wS j]
      exact Ev.chk1 (qvz (qm7 h.Ap hj)) hX
  unfold qiT libB
  rw [qiV]
  refine Ev.bind hL ?_
  cases allN (fun j=>cellB (gt l.Ap j)) l.Ap.length
  · exact .done
  · simp only [cond_true,jz,show decide ((l.Ap.length:Int)≤8)=decide (l.Ap.length≤8) from qnD (k:=8)]
    exact Ev.andP fun _=>Ev.last (qjS (qnu h.Ap (fun x hx=>hx.Az)))
end Go.Fw


namespace Go.Fw
open Go
set_option maxRecDepth 100000
theorem quX {c:qw} (h:cellB c=true):nameB c.Az=true:=by
 unfold cellB at h;rw [jf] at h;exact h.1
theorem qi6 {c:qw} (h:cellB c=true):pinsB c.Au=true:=by
 unfold cellB at h;simp only [jf] at h;exact h.2.1
theorem qry {l:qr} (h:qih l):Ev (fun n=>qiP n l) (libB l):=by
 have hl:=h.Ap.len
 have hL2:∀ j,j<l.Ap.length→Ev (fun n=>qdL l (j:Int) n 0) (bif allN (neB (l.Ap.map qw.Az) j) j then .nxt (j:Int) else .ret false):=by
  intro j hj
  refine qd8 ?_ (fun i hi X hX=>Ev.succ ?_)
  ·exact Ev.succ (by simp only [qdL,ql (je _),cond_false];exact .done)
  ·simp only [qdL,qj hi,cond_true,qC (show i<l.Ap.length by omega),qC hj,jd,qhS,wS i]
   unfold neB
   rw [qkr (g:=qw.Az) (show i<l.Ap.length by omega),qkr (g:=qw.Az) hj]
   exact Ev.chkP1 (fun _=>hX)
 have hL1:Ev (fun n=>qdA l n 0) (bif allN (fun j=>cellB (gt l.Ap j)&&allN (neB (l.Ap.map qw.Az) j) j) l.Ap.length then .nxt (l.Ap.length:Int) else .ret false):=by
  refine qd8 ?_ (fun j hj X hX=>Ev.succ ?_)
  ·exact Ev.succ (by simp only [qdA,ql (je _),cond_false];exact .done)
  ·simp only [qdA,qj hj,cond_true,qC hj,jd,wS j]
   refine Ev.chk (quE (qm7 h.Ap hj)) fun _=>Ev.bind (hL2 j hj) ?_
   cases allN (neB (l.Ap.map qw.Az) j) j
   ·exact .done
   ·exact hX
 have e:libB l=(allN (fun j=>cellB (gt l.Ap j)&&allN (neB (l.Ap.map qw.Az) j) j) l.Ap.length&&decide (l.Ap.length≤8)):=by
  unfold libB namesB
  rw [qiV,jx,Bool.and_comm (decide (l.Ap.length≤8)),←Bool.and_assoc,←qlI]
  congr 1
  refine qh8 (fun j hj=>?_)
  rw [qkr (g:=qw.Az) hj]
  cases hc:cellB (gt l.Ap j)
  ·rfl
  ·rw [quX hc];rfl
 rw [e]
 unfold qiP
 refine Ev.bind hL1 ?_
 cases allN (fun j=>cellB (gt l.Ap j)&&allN (neB (l.Ap.map qw.Az) j) j) l.Ap.length
 ·exact .done
 ·refine Ev.now ?_
  show some (decide ((l.Ap.length:Int)≤((8:Nat):Int)))=some (true&&decide (l.Ap.length≤8))
  rw [qnD,jz]
theorem qlV {c c':Nat→Nat} {m:Nat} {x:Int} (h0:0≤x) (h1:x<m) (hc:c x.toNat<9223372036854775807) (he:∀ k,k<m→c' k=c k+(bif x==(k:Int) then 1 else 0)) :
  idx (vecC c m) x=some (c x.toNat:Int)∧setS (vecC c m) x (W64 ((c x.toNat:Int)+1))=vecC c' m:=by
 have ex:x=(x.toNat:Int):=qhd h0
 have e1:=qkF (c:=c) (m:=m) (k:=x.toNat) (by omega)
 have e2:=qr4 (c:=c) (m:=m) (k:=x.toNat) hc
 rw [←ex] at e1 e2
 refine ⟨e1,e2.trans (qkA (fun k hk=>?_))⟩
 rw [he k hk]
 congr 2
 rw [jk];simp;omega
def netB (d:qf) (x:Int):Bool:=inI x 0 ((d.Ai.length:Int)-1)
theorem qtX {n:Nat} {d:qf} {x:Int} (hl:d.Ai.length≤1048576):qdB n d x=some (netB d x):=by
 simp only [qdB,qh9,jd,qdE,qe6 (show d.Ai.length≤9223372036854775807 by omega)];rfl
theorem qrW {n:Nat} {d:qf} {x:Int} (hl:d.Ai.length≤1048576):qay n x 0 (W64 ((d.Ai.length:Int)-1))=some (netB d x):=by
 rw [qcK,qe6 (show d.Ai.length≤9223372036854775807 by omega)];rfl
def hasNamesB (d:qf):Bool:=(decide (d.Ab.length≤14)&&(decide (d.Ai.length≤30)&&decide (d.Ah.length≤8)))&&(namesB (d.Ab.map qi.Az)&&(namesB d.Ai&&namesB (d.Ah.map qP.Az)))
theorem qtW {d:qf} (h:qks d):Ev (fun n=>qfk n d) (hasNamesB d):=by
 have hli:=h.Ab.len
 have hlp:=h.Ah.len
 have hL1:Ev (fun n=>qbh d n ([]:List ByteArray) 0) (d.Ab.map qi.Az,(d.Ab.length:Int)):=by
  refine loopF (Lf:=qbh d) (S:=fun j=>(d.Ab.take j).map qi.Az) (len:=d.Ab.length) (fun n=>?_) (fun j hj X hX=>?_)
  ·simp only [qbh,ql (je _),cond_false,jF]
  ·simpa only [qbh,qj hj,cond_true,qC hj,jd,qlJ hj hli,qf2 (g:=qi.Az) hj,wS j] using hX
 have hL2:Ev (fun n=>qbn d n ([]:List ByteArray) 0) (d.Ah.map qP.Az,(d.Ah.length:Int)):=by
  refine loopF (Lf:=qbn d) (S:=fun j=>(d.Ah.take j).map qP.Az) (len:=d.Ah.length) (fun n=>?_) (fun j hj X hX=>?_)
  ·simp only [qbn,ql (je _),cond_false,jF]
  ·simpa only [qbn,qj hj,cond_true,qC hj,jd,qlJ hj hlp,qf2 (g:=qP.Az) hj,wS j] using hX
 unfold qfk hasNamesB
 refine Ev.bind hL1 (Ev.bind hL2 ?_)
 simp only [jx]
 rw [show decide ((d.Ab.length:Int)≤14)=decide (d.Ab.length≤14) from qnD (k:=14),show decide ((d.Ai.length:Int)≤30)=decide (d.Ai.length≤30) from qnD (k:=30),show decide ((d.Ah.length:Int)≤8)=decide (d.Ah.length≤8) from qnD (k:=8)]
 rw [Bool.and_assoc,Bool.and_assoc]
 exact Ev.andP fun _=>Ev.andP fun _=>Ev.andP fun _=>Ev.and (qjS (qnu h.Ab (fun x hx=>hx.Az))) fun _=>Ev.and (qjS h.Ai) fun _=>Ev.last (qjS (qnu h.Ah (fun x hx=>hx.Az)))
def instB (l:qr) (d:qf) (x:qi):Bool:=inI x.Bp 0 ((l.Ap.length:Int)-1)&&(((x.Ai.length:Int)==((gt l.Ap x.Bp.toNat).Au.length:Int))&&x.Ai.all (netB d))
theorem qrz {d:qf} {l:qr} {x:qi} (hn:d.Ai.length≤1048576) (hc:l.Ap.length≤1048576) (hx:x.Ai.length≤1048576):Ev (fun n=>qeb n d l x) (instB l d x):=by
 simp only [qeb,qgJ,jd,qdE,qe6 (show l.Ap.length≤9223372036854775807 by omega)]
 unfold instB
 refine Ev.andP fun hI=>?_
 rw [qbt] at hI
 rw [qfI hI.1 (by omega)]
 simp only [jd]
 refine Ev.andP fun _=>Ev.bind (b:=x.Ai.any fun y=>!netB d y) ?_ (Ev.now (by rw [qqt]))
 unfold qaT
 exact Ev.bind (b:=ixL (fun y=>!netB d y) x.Ai) (qgx (fin:=(x.Ai.length:Int)) (Lf:=qL x.Ai d) (pf:=fun n y=>qdp n y d) (fun y _=>⟨0,fun n _=>by simp only [qdp,qtX hn,jd]⟩)
   (fun n=>by simp only [qL,ql (je _),cond_false])
   (fun n j y hx=>by
    have hj:=(List.getElem?_eq_some_iff.1 hx).1
    simp only [qL,qj hj,cond_true,qM hx,jd,wS j])
   (fun n=>by unfold qa8;congr 1;funext o;cases o<;>rfl)) (Ev.now (by rw [qn1]))
def portB (d:qf) (p:qP):Bool:=inI p.Br 1 2&&netB d p.Bt
theorem qza {x:Int}:inI x 1 2=((x==1) || (x==2)):=by
 unfold inI;rw [jk];simp;omega
def lastN (x:qi):Int:=at0 x.Ai (x.Ai.length-1)
theorem qtJ {x:qi} (h1:1≤x.Ai.length) (h2:x.Ai.length≤1048576):idx x.Ai (W64 ((x.Ai.length:Int)-1))=some (lastN x):=by
 rw [qe6 (by omega),show ((x.Ai.length:Int)-1)=((x.Ai.length-1:Nat):Int) by omega,qar (by omega)];rfl
theorem qvB {d:qf} {x:qi} (h1:1≤x.Ai.length) (h:x.Ai.all (netB d)=true):0≤lastN x∧lastN x<d.Ai.length:=by
 rw [qg4 (d:=0),qav] at h
 have:=h (x.Ai.length-1) (by omega)
 unfold netB at this
 rw [qbt] at this
 unfold lastN at0
 omega
theorem qrj {l:qr} {d:qf} {x:qi} (hl:libB l=true) (h:instB l d x=true):1≤x.Ai.length∧0≤lastN x∧lastN x<d.Ai.length:=by
 unfold instB at h
 simp only [jf,qbt,beq_iff_eq] at h
 obtain ⟨h1,h2,h3⟩:=h
 unfold libB at hl
 simp only [jf] at hl
 have hc:=hl.1
 rw [qiV,qav] at hc
 have:=qg2 (qi6 (hc x.Bp.toNat (by omega)))
 have h4:1≤x.Ai.length:=by omega
 exact ⟨h4,qvB h4 h3⟩
def drvI (d:qf) (k j:Nat):Nat:=cntP (fun i=>lastN (gt d.Ab i)==(k:Int)) j
def drvP (d:qf) (k j:Nat):Nat:=cntP (fun i=>((gt d.Ah i).Br==1)&&((gt d.Ah i).Bt==(k:Int))) j
def drvB (d:qf):Bool:=allN (fun k=>((drvI d k d.Ab.length+drvP d k d.Ah.length:Nat):Int)==1) d.Ai.length
def designB (l:qr) (d:qf):Bool:=(libB l&&hasNamesB d)&&(d.Ab.all (instB l d)&&(d.Ah.all (portB d)&&drvB d))
theorem qpm {d:qf} {k j:Nat}:drvI d k (j+1)=drvI d k j+(bif lastN (gt d.Ab j)==(k:Int) then 1 else 0):=rfl
theorem qnz {d:qf} {k j:Nat}:drvP d k (j+1)=drvP d k j+(bif ((gt d.Ah j).Br==1)&&((gt d.Ah j).Bt==(k:Int)) then 1 else 0):=rfl
theorem qtP {l:qr} {d:qf} (h:qih l) (hd:qks d):Ev (fun n=>qjk n l d) (designB l d):=by
 have hli:=hd.Ab.len
 have hlp:=hd.Ah.len
 have hln:=hd.Ai.len
 have hlc:=h.Ap.len
 unfold qjk designB
 refine Ev.guardB (Ev.or (qsE h) fun _=>Ev.neg (qtW hd)) fun hb=>?_
 rw [jf] at hb
 rw [qnC (m:=d.Ai.length) (by omega)]
 simp only [jd]
 have hL1:Ev (fun n=>qdk l d n (vecC (fun _=>0) d.Ai.length) 0) (bif allN (fun j=>instB l d (gt d.Ab j)) d.Ab.length then .nxt (vecC (fun k=>drvI d k d.Ab.length) d.Ai.length,(d.Ab.length:Int)) else .ret false):=by
  refine loopN (Lf:=qdk l d) (S:=fun j=>vecC (fun k=>drvI d k j) d.Ai.length) (fun j=>instB l d (gt d.Ab j)) (fun n=>?_) (fun j hj hp X hX=>?_)
  ·simp only [qdk,ql (je _),cond_false]
  ·simp only [qdk,qj hj,cond_true,qC hj,jd,wS j]
   have hxl:=(qm7 hd.Ab hj).Ai.len
   refine Ev.chk1 (qrz hln hlc hxl) fun hi=>?_
   obtain ⟨h1,h2,h3⟩:=qrj hb.1 hi
   have hc:drvI d (lastN (gt d.Ab j)).toNat j≤j:=qf0
   obtain ⟨e1,e2⟩:=qlV (c:=fun k=>drvI d k j) (c':=fun k=>drvI d k (j+1)) h2 h3 (by show drvI _ _ _<_;omega) (fun k _=>qpm)
   simp only [qtJ h1 hxl,jd,e1,e2]
   exact hX hi
 have hL2:Ev (fun n=>qcr d n (vecC (fun k=>drvI d k d.Ab.length) d.Ai.length) 0) (bif allN (fun j=>portB d (gt d.Ah j)) d.Ah.length then .nxt (vecC (fun k=>drvI d k d.Ab.length+drvP d k d.Ah.length) d.Ai.length,(d.Ah.length:Int)) else .ret false):=by
  refine loopN (Lf:=qcr d) (S:=fun j=>vecC (fun k=>drvI d k d.Ab.length+drvP d k j) d.Ai.length) (fun j=>portB d (gt d.Ah j)) (fun n=>?_) (fun j hj hp X hX=>?_)
  ·simp only [qcr,ql (je _),cond_false]
  ·simp only [qcr,qj hj,cond_true,qC hj,jd,qtX hln,bne,wS j]
   refine Ev.chkT1 ?_ fun hi=>?_
   ·unfold portB
    rw [qza]
    cases ((gt d.Ah j).Br==1)<;>cases ((gt d.Ah j).Br==2)<;>exact .done
   ·have hX:=hX hi
    unfold portB netB at hi
    simp only [jf,qbt] at hi
    have hc1:drvI d (gt d.Ah j).Bt.toNat d.Ab.length≤d.Ab.length:=qf0
    have hc2:drvP d (gt d.Ah j).Bt.toNat j≤j:=qf0
    cases h1:((gt d.Ah j).Br==1)
    ·have:vecC (fun k=>drvI d k d.Ab.length+drvP d k (j+1)) d.Ai.length=vecC (fun k=>drvI d k d.Ab.length+drvP d k j) d.Ai.length:=by
      refine qkA (fun k _=>?_)
      rw [qnz,h1];rfl
     rw [this] at hX
     exact hX
    ·obtain ⟨e1,e2⟩:=qlV (c:=fun k=>drvI d k d.Ab.length+drvP d k j) (c':=fun k=>drvI d k d.Ab.length+drvP d k (j+1)) (x:=(gt d.Ah j).Bt) (m:=d.Ai.length) hi.2.1 (by omega) (by show drvI _ _ _+drvP _ _ _<_;omega) (fun k _=>by rw [qnz,h1,jz];omega)
     simp only [cond_true,jd,e1,e2]
     exact hX
 rw [qiV,qiV]
 refine Ev.bind hL1 ?_
 cases allN (fun j=>instB l d (gt d.Ab j)) d.Ab.length
 ·exact .done
 ·refine Ev.bind hL2 ?_
  cases allN (fun j=>portB d (gt d.Ah j)) d.Ah.length
  ·exact .done
  ·simp only [cond_true,jz]
   unfold qbO
   refine Ev.bind (b:=(vecC (fun k=>drvI d k d.Ab.length+drvP d k d.Ah.length) d.Ai.length).any fun x=>!(x==1)) (Ev.bind (b:=ixL (fun x=>!(x==1)) (vecC (fun k=>drvI d k d.Ab.length+drvP d k d.Ah.length) d.Ai.length)) (qgx (fin:=(((vecC (fun k=>drvI d k d.Ab.length+drvP d k d.Ah.length) d.Ai.length).length:Nat):Int)) (Lf:=qan (vecC (fun k=>drvI d k d.Ab.length+drvP d k d.Ah.length) d.Ai.length)) (pf:=fun n y=>qj3 n y) (fun y _=>.done)
    (fun n=>by simp only [qan,ql (je _),cond_false])
    (fun n j y hx=>by
     have hj:=(List.getElem?_eq_some_iff.1 hx).1
     have:j<d.Ai.length:=by rw [qne] at hj;exact hj
     simp only [qan,qj hj,cond_true,qM hx,jd,wS j])
    (fun n=>by unfold qb1;congr 1;funext o;cases o<;>rfl)) (Ev.now (by rw [qn1]))) (Ev.now ?_)
   rw [qqt,qg4 (d:=0),qne]
   unfold drvB
   congr 1
   exact qh8 (fun k hk=>by
    have:=qtj (c:=fun k=>drvI d k d.Ab.length+drvP d k d.Ah.length) hk
    unfold at0 at this
    rw [this])
theorem qtA {l:qr} {d:qf} (h:qih l) (hd:qks d):Ev (fun n=>qjl n l d) (d.Ab.all (instB l d)&&d.Ah.all (portB d)):=by
 have hli:=hd.Ab.len
 have hlp:=hd.Ah.len
 have hln:=hd.Ai.len
 have hlc:=h.Ap.len
 have hL2:∀ x:qi,x.Ai.length≤1048576→Ev (fun n=>qeu d x n 0) (bif x.Ai.all (netB d) then .nxt (x.Ai.length:Int) else .ret false):=fun x hx =>
  qoL (fun n=>by simp only [qeu,ql (je _),cond_false]) (fun j hj X hX=>by
   simp only [qeu,qj hj,cond_true,qge hj,jd,qrW hln,wS j,qda]
   exact Ev.okP1 fun _=>hX)
 have hL1:Ev (fun n=>qen l d n 0) (bif allN (fun j=>instB l d (gt d.Ab j)) d.Ab.length then .nxt (d.Ab.length:Int) else .ret false):=by
  refine qd8 ?_ (fun j hj X hX=>Ev.succ ?_)
  ·exact Ev.succ (by simp only [qen,ql (je _),cond_false];exact .done)
  ·simp only [qen,qj hj,cond_true,qC hj,jd,qcK,qe6 (show l.Ap.length≤9223372036854775807 by omega),wS j,bne]
   have hxl:=(qm7 hd.Ab hj).Ai.len
   unfold instB
   rw [←Bool.and_assoc]
   refine Ev.chkT ?_ fun _=>Ev.bind (hL2 _ hxl) ?_
   ·simp only [qda]
    refine Ev.orBP fun hI=>?_
    rw [qbt] at hI
    rw [qfI hI.1 (by omega)]
    exact .done
   ·cases (gt d.Ab j).Ai.all (netB d)
    ·exact .done
    ·exact hX
 have hL3:Ev (fun n=>qet d n 0) (bif allN (fun j=>portB d (gt d.Ah j)) d.Ah.length then .nxt (d.Ah.length:Int) else .ret false):=by
  refine qd8 ?_ (fun j hj X hX=>Ev.succ ?_)
  ·exact Ev.succ (by simp only [qet,ql (je _),cond_false];exact .done)
  ·simp only [qet,qj hj,cond_true,qC hj,jd,qrW hln,wS j]
   simp only [qcK,jd,qda]
   unfold portB
   exact Ev.okP fun _=>Ev.okP1 fun _=>hX
 unfold qjl
 rw [qiV,qiV]
 refine Ev.bind hL1 ?_
 cases allN (fun j=>instB l d (gt d.Ab j)) d.Ab.length
 ·exact .done
 ·refine Ev.bind hL3 ?_
  cases allN (fun j=>portB d (gt d.Ah j)) d.Ah.length<;>exact .done
theorem qsp {l:qr} {d:qf} (h:qih l) (hd:qks d):Ev (fun n=>qju n l d) (designB l d):=by
 have hli:=hd.Ab.len
 have hlp:=hd.Ah.len
 have hln:=hd.Ai.len
 have hlc:=h.Ap.len
 have e:designB l d=((libB l&&(decide (d.Ab.length≤14)&&(decide (d.Ai.length≤30)&&(decide (d.Ah.length≤8)&&(d.Ab.all (instB l d)&&d.Ah.all (portB d))))))&&((namesB (d.Ab.map qi.Az)&&(namesB (d.Ah.map qP.Az)&&namesB d.Ai))&&drvB d)):=by
  unfold designB hasNamesB
  generalize libB l=a1
  generalize decide (d.Ab.length≤14)=a2
  generalize decide (d.Ai.length≤30)=a3
  generalize decide (d.Ah.length≤8)=a4
  generalize d.Ab.all (instB l d)=a5
  generalize d.Ah.all (portB d)=a6
  generalize namesB (d.Ab.map qi.Az)=a7
  generalize namesB (d.Ah.map qP.Az)=a8
  generalize namesB d.Ai=a9
  generalize drvB d=a10
  rw [jk]
  simp only [jf]
  constructor
  ·rintro ⟨⟨h1,⟨h2,h3,h4⟩,h7,h9,h8⟩,h5,h6,h10⟩
   exact ⟨⟨h1,h2,h3,h4,h5,h6⟩,⟨h7,h8,h9⟩,h10⟩
  ·rintro ⟨⟨h1,h2,h3,h4,h5,h6⟩,⟨h7,h8,h9⟩,h10⟩
   exact ⟨⟨h1,⟨h2,h3,h4⟩,h7,h9,h8⟩,h5,h6,h10⟩
 rw [e]
 unfold qju
 refine Ev.guardB ?_ fun hb=>?_
 ·refine Ev.or (qry h) fun _=>?_
  rw [show decide ((d.Ab.length:Int) > 14) = !decide (d.Ab.length≤14) by rw [jk];simp;omega,show decide ((d.Ai.length:Int) > 30) = !decide (d.Ai.length≤30) by rw [jk];simp;omega,show decide ((d.Ah.length:Int) > 8) = !decide (d.Ah.length≤8) by rw [jk];simp;omega]
  simp only [qda]
  exact Ev.orBP fun _=>Ev.orBP fun _=>Ev.orBP fun _=>Ev.neg (qtA h hd)
 ·simp only [jf] at hb
  obtain ⟨hlib,_,_,_,hI,hP⟩:=hb
  rw [qiV,qav] at hI hP
  have hL1:Ev (fun n=>qdg d n ([]:List ByteArray) 0) (d.Ab.map qi.Az,(d.Ab.length:Int)):=by
   refine loopF (Lf:=qdg d) (S:=fun j=>(d.Ab.take j).map qi.Az) (len:=d.Ab.length) (fun n=>?_) (fun j hj X hX=>?_)
   ·simp only [qdg,ql (je _),cond_false,jF]
   ·simpa only [qdg,qj hj,cond_true,qC hj,jd,qlJ hj hli,qf2 (g:=qi.Az) hj,wS j] using hX
  have hL2:Ev (fun n=>qdj d n ([]:List ByteArray) 0) (d.Ah.map qP.Az,(d.Ah.length:Int)):=by
   refine loopF (Lf:=qdj d) (S:=fun j=>(d.Ah.take j).map qP.Az) (len:=d.Ah.length) (fun n=>?_) (fun j hj X hX=>?_)
   ·simp only [qdj,ql (je _),cond_false,jF]
   ·simpa only [qdj,qj hj,cond_true,qC hj,jd,qlJ hj hlp,qf2 (g:=qP.Az) hj,wS j] using hX
  have hL3:Ev (fun n=>qdm d n (vecC (fun _=>0) d.Ai.length) 0) (vecC (fun k=>drvI d k d.Ab.length) d.Ai.length,(d.Ab.length:Int)):=by
   refine loopF (Lf:=qdm d) (S:=fun j=>vecC (fun k=>drvI d k j) d.Ai.length) (len:=d.Ab.length) (fun n=>?_) (fun j hj X hX=>?_)
   ·simp only [qdm,ql (je _),cond_false]
   ·have hxl:=(qm7 hd.Ab hj).Ai.len
    obtain ⟨h1,h2,h3⟩:=qrj hlib (hI j hj)
    have hc:drvI d (lastN (gt d.Ab j)).toNat j≤j:=qf0
    obtain ⟨e1,e2⟩:=qlV (c:=fun k=>drvI d k j) (c':=fun k=>drvI d k (j+1)) h2 h3 (by show drvI _ _ _<_;omega) (fun k _=>qpm)
    simpa only [qdm,qj hj,cond_true,qC hj,jd,wS j,qtJ h1 hxl,e1,e2] using hX
  have hL4:Ev (fun n=>qcw d n (vecC (fun k=>drvI d k d.Ab.length) d.Ai.length) 0) (vecC (fun k=>drvI d k d.Ab.length+drvP d k d.Ah.length) d.Ai.length,(d.Ah.length:Int)):=by
   refine loopF (Lf:=qcw d) (S:=fun j=>vecC (fun k=>drvI d k d.Ab.length+drvP d k j) d.Ai.length) (len:=d.Ah.length) (fun n=>?_) (fun j hj X hX=>?_)
   ·simp only [qcw,ql (je _),cond_false]
   ·have hi:=hP j hj
    unfold portB netB at hi
    simp only [jf,qbt] at hi
    have hc1:drvI d (gt d.Ah j).Bt.toNat d.Ab.length≤d.Ab.length:=qf0
    have hc2:drvP d (gt d.Ah j).Bt.toNat j≤j:=qf0
    simp only [qcw,qj hj,cond_true,qC hj,jd,wS j]
    cases h1:((gt d.Ah j).Br==1)
    ·have:vecC (fun k=>drvI d k d.Ab.length+drvP d k (j+1)) d.Ai.length=vecC (fun k=>drvI d k d.Ab.length+drvP d k j) d.Ai.length:=by
      refine qkA (fun k _=>?_)
      rw [qnz,h1];rfl
     rw [this] at hX
     exact hX
    ·obtain ⟨e1,e2⟩:=qlV (c:=fun k=>drvI d k d.Ab.length+drvP d k j) (c':=fun k=>drvI d k d.Ab.length+drvP d k (j+1)) (x:=(gt d.Ah j).Bt) (m:=d.Ai.length) hi.2.1 (by omega) (by show drvI _ _ _+drvP _ _ _<_;omega) (fun k _=>by rw [qnz,h1,jz];omega)
     simp only [cond_true,jd,e1,e2]
     exact hX
  have hL5:Ev (fun n=>qex (vecC (fun _=>0) d.Ai.length) (vecC (fun k=>drvI d k d.Ab.length+drvP d k d.Ah.length) d.Ai.length) n 0) (bif drvB d then .nxt (d.Ai.length:Int) else .ret false):=by
   refine qd8 ?_ (fun j hj X hX=>Ev.succ ?_)
   ·exact Ev.succ (by simp only [qex,qne,ql (je _),cond_false];exact .done)
   ·simp only [qex,qne,qj hj,cond_true,qkF hj,jd,bne,qda,wS j]
    exact Ev.okP1 fun _=>hX
  refine Ev.bind hL1 (Ev.bind hL2 ?_)
  refine Ev.guardB (Ev.or (qm1 (qnu hd.Ab (fun x hx=>hx.Az))) fun _=>Ev.or (qm1 (qnu hd.Ah (fun x hx=>hx.Az))) fun _=>Ev.neg (qm1 hd.Ai)) fun _=>?_
  rw [qnC (m:=d.Ai.length) (by omega)]
  simp only [jd]
  refine Ev.bind hL3 (Ev.bind hL4 (Ev.bind hL5 ?_))
  cases drvB d<;>exact .done
end Go.Fw


namespace Go.Fw
open Go
set_option maxRecDepth 100000
theorem qxT {m k:Nat}:decide ((m:Int)<(k:Int)) = !decide (k≤m):=by rw [jk];simp
theorem qx0 {m k:Nat}:decide ((m:Int) > (k:Int)) = !decide (m≤k):=by rw [jk];simp
def treeB (w:qE) (j:Nat):Bool:=bif decide (j=0) then (at0 w.Ak j==-1)&&(at0 w.Bs j==0) else inI (at0 w.Ak j) 0 ((j:Int)-1)
def wireB (w:qE) (s:Int):Bool :=
 lenB w.Ak 1 8&&(((w.Bs.length:Int)==(w.Ak.length:Int))&&(((w.Bo.length:Int)==(w.Ak.length:Int))&&(allN (treeB w) w.Ak.length &&
  ((w.Bs.all fun x=>inI x 0 1000)&&((w.Bo.all fun x=>inI x 0 500)&&(((w.Bh.length:Int)==s)&&(w.Bh.all fun x=>inI x 0 ((w.Ak.length:Int)-1))))))))
theorem qv4 {w:qE} (hl:w.Ak.length≤1048576) (hr:((w.Bs.length:Int)==(w.Ak.length:Int))=true):Ev (fun n=>qht n w) (allN (treeB w) w.Ak.length):=by
 rw [beq_iff_eq] at hr
 have hL:Ev (fun n=>qbf w n 0) (bif allN (treeB w) w.Ak.length then .nxt (w.Ak.length:Int) else .ret false):=by
  refine qd8 ?_ (fun j hj X hX=>Ev.succ ?_)
  ·exact Ev.succ (by simp only [qbf,ql (je _),cond_false];exact .done)
  ·simp only [qbf,qj hj,cond_true,qar hj,jd,qdE,wS j,bne,qda]
   unfold treeB
   by_cases h0:j=0
   ·subst h0
    rw [show idx w.Bs (0:Int)=some (at0 w.Bs 0) from qar (j:=0) (by omega)]
    simp only [jd]
    refine Ev.tt (by simp) (Ev.okP fun _=>Ev.okP1 fun _=>Ev.ff (by simp) hX)
   ·have e1:decide (j=0)=false:=by simp;omega
    have e2:((j:Int)==0)=false:=by simp;omega
    have e3:decide ((j:Int) > 0)=true:=by simp;omega
    rw [e1,e2,e3,qe6 (show j≤9223372036854775807 by omega)]
    simp only [cond_false,cond_true]
    exact Ev.okP1 fun _=>hX
 unfold qht
 refine Ev.bind hL ?_
 cases allN (treeB w) w.Ak.length<;>exact .done
theorem qv7 {w:qE} {s:Int} (h:qol w):Ev (fun n=>qlm n w s) (wireB w s):=by
 have hl:=h.Ak.len
 simp only [qlm,qbv,jd,qdE,qe6 (show w.Ak.length≤9223372036854775807 by omega)]
 unfold wireB
 rw [show inI (w.Ak.length:Int) 1 8=lenB w.Ak 1 8 from qs9 (lo:=1) (hi:=8)]
 exact Ev.andP fun _=>Ev.andP fun hr=>Ev.andP fun _=>Ev.and (qv4 hl hr) fun _=>Ev.and (qfc h.Bs.len) fun _=>Ev.and (qfc h.Bo.len) fun _=>Ev.andP fun _=>Ev.last (qfc h.Bh.len)
theorem quz {w:qE} {s:Int} (h:qol w):Ev (fun n=>qlr n w s) (wireB w s):=by
 have hl:=h.Ak.len
 have hsl:=h.Bh.len
 have e:wireB w s=((decide (1≤w.Ak.length)&&(decide (w.Ak.length≤8)&&(((w.Bs.length:Int)==(w.Ak.length:Int))&&(((w.Bo.length:Int)==(w.Ak.length:Int))&&((w.Bh.length:Int)==s)))))&&(allN (fun j=>(inI (at0 w.Bo j) 0 500&&inI (at0 w.Bs j) 0 1000)&&treeB w j) w.Ak.length&&(w.Bh.all fun x=>inI x 0 ((w.Ak.length:Int)-1)))):=by
  unfold wireB lenB
  cases h1:((w.Bs.length:Int)==(w.Ak.length:Int))
  ·simp
  ·cases h2:((w.Bo.length:Int)==(w.Ak.length:Int))
   ·simp
   ·rw [beq_iff_eq] at h1 h2
    rw [qlI,qlI]
    rw [qg4 (p:=fun x=>inI x 0 1000) (d:=0),qg4 (p:=fun x=>inI x 0 500) (d:=0),show w.Bs.length=w.Ak.length by omega,show w.Bo.length=w.Ak.length by omega]
    show _=(_&&((allN (fun j=>inI (w.Bo.getD j 0) 0 500) _&&allN (fun j=>inI (w.Bs.getD j 0) 0 1000) _&&_)&&_))
    generalize allN (fun j=>inI (w.Bo.getD j 0) 0 500) w.Ak.length=a1
    generalize allN (fun j=>inI (w.Bs.getD j 0) 0 1000) w.Ak.length=a2
    generalize allN (fun j=>treeB w j) w.Ak.length=a3
    generalize ((w.Bh.length:Int)==s)=a4
    generalize decide (1≤w.Ak.length)=a5
    generalize decide (w.Ak.length≤8)=a6
    generalize (w.Bh.all fun x=>inI x 0 ((w.Ak.length:Int)-1))=a7
    cases a1<;>cases a2<;>cases a3<;>cases a4<;>cases a5<;>cases a6<;>rfl
 rw [e]
 unfold qlr
 refine Ev.guardB ?_ fun hb=>?_
 ·rw [show decide ((w.Ak.length:Int)<1) = !decide (1≤w.Ak.length) from qxT (k:=1),show decide ((w.Ak.length:Int) > 8) = !decide (w.Ak.length≤8) from qx0 (k:=8)]
  simp only [bne,qda]
  exact Ev.orBP fun _=>Ev.orBP fun _=>Ev.orBP fun _=>Ev.orBP fun _=>.done
 ·simp only [jf,beq_iff_eq] at hb
  have hL1:Ev (fun n=>qcC w n 0) (bif allN (fun j=>(inI (at0 w.Bo j) 0 500&&inI (at0 w.Bs j) 0 1000)&&treeB w j) w.Ak.length then .nxt (w.Ak.length:Int) else .ret false):=by
   refine qd8 ?_ (fun j hj X hX=>Ev.succ ?_)
   ·exact Ev.succ (by simp only [qcC,ql (je _),cond_false];exact .done)
   ·simp only [qcC,qj hj,cond_true,qar hj,qar (show j<w.Bo.length by omega),qar (show j<w.Bs.length by omega),jd,qcK,wS j,bne,qda]
    refine Ev.chkT (Ev.orBP fun _=>.done) fun _=>?_
    unfold treeB
    by_cases h0:j=0
    ·subst h0
     refine Ev.tt (by simp) (Ev.okP fun _=>Ev.okP1 fun _=>Ev.ff (by simp) hX)
    ·have e1:decide (j=0)=false:=by simp;omega
     have e2:((j:Int)==0)=false:=by simp;omega
     have e3:decide ((j:Int) > 0)=true:=by simp;omega
     rw [e1,e2,e3,qe6 (show j≤9223372036854775807 by omega)]
     simp only [cond_false,cond_true]
     exact Ev.okP1 fun _=>hX
  have hL2:Ev (fun n=>qfH w n 0) (bif (w.Bh.all fun x=>inI x 0 ((w.Ak.length:Int)-1)) then .nxt (w.Bh.length:Int) else .ret false) :=
   qoL (fun n=>by simp only [qfH,ql (je _),cond_false]) (fun j hj X hX=>by
    simp only [qfH,qj hj,cond_true,qge hj,jd,qcK,qe6 (show w.Ak.length≤9223372036854775807 by omega),wS j,qda]
    exact Ev.okP1 fun _=>hX)
  refine Ev.bind hL1 ?_
  cases allN (fun j=>(inI (at0 w.Bo j) 0 500&&inI (at0 w.Bs j) 0 1000)&&treeB w j) w.Ak.length
  ·exact .done
  ·refine Ev.bind hL2 ?_
   cases (w.Bh.all fun x=>inI x 0 ((w.Ak.length:Int)-1))<;>exact .done
instance:Inhabited Tplace:=⟨⟨0,0,0,false⟩⟩
instance:Inhabited Tl05Place:=⟨⟨0,0,0,false⟩⟩
def toSp (p:Tplace):Tl05Place:=⟨p.instance_,p.pin,p.net,p.drives⟩
def plX (i:Nat) (x:qi) (j:Nat):List Tplace:=(List.range j).map fun (k:Nat)=>⟨(i:Int),(k:Int),at0 x.Ai k,decide (k+1=x.Ai.length)⟩
def plI (d:qf) (j:Nat):List Tplace:=(List.range j).flatMap fun (i:Nat)=>plX i (gt d.Ab i) (gt d.Ab i).Ai.length
def plP (d:qf) (j:Nat):List Tplace:=(List.range j).map fun (i:Nat)=>⟨-1,(i:Int),(gt d.Ah i).Bt,(gt d.Ah i).Br==1⟩
def places (d:qf):List Tplace:=plI d d.Ab.length++plP d d.Ah.length
theorem qto {i:Nat} {x:qi} {j:Nat}:plX i x (j+1)=plX i x j++[⟨(i:Int),(j:Int),at0 x.Ai j,decide (j+1=x.Ai.length)⟩]:=by
 unfold plX;rw [Ja,jK];rfl
theorem qm2 {d:qf} {j:Nat}:plI d (j+1)=plI d j++plX j (gt d.Ab j) (gt d.Ab j).Ai.length:=by
 unfold plI;rw [Ja,List.flatMap_append];simp
theorem qtK {d:qf} {j:Nat}:plP d (j+1)=plP d j++[⟨-1,(j:Int),(gt d.Ah j).Bt,(gt d.Ah j).Br==1⟩]:=by
 unfold plP;rw [Ja,jK];rfl
theorem qqv {i:Nat} {x:qi} {j:Nat}:(plX i x j).length=j:=by simp [plX]
theorem qqs {d:qf} {j:Nat}:(plP d j).length=j:=by simp [plP]
structure smallD (d:qf):Prop where
 ni:d.Ab.length≤14
 nn:d.Ai.length≤30
 np:d.Ah.length≤8
 nx:∀ i,i<d.Ab.length→2≤(gt d.Ab i).Ai.length∧(gt d.Ab i).Ai.length≤5
theorem qaf {l:qr} {d:qf} (h:designB l d=true):smallD d:=by
 unfold designB hasNamesB libB at h
 simp only [jf,decide_eq_true_eq] at h
 obtain ⟨⟨⟨hc,_⟩,⟨h1,h2,h3⟩,_⟩,hI,_⟩:=h
 refine ⟨h1,h2,h3,fun i hi=>?_⟩
 rw [qiV,qav] at hI hc
 have:=hI i hi
 unfold instB at this
 simp only [jf,qbt,beq_iff_eq] at this
 have h5:=qg2 (qi6 (hc (gt d.Ab i).Bp.toNat (by omega)))
 omega
theorem qoJ {d:qf} (h:smallD d) {j:Nat} (hj:j≤d.Ab.length):(plI d j).length≤5*j:=by
 induction j with
 | zero=>exact je _
 | succ j ih =>
  rw [qm2,jh,qqv]
  have:=ih (by omega)
  have:=h.nx j (by omega)
  omega
theorem qbj {d:qf} (h:smallD d):(places d).length≤78:=by
 unfold places
 rw [jh,qqs]
 have:=qoJ h (je _)
 have:=h.ni
 have:=h.np
 omega
theorem qnG {d:qf} (h:smallD d):Ev (fun n=>qcn n d) (places d):=by
 have h1:=h.ni
 have h2:=h.np
 have hL2:∀ i,i<d.Ab.length→∀ pre:List Tplace,pre.length≤100→Ev (fun n=>qbN (i:Int) (gt d.Ab i) n pre 0) (pre++plX i (gt d.Ab i) (gt d.Ab i).Ai.length,((gt d.Ab i).Ai.length:Int)):=by
  intro i hi pre hp
  have h5:=h.nx i hi
  have:=loopF (Lf:=qbN (i:Int) (gt d.Ab i)) (S:=fun j=>pre++plX i (gt d.Ab i) j) (len:=(gt d.Ab i).Ai.length) (fin:=(pre++plX i (gt d.Ab i) (gt d.Ab i).Ai.length,((gt d.Ab i).Ai.length:Int))) (fun n=>by
    simp only [qbN,ql (je _),cond_false])
   (fun j hj X hX=>by
    have hc:(pre++plX i (gt d.Ab i) j).length+[(⟨(i:Int),(j:Int),at0 (gt d.Ab i).Ai j,decide (j+1=(gt d.Ab i).Ai.length)⟩:Tplace)].length≤2147483648:=by
     rw [jh,qqv];simp;omega
    simp only [qbN,qj hj,cond_true,qar hj,jd,lastE hj (show (gt d.Ab i).Ai.length≤1048576 by omega),qc5 hc,jq,←qto,wS j]
    exact hX)
  simpa [plX] using this
 have hL1:Ev (fun n=>qbK d n ([]:List Tplace) 0) (plI d d.Ab.length,(d.Ab.length:Int)):=by
  refine loopF (Lf:=qbK d) (S:=fun j=>plI d j) (len:=d.Ab.length) (fun n=>?_) (fun j hj X hX=>?_)
  ·simp only [qbK,ql (je _),cond_false]
  ·simp only [qbK,qj hj,cond_true,qC hj,jd,wS j]
   refine Ev.bind (hL2 j hj _ (by have:=qoJ h (Nat.le_of_lt hj);omega)) ?_
   rw [←qm2]
   exact hX
 have hL3:Ev (fun n=>qbL d n (plI d d.Ab.length) 0) (places d,(d.Ah.length:Int)):=by
  have:=loopF (Lf:=qbL d) (S:=fun j=>plI d d.Ab.length++plP d j) (len:=d.Ah.length) (fin:=(places d,(d.Ah.length:Int))) (fun n=>by
    simp only [qbL,ql (je _),cond_false];rfl)
   (fun j hj X hX=>by
    have hc:(plI d d.Ab.length++plP d j).length+[(⟨-1,(j:Int),(gt d.Ah j).Bt,(gt d.Ah j).Br==1⟩:Tplace)].length≤2147483648:=by
     rw [jh,qqs];have:=qoJ h (je _);simp;omega
    simp only [qbL,qj hj,cond_true,qC hj,jd,qc5 hc,jq,←qtK,wS j]
    exact hX)
  simpa [plP] using this
 unfold qcn
 exact Ev.bind hL1 (Ev.bind hL3 .done)
theorem qig {d:qf} (h:smallD d):Ev (fun n=>qce n d) ((places d).map toSp):=by
 have h1:=h.ni
 have h2:=h.np
 have hL2:∀ i,i<d.Ab.length→∀ pre:List Tplace,pre.length≤100→Ev (fun n=>qcJ (i:Int) (gt d.Ab i) n (pre.map toSp) 0) ((pre++plX i (gt d.Ab i) (gt d.Ab i).Ai.length).map toSp,((gt d.Ab i).Ai.length:Int)):=by
  intro i hi pre hp
  have h5:=h.nx i hi
  have:=loopF (Lf:=qcJ (i:Int) (gt d.Ab i)) (S:=fun j=>(pre++plX i (gt d.Ab i) j).map toSp) (len:=(gt d.Ab i).Ai.length) (fin:=((pre++plX i (gt d.Ab i) (gt d.Ab i).Ai.length).map toSp,((gt d.Ab i).Ai.length:Int))) (fun n=>by
    simp only [qcJ,ql (je _),cond_false])
   (fun j hj X hX=>by
    have hc:((pre++plX i (gt d.Ab i) j).map toSp).length+[(⟨(i:Int),(j:Int),at0 (gt d.Ab i).Ai j,decide (j+1=(gt d.Ab i).Ai.length)⟩:Tl05Place)].length≤2147483648:=by
     rw [jx,jh,qqv];simp;omega
    simp only [qcJ,qj hj,cond_true,qar hj,jd,lastE hj (show (gt d.Ab i).Ai.length≤1048576 by omega),qc5 hc,wS j]
    rw [qto,←jq,jK] at hX
    exact hX)
  simpa [plX] using this
 have hL1:Ev (fun n=>qcL d n ([]:List Tl05Place) 0) ((plI d d.Ab.length).map toSp,(d.Ab.length:Int)):=by
  refine loopF (Lf:=qcL d) (S:=fun j=>(plI d j).map toSp) (len:=d.Ab.length) (fun n=>?_) (fun j hj X hX=>?_)
  ·simp only [qcL,ql (je _),cond_false]
  ·simp only [qcL,qj hj,cond_true,qC hj,jd,wS j]
   refine Ev.bind (hL2 j hj _ (by have:=qoJ h (Nat.le_of_lt hj);omega)) ?_
   rw [←qm2]
   exact hX
 have hL3:Ev (fun n=>qcN d n ((plI d d.Ab.length).map toSp) 0) ((places d).map toSp,(d.Ah.length:Int)):=by
  have:=loopF (Lf:=qcN d) (S:=fun j=>(plI d d.Ab.length++plP d j).map toSp) (len:=d.Ah.length) (fin:=((places d).map toSp,(d.Ah.length:Int))) (fun n=>by
    simp only [qcN,ql (je _),cond_false];rfl)
   (fun j hj X hX=>by
    have hc:((plI d d.Ab.length++plP d j).map toSp).length+[(⟨-1,(j:Int),(gt d.Ah j).Bt,(gt d.Ah j).Br==1⟩:Tl05Place)].length≤2147483648:=by
     rw [jx,jh,qqs];have:=qoJ h (je _);simp;omega
    simp only [qcN,qj hj,cond_true,qC hj,jd,qc5 hc,wS j]
    rw [qtK,←jq,jK] at hX
    exact hX)
  simpa [plP] using this
 unfold qce
 exact Ev.bind hL1 (Ev.bind hL3 .done)
def snkQ (d:qf) (k:Int) (i:Nat):Bool:=((gt (places d) i).net==k)&&!(gt (places d) i).drives
def sinksL (d:qf) (k:Int) (j:Nat):List Int:=((List.range j).filter (snkQ d k)).map fun (i:Nat)=>(i:Int)
def snkN (d:qf) (k:Int):Nat:=cntP (snkQ d k) (places d).length
theorem qjD {d:qf} {k:Int} {j:Nat}:sinksL d k (j+1)=sinksL d k j++(bif snkQ d k j then [(j:Int)] else []):=by
 unfold sinksL
 rw [Ja,List.filter_append,jK]
 congr 1
 cases h:snkQ d k j<;>simp [h]
theorem qja {d:qf} {k:Int} {j:Nat}:(sinksL d k j).length=cntP (snkQ d k) j:=by
 induction j with
 | zero=>rfl
 | succ j ih =>
  rw [qjD,jh,ih]
  show _=cntP (snkQ d k) j+_
  congr 1
  cases snkQ d k j<;>rfl
theorem qpu {α β:Type} [Inhabited α] [Inhabited β] {xs:List α} {g:α→β} {j:Nat} (h:j<xs.length):gt (xs.map g) j=g (gt xs j):=by
 rw [qfu (by simpa using h),qfu h];simp
theorem qnf {d:qf} {k:Int} (h:smallD d):Ev (fun n=>qgE n d k) (sinksL d k (places d).length):=by
 have hl:=qbj h
 have hL:Ev (fun n=>qcx k ((places d).map toSp) n ([]:List Int) 0) (sinksL d k (places d).length,((places d).length:Int)):=by
  refine loopF (Lf:=qcx k ((places d).map toSp)) (S:=fun j=>sinksL d k j) (len:=(places d).length) (fun n=>?_) (fun j hj X hX=>?_)
  ·simp only [qcx,jx,ql (je _),cond_false]
  ·have hj':j<((places d).map toSp).length:=by simpa using hj
   have hc:(sinksL d k j).length+[(j:Int)].length≤2147483648:=by
    rw [qja]
    have:cntP (snkQ d k) j≤j:=qf0
    simp;omega
   simp only [qcx,qj hj',cond_true,qC hj',qpu hj,jd,wS j]
   rw [show ∀ p:Tplace,(toSp p).net=p.net from fun _=>rfl,show ∀ p:Tplace,(toSp p).drives=p.drives from fun _=>rfl]
   refine Ev.bind (b:=snkQ d k j) (Ev.andP fun _=>.done) ?_
   rw [qjD] at hX
   cases hq:snkQ d k j
   ·rw [hq] at hX
    simp only [cond_false,jT] at hX ⊢
    exact hX
   ·rw [hq] at hX
    simp only [cond_true,qc5 hc,jd] at hX ⊢
    exact hX
 unfold qgE
 exact Ev.bind (qig h) (Ev.bind hL .done)
theorem ql7 {l:qr} {d:qf} (h:designB l d=true) {i:Nat} (hi:i<(places d).length):0≤(gt (places d) i).net∧(gt (places d) i).net<d.Ai.length:=by
 unfold designB at h
 simp only [jf] at h
 obtain ⟨_,hI,hP,_⟩:=h
 rw [qiV,qav] at hI hP
 have hm:gt (places d) i ∈ places d:=by rw [qfu hi];exact jp hi
 generalize gt (places d) i=p at hm
 unfold places at hm
 rcases List.mem_append.1 hm with hm|hm
 ·unfold plI at hm
  obtain ⟨i,hi,hm⟩:=List.mem_flatMap.1 hm
  unfold plX at hm
  obtain ⟨k,hk,rfl⟩:=List.mem_map.1 hm
  have:=hI i (List.mem_range.1 hi)
  unfold instB at this
  simp only [jf] at this
  have h3:=this.2.2
  rw [qg4 (d:=0),qav] at h3
  have h4:=h3 k (List.mem_range.1 hk)
  unfold netB at h4
  rw [qbt] at h4
  show 0≤at0 _ _∧at0 _ _<_
  unfold at0
  omega
 ·unfold plP at hm
  obtain ⟨i,hi,rfl⟩:=List.mem_map.1 hm
  have:=hP i (List.mem_range.1 hi)
  unfold portB netB at this
  simp only [jf,qbt] at this
  show 0≤(gt d.Ah i).Bt∧(gt d.Ah i).Bt<_
  omega
def blockB (b:qg):Bool:=(designB b.Ar b.Aa&&((b.Ac.length:Int)==(b.Aa.Ai.length:Int)))&&allN (fun j=>wireB (gt b.Ac j) (snkN b.Aa (j:Int))) b.Ac.length
theorem qq0 {b:qg} (h:qjF b):Ev (fun n=>qf6 n b) (blockB b):=by
 have hwl:=h.Ac.len
 unfold qf6 blockB
 refine Ev.guardB (Ev.or (qtP h.Ar h.Aa) fun _=>.done) fun hb=>?_
 rw [jf,beq_iff_eq] at hb
 obtain ⟨hd,hw⟩:=hb
 have hs:=qaf hd
 have hl:=qbj hs
 have hn:=hs.nn
 rw [qnC (m:=b.Ac.length) (by omega)]
 simp only [jd]
 have hL1:Ev (fun n=>qcV (places b.Aa) n (vecC (fun _=>0) b.Ac.length) 0) (vecC (fun k=>snkN b.Aa (k:Int)) b.Ac.length,((places b.Aa).length:Int)):=by
  refine loopF (Lf:=qcV (places b.Aa)) (S:=fun j=>vecC (fun k=>cntP (snkQ b.Aa (k:Int)) j) b.Ac.length) (len:=(places b.Aa).length) (fun n=>?_) (fun j hj X hX=>?_)
  ·simp only [qcV,ql (je _),cond_false];rfl
  ·simp only [qcV,qj hj,cond_true,qC hj,jd,wS j]
   obtain ⟨n0,n1⟩:=ql7 hd hj
   cases h1:(gt (places b.Aa) j).drives
   ·have hc:cntP (snkQ b.Aa (((gt (places b.Aa) j).net.toNat:Nat):Int)) j≤j:=qf0
    obtain ⟨e1,e2⟩:=qlV (c:=fun k=>cntP (snkQ b.Aa (k:Int)) j) (c':=fun k=>cntP (snkQ b.Aa (k:Int)) (j+1)) (x:=(gt (places b.Aa) j).net) (m:=b.Ac.length) n0 (by omega) (by show cntP _ _<_;omega) (fun k _=>by
     show cntP _ j+(bif snkQ b.Aa (k:Int) j then 1 else 0)=_
     unfold snkQ
     rw [h1,Bool.not_false,Bool.and_true])
    simp only [Bool.not_false,cond_true,jd,e1,e2]
    exact hX
   ·have:vecC (fun k=>cntP (snkQ b.Aa (k:Int)) (j+1)) b.Ac.length=vecC (fun k=>cntP (snkQ b.Aa (k:Int)) j) b.Ac.length:=by
     refine qkA (fun k _=>?_)
     show cntP _ j+(bif snkQ b.Aa (k:Int) j then 1 else 0)=_
     unfold snkQ
     rw [h1,jX,Bool.and_false];rfl
    rw [this] at hX
    exact hX
 have hL2:Ev (fun n=>qe1 b (vecC (fun k=>snkN b.Aa (k:Int)) b.Ac.length) n 0) (bif allN (fun j=>wireB (gt b.Ac j) (snkN b.Aa (j:Int))) b.Ac.length then .nxt (b.Ac.length:Int) else .ret false):=by
  refine qd8 ?_ (fun j hj X hX=>Ev.succ ?_)
  ·exact Ev.succ (by simp only [qe1,ql (je _),cond_false];exact .done)
  ·simp only [qe1,qj hj,cond_true,qC hj,qkF hj,jd,wS j]
   exact Ev.chk1 (qv7 (qm7 h.Ac hj)) fun _=>hX
 refine Ev.bind (qnG hs) (Ev.bind hL1 (Ev.bind hL2 ?_))
 cases allN (fun j=>wireB (gt b.Ac j) (snkN b.Aa (j:Int))) b.Ac.length<;>exact .done
theorem qlb {b:qg} (h:qjF b):Ev (fun n=>qfg n b) (blockB b):=by
 have hwl:=h.Ac.len
 unfold qfg blockB
 refine Ev.guardB (Ev.or (qsp h.Ar h.Aa) fun _=>.done) fun hb=>?_
 rw [jf] at hb
 have hs:=qaf hb.1
 have hL:Ev (fun n=>qeV b n 0) (bif allN (fun j=>wireB (gt b.Ac j) (snkN b.Aa (j:Int))) b.Ac.length then .nxt (b.Ac.length:Int) else .ret false):=by
  refine qd8 ?_ (fun j hj X hX=>Ev.succ ?_)
  ·exact Ev.succ (by simp only [qeV,ql (je _),cond_false];exact .done)
  ·simp only [qeV,qj hj,cond_true,qC hj,jd,wS j]
   refine Ev.bind (qnf hs) ?_
   rw [qja]
   exact Ev.chk1 (quz (qm7 h.Ac hj)) fun _=>hX
 refine Ev.bind hL ?_
 cases allN (fun j=>wireB (gt b.Ac j) (snkN b.Aa (j:Int))) b.Ac.length<;>exact .done
end Go.Fw


namespace Go.Fw
open Go
set_option maxRecDepth 100000
def off (d:qf) (i:Nat):Nat:=(plI d i).length
def place1 (d:qf) (i k:Nat):Tplace:=⟨(i:Int),(k:Int),at0 (gt d.Ab i).Ai k,decide (k+1=(gt d.Ab i).Ai.length)⟩
def place2 (d:qf) (i:Nat):Tplace:=⟨-1,(i:Int),(gt d.Ah i).Bt,(gt d.Ah i).Br==1⟩
theorem qkB {d:qf} {i:Nat}:off d (i+1)=off d i+(gt d.Ab i).Ai.length:=by
 unfold off;rw [qm2,jh,qqv]
theorem qut {d:qf} {i j:Nat} (h:i≤j):off d i≤off d j:=by
 induction j with
 | zero =>
  obtain rfl:i=0:=by omega
  exact je _
 | succ j ih =>
  rcases Nat.lt_or_eq_of_le h with h|rfl
  ·rw [qkB];have:=ih (by omega);omega
  ·exact je _
theorem qhf {d:qf}:(places d).length=off d d.Ab.length+d.Ah.length:=by
 unfold places off;rw [jh,qqs]
theorem qyZ {d:qf} {n i k:Nat} (hi:i<n) (hk:k<(gt d.Ab i).Ai.length):off d i+k<off d n∧gt (plI d n) (off d i+k)=place1 d i k:=by
 induction n with
 | zero=>omega
 | succ n ih =>
  rw [qm2,qlL]
  rcases Nat.lt_succ_iff_lt_or_eq.1 hi with h|rfl
  ·obtain ⟨h1,h2⟩:=ih h
   refine ⟨by rw [qkB];omega,?_⟩
   rw [if_pos (show off d i+k<(plI d n).length from h1),h2]
  ·refine ⟨by rw [qkB];omega,?_⟩
   rw [if_neg (by unfold off;omega),show off d i+k-(plI d i).length=k by unfold off;omega]
   exact qrl hk
theorem qkq {d:qf} {i k:Nat} (hi:i<d.Ab.length) (hk:k<(gt d.Ab i).Ai.length):off d i+k<(places d).length∧gt (places d) (off d i+k)=place1 d i k:=by
 obtain ⟨h1,h2⟩:=qyZ hi hk
 refine ⟨by rw [qhf];omega,?_⟩
 unfold places
 rw [qlL,if_pos (show off d i+k<(plI d d.Ab.length).length from h1),h2]
theorem qrQ {d:qf} {i:Nat} (hi:i<d.Ah.length):off d d.Ab.length+i<(places d).length∧gt (places d) (off d d.Ab.length+i)=place2 d i:=by
 refine ⟨by rw [qhf];omega,?_⟩
 unfold places
 rw [qlL,if_neg (by unfold off;omega),show off d d.Ab.length+i-(plI d d.Ab.length).length=i by unfold off;omega]
 exact qrl hi
theorem qvQ {d:qf} {n j:Nat} (hj:j<off d n):∃ i k,i<n∧k<(gt d.Ab i).Ai.length∧j=off d i+k:=by
 induction n with
 | zero=>exact absurd hj (Nat.not_lt_zero _)
 | succ n ih =>
  by_cases h:j<off d n
  ·obtain ⟨i,k,h1,h2,h3⟩:=ih h
   exact ⟨i,k,by omega,h2,h3⟩
  ·rw [qkB] at hj
   exact ⟨n,j-off d n,by omega,by omega,by omega⟩
theorem qlv {d:qf} {j:Nat} (hj:j<(places d).length) :
  (∃ i k,i<d.Ab.length∧k<(gt d.Ab i).Ai.length∧j=off d i+k∧gt (places d) j=place1 d i k) ∨
  (∃ i,i<d.Ah.length∧j=off d d.Ab.length+i∧gt (places d) j=place2 d i):=by
 rw [qhf] at hj
 by_cases h:j<off d d.Ab.length
 ·obtain ⟨i,k,h1,h2,rfl⟩:=qvQ h
  exact .inl ⟨i,k,h1,h2,rfl,(qkq h1 h2).2⟩
 ·refine .inr ⟨j-off d d.Ab.length,by omega,by omega,?_⟩
  have:=(qrQ (d:=d) (i:=j-off d d.Ab.length) (by omega)).2
  rwa [show off d d.Ab.length+(j-off d d.Ab.length)=j by omega] at this
def drvQ (d:qf) (k:Int) (j:Nat):Bool:=((gt (places d) j).net==k)&&(gt (places d) j).drives
theorem qtY {q:Nat→Bool} {m n:Nat}:cntP q (m+n)=cntP q m+cntP (fun j=>q (m+j)) n:=by
 induction n with
 | zero=>rfl
 | succ n ih =>
  show cntP q (m+n)+(bif q (m+n) then 1 else 0)=cntP q m+(cntP (fun j=>q (m+j)) n+(bif q (m+n) then 1 else 0))
  rw [ih];omega
theorem qvq {q:Nat→Bool} {n:Nat} {b:Bool} (h:1≤n) (h1:∀ j,j+1<n→q j=false) (h2:q (n-1)=b):cntP q n=bif b then 1 else 0:=by
 obtain ⟨m,rfl⟩:∃ m,n=m+1:=⟨n-1,by omega⟩
 show cntP q m+(bif q m then 1 else 0)=_
 rw [qnx.2 (fun j hj=>h1 j (by omega)),show m=m+1-1 by omega,h2,Jd]
theorem quL {d:qf} {k:Nat} (hs:smallD d):cntP (drvQ d (k:Int)) (places d).length=drvI d k d.Ab.length+drvP d k d.Ah.length:=by
 rw [qhf,qtY]
 congr 1
 ·have:∀ n,n≤d.Ab.length→cntP (drvQ d (k:Int)) (off d n)=drvI d k n:=by
   intro n
   induction n with
   | zero=>intro _;rfl
   | succ n ih =>
    intro hn
    rw [qkB,qtY,ih (by omega),qpm]
    congr 1
    have h2:=(hs.nx n (by omega)).1
    refine qvq (by omega) (fun j hj=>?_) ?_
    ·show drvQ d _ (off d n+j)=false
     unfold drvQ
     rw [(qkq (by omega) (by omega)).2]
     unfold place1
     simp;omega
    ·show drvQ d _ (off d n+_)=_
     unfold drvQ
     rw [(qkq (by omega) (by omega)).2]
     unfold place1 lastN
     simp;omega
  exact this _ (je _)
 ·refine qqZ (fun j hj=>?_)
  show drvQ d _ (off d _+j)=_
  unfold drvQ
  rw [(qrQ hj).2]
  unfold place2
  exact Bool.and_comm _ _
theorem qu4 {l:qr} {d:qf} (h:designB l d=true) {k:Nat} (hk:k<d.Ai.length):cntP (drvQ d (k:Int)) (places d).length=1:=by
 rw [quL (qaf h)]
 unfold designB drvB at h
 simp only [jf] at h
 have:=qav.1 h.2.2.2 k hk
 rw [beq_iff_eq] at this
 omega
theorem qtR {l:qr} {d:qf} (h:designB l d=true) {i j:Nat} (hi:i<(places d).length) (hj:j<(places d).length) (he:(gt (places d) i).net=(gt (places d) j).net) (h1:(gt (places d) i).drives=true) (h2:(gt (places d) j).drives=true):i=j:=by
 obtain ⟨n0,n1⟩:=ql7 h hi
 have e:=qhd n0
 have:=qu4 h (k:=(gt (places d) i).net.toNat) (by omega)
 refine qty (Nat.le_of_eq this) hi hj ?_ ?_
 ·unfold drvQ;rw [←e,h1];simp
 ·unfold drvQ;rw [←e,h2,he];simp
theorem qy0 {l:qr} {d:qf} (h:designB l d=true) {k:Int} (h0:0≤k) (h1:k<d.Ai.length):∃ j,j<(places d).length∧(gt (places d) j).net=k∧(gt (places d) j).drives=true:=by
 have e:=qhd h0
 have:=qu4 h (k:=k.toNat) (by omega)
 have hp:decide (0<cntP (drvQ d ((k.toNat:Nat):Int)) (places d).length)=true:=by rw [this];rfl
 rw [qte,jG,qmv] at hp
 obtain ⟨j,hj,hq⟩:=hp
 rw [Bool.not_eq_false',←e] at hq
 unfold drvQ at hq
 simp only [jf,beq_iff_eq] at hq
 exact ⟨j,hj,hq.1,hq.2⟩
def cellAt (b:qg) (i:Int):qw:=gt b.Ar.Ap (gt b.Aa.Ab i.toNat).Bp.toNat
theorem qhy {l:qr} {d:qf} (h:designB l d=true) {i:Nat} (hi:i<d.Ab.length) :
  (0≤(gt d.Ab i).Bp∧(gt d.Ab i).Bp<l.Ap.length)∧(gt d.Ab i).Ai.length=(gt l.Ap (gt d.Ab i).Bp.toNat).Au.length∧cellB (gt l.Ap (gt d.Ab i).Bp.toNat)=true:=by
 unfold designB libB at h
 simp only [jf] at h
 obtain ⟨⟨⟨hc,_⟩,_⟩,hI,_⟩:=h
 rw [qiV,qav] at hI hc
 have:=hI i hi
 unfold instB at this
 simp only [jf,qbt,beq_iff_eq] at this
 exact ⟨⟨this.1.1,by omega⟩,by omega,hc _ (by omega)⟩
theorem qm4 {c:qw} (h:cellB c=true) {j:Nat} (hj:j<c.As.length):(1≤(gt c.As j).Av∧(gt c.As j).Av≤5)∧(0≤(gt c.As j).Be∧(gt c.As j).Be<(c.Au.length:Int)-1)∧(0≤(gt c.As j).To∧(gt c.As j).To≤(c.Au.length:Int)-1)∧arcS c.Au (gt c.As j)=true:=by
 unfold cellB at h
 simp only [jf] at h
 obtain ⟨_,hp,⟨ha,_⟩,_,_,hk⟩:=h
 have:=qav.1 ha j hj
 rw [jf,qxB hp (qrV hk)] at this
 have h1:=this.1
 refine ⟨qsc h1,?_⟩
 have h2:=h1
 unfold arcS at h2
 simp only [jf,qbt] at h2
 refine ⟨⟨h2.1.1.1,by omega⟩,h2.1.2,h1⟩
theorem qn9 {c:qw} (h:cellB c=true):c.As.length≤8:=by
 unfold cellB at h
 simp only [jf,decide_eq_true_eq] at h
 exact h.2.2.1.2
theorem qaD {b:qg} (h:blockB b=true):designB b.Ar b.Aa=true:=by
 unfold blockB at h;simp only [jf] at h;exact h.1.1
end Go.Fw
