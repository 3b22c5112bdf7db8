/- By a program of mine (gen.py): for each function a plain function and the proof that the code computes it. -/
import Derived.Test.YtmemiabhkcdgcaaGreatDoorA2
import Derived.Lib.AppendZerosOnto
import Derived.Lib.Overlaps
import Derived.Laws.IdiomCopy
import Derived.Laws.Externs
open Option renaming bind_some → je, map_some → jV
open Nat renaming le_refl → jf, le_of_ble_eq_true → jt, mul_le_mul_right → ju, lt_of_lt_of_le → jz, zero_le → jG, succ_mul → jP, le_trans → jS, add_zero → jY, zero_add → Ji
open List renaming getElem?_eq_getElem → jg, mem_cons_of_mem → jm, mem_cons_self → jn, length_append → jo, getElem_mem → jp, getElem?_append_left → jq, getElem?_take → jr, take_succ_eq_append_getElem → js, length_singleton → jw, getElem?_append_right → jy, mem_of_getElem? → jA, getElem?_drop → jB, take_length → jC, drop_eq_getElem_cons → jD, eq_nil_of_length_eq_zero → jE, getElem?_toArray → jF, map_append → jH, getElem_of_mem → jI, getD_eq_getElem?_getD → jK, getElem?_cons_succ → jL, append_nil → jM, length_map → jN, size_toArray → jQ, mem_append_left → jR, range_succ → jT, map_cons → jU, all_eq_true → jW, length_cons → jZ, drop_eq_nil_of_le → Ja, length_take → Jb, ext_getElem → Jc, append_assoc → Jd, length_filter_le → Je, getElem?_set_ne → Jf, not_mem_nil → Jg, mem_cons → Jh
open Go.Result renaming andThen_ok → jh
open Bool renaming and_eq_true → ji, eq_iff_iff → jk, true_and → jJ, not_eq_true' → jO, not_true → Jj, false_or → Jk
open Go.Sem renaming run_bind → jj, run_pure → jl
open Int renaming toNat_natCast → jx
open Array renaming getElem?_append_left → jX

namespace Go.Fw
open Go Go.Proofs
open Go.RowKit (Below)
set_option maxRecDepth 100000
set_option maxHeartbeats 6400000
variable {n:Nat} {w:World} {cs1 cs2 cs3 cs4 cs5 cs6 cs7 cs8 cs9:List Value}
def qee (a_1:qf) (y1:qj):Nat→Int→Option (Flow Bool Int)
 | 0,_=>none
 | n+1,i2 =>
  bif decide (i2<(y1.Af.length:Int)) then
   (idx y1.Af i2).bind fun y2 =>
   (qan n y2 0 (W64 ((a_1.Af.length:Int)-1))).bind fun r1 =>
   bif (!r1) then some (.ret false) else
   qee a_1 y1 n (W64 (i2+1))
  else
   some (.nxt i2)
def qd7 (a_1:qf):Nat→Int→Option (Flow Bool Int)
 | 0,_=>none
 | n+1,i3 =>
  bif decide (i3<(a_1.Ac.length:Int)) then
   (idx a_1.Ac i3).bind fun y4 =>
   (qan n y4.Bl 1 2).bind fun r3 =>
   bif (!r3) then some (.ret false) else
   (idx a_1.Ac i3).bind fun y5 =>
   (qan n y5.Bp 0 (W64 ((a_1.Af.length:Int)-1))).bind fun r4 =>
   bif (!r4) then some (.ret false) else
   qd7 a_1 n (W64 (i3+1))
  else
   some (.nxt i3)
def qdY (a_0:qn) (a_1:qf):Nat→Int→Option (Flow Bool Int)
 | 0,_=>none
 | n+1,i1 =>
  bif decide (i1<(a_1.Aa.length:Int)) then
   (idx a_1.Aa i1).bind fun y1 =>
   (
    (qan n y1.Ba 0 (W64 ((a_0.Ah.length:Int)-1))).bind fun r2 =>
    bif (!r2) then some true else
    (idx a_0.Ah y1.Ba).bind fun y3 =>
    some ((y1.Af.length:Int) != (y3.Am.length:Int))).bind fun b2 =>
   bif b2 then some (.ret false) else
   (qee a_1 y1 n 0).bind fun o=>match o with
   | .ret r=>some (.ret r)
   | .nxt _ =>
    qdY a_0 a_1 n (W64 (i1+1))
  else
   some (.nxt i1)
def qiz (n:Nat) (a_0:qn) (a_1:qf):Option Bool :=
 (qdY a_0 a_1 n 0).bind fun o=>match o with
 | .ret r=>some r
 | .nxt _ =>
  (qd7 a_1 n 0).bind fun o=>match o with
  | .ret r=>some r
  | .nxt _ =>
   some true
theorem qnM {a_0:qn} {a_1:qf} (ha1:GoT.R w (old w) a_0 cs1) (ha2:GoT.R w (old w) a_1 cs2) {r:Bool} (hF:qiz n a_0 a_1=some r):RetV Tryz.prog 157 [GoT.v qn cs1,GoT.v qf cs2] w r:=by
 obtain ⟨p1,k1,rfl,s1⟩:=qa7 ha1
 obtain ⟨p2,k2,p3,k3,p4,k4,rfl,s2,s3,s4⟩:=qag ha2
 refine zV 90 Tryz.func157 rfl fun h=>zSR (qu h rfl rfl fun w1 bb1 h=>qu h rfl rfl fun w2 bb2 h=>X1 14 0 h rfl ?_)
 obtain ⟨o1,hF,hK1⟩:=qd hF
 refine qk (rL (fun m e w'=>∃ (i1:Int),qdY a_0 a_1 m i1=some o1∧e=[(2,.pointer (some ⟨bb1,0,none⟩)),(3,.pointer (some ⟨bb2,0,none⟩)),(5,.int .i64 (a_1.Af.length:Int)),(6,.int .i64 i1)]∧SH w w' [Ch.box bb2 (qa3 a_1 p2 p3 p4 k2 k3 k4) 31,Ch.box bb1 [.slice p1 a_0.Ah.length k1] 26]) n ⟨_,hF,rfl,h⟩ rfl ?_)
 rintro m1 e1 w3 ⟨i1,hF,rfl,h⟩
 rcases m1 with _|m1
 ·cases hF
 refine X1 9 0 h rfl (qi rfl hF ?_ ?_)<;>intro hF
 ·refine X1 8 0 h rfl ?_
  obtain ⟨y1,hy1,hF,he1,b1,_,q1,cs3,hp1,hq1,hr1,hc2⟩:=s2.ix hF
  obtain ⟨p5,k5,rfl,s5⟩:=qM hr1
  refine zxe hp1 hq1 he1 rfl (zc 0 (hc2.below h.below) rfl (qA qc h rfl rfl rfl fun w4 bb3 h=>zs 0 h rfl fun w5 h=>zNSS ?_))
  obtain ⟨KF1,hKF1,o3,hF,hK3⟩:=bindE hF
  refine qcB (fun e w'=>∃ (b2:Bool),KF1 b2=some o1∧e=[(2,.pointer (some ⟨bb1,0,none⟩)),(3,.pointer (some ⟨bb2,0,none⟩)),(5,.int .i64 (a_1.Af.length:Int)),(6,.int .i64 i1),(7,.pointer (some ⟨bb3,0,none⟩)),(46,.bool b2)]∧SH w w' [Ch.box bb3 (qiI y1 p5 k5) 191,Ch.box bb2 (qa3 a_1 p2 p3 p4 k2 k3 k4) 31,Ch.box bb1 [.slice p1 a_0.Ah.length k1] 26]) ?_ ?_
  ·refine rD (Y1 2 0 h rfl ?_)
   refine Y1 2 2 h rfl ?_
   refine zd2 rfl ?_
   obtain ⟨r2,hr4,hF⟩:=qd hF
   refine qbR r2 (vsB _) (cB 88 rfl) (fun _ hb=>qV  hr4) rfl rfl rfl rfl (zd2 rfl (qbx (t:=33) hF rfl ?_ ?_))<;>intro hF
   ·refine Y0 13 rfl (dN h fun w8 h=>?_)
    obtain rfl:=qb hF
    exact rG ⟨_,hK3,rfl,h⟩ rfl
   refine Y1 4 0 h rfl ?_
   refine Y1 6 2 h rfl ?_
   refine Y1 4 0 h rfl ?_
   refine Y0 1 rfl ?_
   obtain ⟨y3,hy3,hF,he3,b4,_,q3,cs5,hp3,hq3,hr5,hc7⟩:=s1.ix hF
   obtain ⟨p6,k6,p7,k7,p8,k8,rfl,s6,s7,s8⟩:=qJ hr5
   refine zdxe hp3 hq3 he3 rfl (Y0 3 rfl (zdc 2 (hc7.below h.below) rfl (Y0 5 rfl (dN h fun w9 h=>?_))))
   obtain rfl:=qb hF
   exact rG ⟨_,hK3,rfl,h⟩ rfl
  rintro e3 w10 ⟨b2,hF,rfl,h⟩
  subst hKF1
  refine qi rfl hF ?_ ?_<;>intro hF
  ·refine X0 4 rfl ?_
   obtain rfl:=qb hF;replace hF:=hK1
   exact rb h hF rfl
  refine X0 5 rfl ?_
  obtain ⟨o2,hF,hK2⟩:=qd hF
  refine qk (rL (fun m e w'=>∃ (i2:Int),qee a_1 y1 m i2=some o2∧e=[(2,.pointer (some ⟨bb1,0,none⟩)),(3,.pointer (some ⟨bb2,0,none⟩)),(5,.int .i64 (a_1.Af.length:Int)),(6,.int .i64 i1),(7,.pointer (some ⟨bb3,0,none⟩)),(8,.int .i64 i2)]∧SH w w' [Ch.box bb3 (qiI y1 p5 k5) 191,Ch.box bb2 (qa3 a_1 p2 p3 p4 k2 k3 k4) 31,Ch.box bb1 [.slice p1 a_0.Ah.length k1] 26]) m1 ⟨_,hF,rfl,h⟩ rfl ?_)
  rintro m2 e2 w6 ⟨i2,hF,rfl,h⟩
  rcases m2 with _|m2
  ·cases hF
  refine X1 9 0 h rfl (qi rfl hF ?_ ?_)<;>intro hF
  ·refine X1 8 0 h rfl ?_
   obtain ⟨y2,hy2,hF,he2,b3,_,q2,cs4,hp2,hq2,rfl,hc5⟩:=s5.ix hF
   refine zxe hp2 hq2 he2 rfl (zc 0 (hc5.below h.below) rfl (zp2 rfl (zcB h hF qV rfl fun r1 w7 h hF=>X0 2 rfl (qi rfl hF ?_ ?_))))<;>intro hF
   ·refine X0 4 rfl ?_
    obtain rfl:=qb hF;replace hF:=hK2
    obtain rfl:=qb hF;replace hF:=hK1
    exact rb h hF rfl
   exact X0 7 rfl (rK ⟨_,hF,rfl,h⟩ rfl)
  refine qm rfl ?_
  obtain rfl:=qb hF;replace hF:=hK2
  refine X0 6 rfl ?_
  replace h:=h.pick [1,2] rfl
  exact rK ⟨_,hF,rfl,h⟩ rfl
 refine qm rfl ?_
 obtain rfl:=qb hF;replace hF:=hK1
 refine X0 5 rfl ?_
 obtain ⟨o4,hF,hK4⟩:=qd hF
 refine qk ?_
 replace h:=h.pick [0] rfl
 refine rL (fun m e w'=>∃ (i3:Int),qd7 a_1 m i3=some o4∧e=[(3,.pointer (some ⟨bb2,0,none⟩)),(5,.int .i64 (a_1.Af.length:Int)),(9,.int .i64 i3)]∧SH w w' [Ch.box bb2 (qa3 a_1 p2 p3 p4 k2 k3 k4) 31]) n ⟨_,hF,rfl,h⟩ rfl ?_
 rintro m3 e4 w11 ⟨i3,hF,rfl,h⟩
 rcases m3 with _|m3
 ·cases hF
 refine X1 9 0 h rfl (qi rfl hF ?_ ?_)<;>intro hF
 ·refine X1 8 0 h rfl ?_
  obtain ⟨y4,hy4,hF,he4,b5,_,q4,cs6,hp4,hq4,hr6,hc9⟩:=s4.ix hF
  obtain rfl:=qaC hr6
  refine zxe hp4 hq4 he4 rfl (zp1 rfl (zc 1 (hc9.below h.below) rfl (zcB h hF qV rfl fun r3 w12 h hF=>zp2 rfl (ql (t:=78) hF rfl ?_ ?_))))<;>intro hF
  ·refine X0 12 rfl (qes rfl rfl (X0 4 rfl ?_))
   obtain rfl:=qb hF;replace hF:=hK4
   exact rb h hF rfl
  refine X1 7 0 h rfl ?_
  obtain ⟨y5,hy5,hF,he5,b6,_,q5,cs7,hp5,hq5,hr8,hc10⟩:=s4.ix hF
  obtain rfl:=qaC hr8
  refine zxe hp5 hq5 he5 rfl (X0 3 rfl (zc 2 (hc10.below h.below) rfl (X0 5 rfl (zcB h hF qV rfl fun r4 w13 h hF=>X0 4 rfl (qi rfl hF ?_ ?_)))))<;>intro hF
  ·refine X0 4 rfl ?_
   obtain rfl:=qb hF;replace hF:=hK4
   exact rb h hF rfl
  exact X0 7 rfl (rK ⟨_,hF,rfl,h⟩ rfl)
 refine qm rfl ?_
 obtain rfl:=qb hF;replace hF:=hK4
 exact X0 4 rfl (rb h hF rfl)
def qd2 (list:(List ByteArray)) (i1:Int):Nat→Int→Option (Flow Bool Int)
 | 0,_=>none
 | n+1,i2 =>
  bif decide (i2<i1) then
   (idx list i2).bind fun y2 =>
   (idx list i1).bind fun y3 =>
   bif (y2.toList==y3.toList) then some (.ret false) else
   qd2 list i1 n (W64 (i2+1))
  else
   some (.nxt i2)
def qed (list:(List ByteArray)):Nat→Int→Option (Flow Bool Int)
 | 0,_=>none
 | n+1,i1 =>
  bif decide (i1<(list.length:Int)) then
   (idx list i1).bind fun y1 =>
   (qgA n y1).bind fun r1 =>
   bif (!r1) then some (.ret false) else
   (qd2 list i1 n 0).bind fun o=>match o with
   | .ret r=>some (.ret r)
   | .nxt _ =>
    qed list n (W64 (i1+1))
  else
   some (.nxt i1)
def qf8 (n:Nat) (list:(List ByteArray)):Option Bool :=
 (qed list n 0).bind fun o=>match o with
 | .ret r=>some r
 | .nxt _ =>
  some true
theorem qih {list:(List ByteArray)} (ha1:GoT.R w (old w) list cs1) {r:Bool} (hF:qf8 n list=some r):RetV Tryz.prog 158 [GoT.v (List ByteArray) cs1] w r:=by
 obtain ⟨p1,k1,rfl,s1⟩:=ha1
 refine zV 31 Tryz.func158 rfl fun h=>X0 9 rfl ?_
 obtain ⟨o1,hF,hK1⟩:=qd hF
 refine qk (rL (fun m e w'=>∃ (i1:Int),qed list m i1=some o1∧e=[(0,.slice p1 list.length k1),(3,.int .i64 i1)]∧SH w w' []) n ⟨_,hF,rfl,h⟩ rfl ?_)
 rintro m1 e1 w1 ⟨i1,hF,rfl,h⟩
 rcases m1 with _|m1
 ·cases hF
 refine X0 8 rfl (qi rfl hF ?_ ?_)<;>intro hF
 ·refine X0 8 rfl ?_
  obtain ⟨y1,hy1,hF,he1,b1,_,q1,cs2,hp1,hq1,rfl,hc2⟩:=s1.ix hF
  refine zxe hp1 hq1 he1 rfl (zc 0 (hc2.below h.below) rfl (zcB h hF qi8 rfl fun r1 w2 h hF=>X0 2 rfl (qi rfl hF ?_ ?_)))<;>intro hF
  ·refine X0 4 rfl ?_
   obtain rfl:=qb hF;replace hF:=hK1
   exact rb h hF rfl
  refine X0 5 rfl ?_
  obtain ⟨o2,hF,hK2⟩:=qd hF
  refine qk (rL (fun m e w'=>∃ (i2:Int),qd2 list i1 m i2=some o2∧e=[(0,.slice p1 list.length k1),(3,.int .i64 i1),(4,.int .i64 i2)]∧SH w w' []) m1 ⟨_,hF,rfl,h⟩ rfl ?_)
  rintro m2 e2 w3 ⟨i2,hF,rfl,h⟩
  rcases m2 with _|m2
  ·cases hF
  refine X0 7 rfl (qi rfl hF ?_ ?_)<;>intro hF
  ·refine X0 4 rfl (rD (zd2 rfl ?_))
   obtain ⟨y2,hy2,hF,he2,b2,_,q2,cs3,hp2,hq2,rfl,hc5⟩:=s1.ix hF
   refine zdxe hp2 hq2 he2 rfl (zdc 0 (hc5.below h.below) rfl (zd2 rfl ?_))
   obtain ⟨y3,hy3,hF,he3,b3,_,q3,cs4,hp3,hq3,rfl,hc6⟩:=s1.ix hF
   refine zdxe hp3 hq3 he3 rfl (zdc 0 (hc6.below h.below) rfl (zd1 rfl (dN h fun w4 h=>qi rfl hF ?_ ?_)))<;>intro hF
   ·refine X0 4 rfl ?_
    obtain rfl:=qb hF;replace hF:=hK2
    obtain rfl:=qb hF;replace hF:=hK1
    exact rb h hF rfl
   exact X0 7 rfl (rK ⟨_,hF,rfl,h⟩ rfl)
  refine qm rfl ?_
  obtain rfl:=qb hF;replace hF:=hK2
  exact X0 6 rfl (rK ⟨_,hF,rfl,h⟩ rfl)
 refine qm rfl ?_
 obtain rfl:=qb hF;replace hF:=hK1
 exact X0 4 rfl (rb h hF rfl)
def qdZ (x5:(List Int)) (x7:(List Int)):Nat→Int→Option (Flow Bool Int)
 | 0,_=>none
 | n+1,i5 =>
  bif decide (i5<(x5.length:Int)) then
   (idx x7 i5).bind fun y11 =>
   bif (y11 != 1) then some (.ret false) else
   qdZ x5 x7 n (W64 (i5+1))
  else
   some (.nxt i5)
def qci (a_1:qf):Nat→(List Int)→Int→Option ((List Int) × Int)
 | 0,_,_=>none
 | n+1,x7,i4 =>
  bif decide (i4<(a_1.Ac.length:Int)) then
   (idx a_1.Ac i4).bind fun y7 =>
   bif (y7.Bl==1) then
    (idx a_1.Ac i4).bind fun y8 =>
    (idx x7 y8.Bp).bind fun y9 =>
    (idx x7 y8.Bp).bind fun _ =>
    qci a_1 n (setS x7 y8.Bp (W64 (y9+1))) (W64 (i4+1))
   else
    qci a_1 n x7 (W64 (i4+1))
  else
   some (x7,i4)
def qc0 (a_1:qf):Nat→(List Int)→Int→Option ((List Int) × Int)
 | 0,_,_=>none
 | n+1,x6,i3 =>
  bif decide (i3<(a_1.Aa.length:Int)) then
   (idx a_1.Aa i3).bind fun y3 =>
   (idx y3.Af (W64 ((y3.Af.length:Int)-1))).bind fun y4 =>
   (idx x6 y4).bind fun y5 =>
   (idx x6 y4).bind fun _ =>
   qc0 a_1 n (setS x6 y4 (W64 (y5+1))) (W64 (i3+1))
  else
   some (x6,i3)
def qc5 (a_1:qf):Nat→(List ByteArray)→Int→Option ((List ByteArray) × Int)
 | 0,_,_=>none
 | n+1,x3,i2 =>
  bif decide (i2<(a_1.Ac.length:Int)) then
   (idx a_1.Ac i2).bind fun y2 =>
   (appS x3 ([y2.As]:List ByteArray)).bind fun x4 =>
   qc5 a_1 n x4 (W64 (i2+1))
  else
   some (x3,i2)
def qc1 (a_1:qf):Nat→(List ByteArray)→Int→Option ((List ByteArray) × Int)
 | 0,_,_=>none
 | n+1,x1,i1 =>
  bif decide (i1<(a_1.Aa.length:Int)) then
   (idx a_1.Aa i1).bind fun y1 =>
   (appS x1 ([y1.As]:List ByteArray)).bind fun x2 =>
   qc1 a_1 n x2 (W64 (i1+1))
  else
   some (x1,i1)
def qg3 (n:Nat) (a_0:qn) (a_1:qf):Option Bool :=
 (
  (qhD n a_0).bind fun r4 =>
  bif (!r4) then some true else
  bif decide ((a_1.Aa.length:Int) > 14) then some true else
  bif decide ((a_1.Af.length:Int) > 30) then some true else
  bif decide ((a_1.Ac.length:Int) > 8) then some true else
  (qiz n a_0 a_1).bind fun r5 =>
  some (!r5)).bind fun b1 =>
 bif b1 then some false else
 (qc1 a_1 n ([]:List ByteArray) 0).bind fun o=>match o with
 | (x1,_) =>
  (qc5 a_1 n ([]:List ByteArray) 0).bind fun o=>match o with
  | (x3,_) =>
   (
    (qf8 n x1).bind fun r1 =>
    bif (!r1) then some true else
    (qf8 n x3).bind fun r2 =>
    bif (!r2) then some true else
    (qf8 n a_1.Af).bind fun r3 =>
    some (!r3)).bind fun b4 =>
   bif b4 then some false else
   (mkS (a_1.Af.length:Int) (0:Int)).bind fun x5 =>
   (qc0 a_1 n x5 0).bind fun o=>match o with
   | (x6,_) =>
    (qci a_1 n x6 0).bind fun o=>match o with
    | (x7,_) =>
     (qdZ x5 x7 n 0).bind fun o=>match o with
     | .ret r=>some r
     | .nxt _ =>
      some true
theorem qkM {a_0:qn} {a_1:qf} (ha1:GoT.R w (old w) a_0 cs1) (ha2:GoT.R w (old w) a_1 cs2) {r:Bool} (hF:qg3 n a_0 a_1=some r):RetV Tryz.prog 95 [GoT.v qn cs1,GoT.v qf cs2] w r:=by
 obtain ⟨p1,k1,rfl,s1⟩:=qa7 ha1
 obtain ⟨p2,k2,p3,k3,p4,k4,rfl,s2,s3,s4⟩:=qag ha2
 refine zV 153 Tryz.func95 rfl fun h=>zSR (qu h rfl rfl fun w1 bb1 h=>qu h rfl rfl fun w2 bb2 h=>X0 4 rfl ?_)
 obtain ⟨KF2,hKF2,o7,hF,hK7⟩:=bindE hF
 refine qcB (fun e w'=>∃ (b1:Bool),KF2 b1=some r∧e=[(3,.pointer (some ⟨bb2,0,none⟩)),(40,.bool b1)]∧SH w w' [Ch.box bb2 (qa3 a_1 p2 p3 p4 k2 k3 k4) 31]) ?_ ?_
 ·refine X1 2 1 h rfl (zcB h hF (qnd (h.old ha1)) rfl fun r4 w21 h hF=>zp2 rfl (ql (t:=17) hF rfl ?_ ?_))<;>intro hF
  ·refine X0 24 rfl ?_
   replace h:=h.pick [0] rfl
   obtain rfl:=qb hF
   exact rG ⟨_,hK7,rfl,h⟩ rfl
  refine X1 10 0 h rfl (ql (t:=23) hF rfl ?_ ?_)<;>intro hF
  ·refine X0 18 rfl ?_
   replace h:=h.pick [0] rfl
   obtain rfl:=qb hF
   exact rG ⟨_,hK7,rfl,h⟩ rfl
  refine X1 10 0 h rfl (ql (t:=29) hF rfl ?_ ?_)<;>intro hF
  ·refine X0 12 rfl ?_
   replace h:=h.pick [0] rfl
   obtain rfl:=qb hF
   exact rG ⟨_,hK7,rfl,h⟩ rfl
  refine X1 10 0 h rfl (ql (t:=35) hF rfl ?_ ?_)<;>intro hF
  ·refine X0 6 rfl ?_
   replace h:=h.pick [0] rfl
   obtain rfl:=qb hF
   exact rG ⟨_,hK7,rfl,h⟩ rfl
  refine X2 5 1 0 h rfl (zcB h hF (qnM (h.old ha1) (h.old ha2)) rfl fun r5 w22 h hF=>X0 4 rfl ?_)
  replace h:=h.pick [0] rfl
  obtain rfl:=qb hF
  exact rG ⟨_,hK7,rfl,h⟩ rfl
 rintro e7 w23 ⟨b1,hF,rfl,h⟩
 subst hKF2
 refine qi rfl hF ?_ ?_<;>intro hF
 ·exact X0 4 rfl (rb h hF rfl)
 refine zKSR (qG qc [] _ ([]:List ByteArray) h rfl rfl rfl rfl rfl rfl rfl rfl rfl trivial rfl fun w3 p5 S1 h=>X0 7 rfl ?_)
 obtain ⟨o1,hF,hK1⟩:=qd hF
 refine qk (rL (fun m e w'=>∃ (S2:Nat→Prop) (p6:Option Addr) (ln1:Nat) (k5:Nat) (x1:(List ByteArray)) (i1:Int),qc1 a_1 m x1 i1=some o1∧e=[(3,.pointer (some ⟨bb2,0,none⟩)),(5,.slice p6 ln1 k5),(6,.int .i64 i1)]∧SH w w' [Ch.own S2 (x1:List ByteArray) [.slice p6 ln1 k5],Ch.box bb2 (qa3 a_1 p2 p3 p4 k2 k3 k4) 31]) n ⟨_,_,_,_,_,_,hF,rfl,h⟩ rfl ?_)
 rintro m1 e1 w4 ⟨S2,p6,ln1,k5,x1,i1,hF,rfl,h⟩
 obtain rfl:=(h.sl 0 rfl).2
 rcases m1 with _|m1
 ·cases hF
 refine X1 9 1 h rfl (qi rfl hF ?_ ?_)<;>intro hF
 ·refine X1 8 1 h rfl ?_
  obtain ⟨y1,hy1,hF,he1,b2,_,q1,cs3,hp1,hq1,hr1,hc3⟩:=s2.ix hF
  obtain ⟨p7,k6,rfl,s5⟩:=qM hr1
  refine zxe hp1 hq1 he1 rfl (zp1 rfl (zc 0 (hc3.below h.below) rfl (qG qc [.tmp 55] _ ([y1.As]:List ByteArray) h rfl rfl rfl rfl rfl rfl rfl rfl rfl ⟨rfl,trivial⟩ rfl fun w5 p8 S3 h=>?_)))
  obtain ⟨x2,hx1,hF⟩:=qd hF
  obtain ⟨g1,hx1⟩:=qae hx1
  refine qcg qc 1 h rfl (h.sl 0 rfl).1 (h.sl 0 rfl).2 rfl rfl rfl rfl rfl rfl rfl rfl rfl g1 hx1 rfl fun w6 p9 k7 S4 h=>X0 8 rfl ?_
  replace h:=h.pick [1,2] rfl
  exact rK ⟨_,_,_,_,_,_,hF,rfl,h⟩ rfl
 refine qm rfl ?_
 obtain rfl:=qb hF;replace hF:=hK1
 refine zSR (qG qc [] _ ([]:List ByteArray) h rfl rfl rfl rfl rfl rfl rfl rfl rfl trivial rfl fun w7 p10 S5 h=>X0 7 rfl ?_)
 obtain ⟨o2,hF,hK2⟩:=qd hF
 refine qk (rL (fun m e w'=>∃ (S6:Nat→Prop) (p11:Option Addr) (ln2:Nat) (k8:Nat) (x3:(List ByteArray)) (i2:Int),qc5 a_1 m x3 i2=some o2∧e=[(3,.pointer (some ⟨bb2,0,none⟩)),(5,.slice p6 x1.length k5),(7,.slice p11 ln2 k8),(8,.int .i64 i2)]∧SH w w' [Ch.own S6 (x3:List ByteArray) [.slice p11 ln2 k8],Ch.own S2 (x1:List ByteArray) [.slice p6 x1.length k5],Ch.box bb2 (qa3 a_1 p2 p3 p4 k2 k3 k4) 31]) n ⟨_,_,_,_,_,_,hF,rfl,h⟩ rfl ?_)
 rintro m2 e2 w8 ⟨S6,p11,ln2,k8,x3,i2,hF,rfl,h⟩
 obtain rfl:=(h.sl 0 rfl).2
 rcases m2 with _|m2
 ·cases hF
 refine X1 9 2 h rfl (qi rfl hF ?_ ?_)<;>intro hF
 ·refine X1 8 2 h rfl ?_
  obtain ⟨y2,hy2,hF,he2,b3,_,q2,cs4,hp2,hq2,hr2,hc5⟩:=s4.ix hF
  obtain rfl:=qaC hr2
  refine zxe hp2 hq2 he2 rfl (zp1 rfl (zc 0 (hc5.below h.below) rfl (qG qc [.tmp 72] _ ([y2.As]:List ByteArray) h rfl rfl rfl rfl rfl rfl rfl rfl rfl ⟨rfl,trivial⟩ rfl fun w9 p12 S7 h=>?_)))
  obtain ⟨x4,hx2,hF⟩:=qd hF
  obtain ⟨g2,hx2⟩:=qae hx2
  refine qcg qc 1 h rfl (h.sl 0 rfl).1 (h.sl 0 rfl).2 rfl rfl rfl rfl rfl rfl rfl rfl rfl g2 hx2 rfl fun w10 p13 k9 S8 h=>X0 8 rfl ?_
  replace h:=h.pick [1,2,3] rfl
  exact rK ⟨_,_,_,_,_,_,hF,rfl,h⟩ rfl
 refine qm rfl ?_
 obtain rfl:=qb hF;replace hF:=hK2
 refine zSS ?_
 obtain ⟨KF1,hKF1,o6,hF,hK6⟩:=bindE hF
 refine qcB (fun e w'=>∃ (b4:Bool),KF1 b4=some r∧e=[(3,.pointer (some ⟨bb2,0,none⟩)),(88,.bool b4)]∧SH w w' [Ch.box bb2 (qa3 a_1 p2 p3 p4 k2 k3 k4) 31]) ?_ ?_
 ·refine X0 2 rfl (zcB h hF (qih (h.own 1 rfl)) rfl fun r1 w17 h hF=>zp2 rfl (ql (t:=78) hF rfl ?_ ?_))<;>intro hF
  ·refine X0 11 rfl ?_
   replace h:=h.pick [2] rfl
   obtain rfl:=qb hF
   exact rG ⟨_,hK6,rfl,h⟩ rfl
  refine X0 3 rfl (zcB h hF (qih (h.own 0 rfl)) rfl fun r2 w18 h hF=>X0 4 rfl (ql (t:=83) hF rfl ?_ ?_))<;>intro hF
  ·refine X0 6 rfl ?_
   replace h:=h.pick [2] rfl
   obtain rfl:=qb hF
   exact rG ⟨_,hK6,rfl,h⟩ rfl
  refine X1 5 2 h rfl (zcB h hF (qih ⟨_,_,rfl,(h.oldS s3)⟩) rfl fun r3 w19 h hF=>X0 4 rfl ?_)
  replace h:=h.pick [2] rfl
  obtain rfl:=qb hF
  exact rG ⟨_,hK6,rfl,h⟩ rfl
 rintro e6 w20 ⟨b4,hF,rfl,h⟩
 subst hKF1
 refine qi rfl hF ?_ ?_<;>intro hF
 ·exact X0 4 rfl (rb h hF rfl)
 refine X1 6 0 h rfl ?_
 obtain ⟨x5,hx3,hF⟩:=qd hF
 obtain ⟨g3,g4,hx3⟩:=qb3 hx3
 refine qc9 qc Int h rfl rfl rfl rfl rfl rfl rfl rfl rfl g3 g4 hx3 rfl fun w11 S9 p14 h=>X0 7 rfl ?_
 obtain ⟨o3,hF,hK3⟩:=qd hF
 refine qk (rL (fun m e w'=>∃ (x6:(List Int)) (i3:Int),qc0 a_1 m x6 i3=some o3∧e=[(3,.pointer (some ⟨bb2,0,none⟩)),(9,.slice p14 x5.length x5.length),(10,.int .i64 i3)]∧SH w w' [Ch.own S9 (x6:List Int) [.slice p14 x5.length x5.length],Ch.box bb2 (qa3 a_1 p2 p3 p4 k2 k3 k4) 31]) n ⟨_,_,hF,rfl,h⟩ rfl ?_)
 rintro m3 e3 w12 ⟨x6,i3,hF,rfl,h⟩
 rcases m3 with _|m3
 ·cases hF
 refine X1 9 1 h rfl (qi rfl hF ?_ ?_)<;>intro hF
 ·refine X1 8 1 h rfl ?_
  obtain ⟨y3,hy3,hF,he3,b5,_,q3,cs5,hp3,hq3,hr3,hc8⟩:=s2.ix hF
  obtain ⟨p15,k10,rfl,s6⟩:=qM hr3
  refine zxe hp3 hq3 he3 rfl (zp1 rfl (zc 2 (hc8.below h.below) rfl (X0 8 rfl ?_)))
  obtain ⟨y4,hy4,hF,he4,b6,_,q4,cs6,hp4,hq4,rfl,hc9⟩:=s6.ix hF
  refine zxe hp4 hq4 he4 rfl (zc 0 (hc9.below h.below) rfl ?_)
  obtain ⟨y5,hy5,hF,he5,b7,_,q5,cs7,hp5,hq5,rfl,hc10⟩:=(h.sl 0 rfl).1.ix hF
  refine zx hp5 hq5 ⟨he5.1,qx he5.2.1 (h.sl 0 rfl).2⟩ rfl (zc 0 hc10 rfl (zp1 rfl ?_))
  obtain ⟨y6,hy6,hF,he6,b8,_,q6,cs8,hp6,hq6,rfl,hc11⟩:=(h.sl 0 rfl).1.ix hF
  exact zx hp6 hq6 ⟨he6.1,qx he6.2.1 (h.sl 0 rfl).2⟩ rfl (qaX qc 0 0 (W64 (y5+1)) h rfl hy6 hp6 hq6 rfl hc11 rfl rfl rfl rfl rfl rfl rfl fun w13 h=>X0 7 rfl (rK ⟨_,_,hF,rfl,h⟩ rfl))
 refine qm rfl ?_
 obtain rfl:=qb hF;replace hF:=hK3
 refine X0 5 rfl ?_
 obtain ⟨o4,hF,hK4⟩:=qd hF
 refine qk (rL (fun m e w'=>∃ (x7:(List Int)) (i4:Int),qci a_1 m x7 i4=some o4∧e=[(3,.pointer (some ⟨bb2,0,none⟩)),(9,.slice p14 x5.length x5.length),(12,.int .i64 i4)]∧SH w w' [Ch.own S9 (x7:List Int) [.slice p14 x5.length x5.length],Ch.box bb2 (qa3 a_1 p2 p3 p4 k2 k3 k4) 31]) n ⟨_,_,hF,rfl,h⟩ rfl ?_)
 rintro m4 e4 w14 ⟨x7,i4,hF,rfl,h⟩
 rcases m4 with _|m4
 ·cases hF
 refine X1 9 1 h rfl (qi rfl hF ?_ ?_)<;>intro hF
 ·refine X1 8 1 h rfl ?_
  obtain ⟨y7,hy7,hF,he7,b9,_,q7,cs9,hp7,hq7,hr7,hc13⟩:=s4.ix hF
  obtain rfl:=qaC hr7
  refine zxe hp7 hq7 he7 rfl (zp1 rfl (zc 1 (hc13.below h.below) rfl (X0 2 rfl (qi rfl hF ?_ ?_))))<;>intro hF
  ·refine X1 5 1 h rfl ?_
   obtain ⟨y8,hy8,hF,he8,b10,_,q8,cs10,hp8,hq8,hr8,hc15⟩:=s4.ix hF
   obtain rfl:=qaC hr8
   refine zxe hp8 hq8 he8 rfl (zp1 rfl (zc 2 (hc15.below h.below) rfl ?_))
   obtain ⟨y9,hy9,hF,he9,b11,_,q9,cs11,hp9,hq9,rfl,hc16⟩:=(h.sl 0 rfl).1.ix hF
   refine zx hp9 hq9 ⟨he9.1,qx he9.2.1 (h.sl 0 rfl).2⟩ rfl (zc 0 hc16 rfl (zp1 rfl ?_))
   obtain ⟨y10,hy10,hF,he10,b12,_,q10,cs12,hp10,hq10,rfl,hc17⟩:=(h.sl 0 rfl).1.ix hF
   exact zx hp10 hq10 ⟨he10.1,qx he10.2.1 (h.sl 0 rfl).2⟩ rfl (qaX qc 0 0 (W64 (y9+1)) h rfl hy10 hp10 hq10 rfl hc17 rfl rfl rfl rfl rfl rfl rfl fun w15 h=>X0 7 rfl (rK ⟨_,_,hF,rfl,h⟩ rfl))
  exact X0 7 rfl (rK ⟨_,_,hF,rfl,h⟩ rfl)
 refine qm rfl ?_
 obtain rfl:=qb hF;replace hF:=hK4
 refine X0 5 rfl ?_
 obtain ⟨o5,hF,hK5⟩:=qd hF
 refine qk ?_
 replace h:=h.pick [0] rfl
 refine rL (fun m e w'=>∃ (i5:Int),qdZ x5 x7 m i5=some o5∧e=[(9,.slice p14 x5.length x5.length),(13,.int .i64 i5)]∧SH w w' [Ch.own S9 (x7:List Int) [.slice p14 x5.length x5.length]]) n ⟨_,hF,rfl,h⟩ rfl ?_
 rintro m5 e5 w16 ⟨i5,hF,rfl,h⟩
 rcases m5 with _|m5
 ·cases hF
 refine X0 8 rfl (qi rfl hF ?_ ?_)<;>intro hF
 ·refine X0 7 rfl ?_
  obtain ⟨y11,hy11,hF,he11,b13,_,q11,cs13,hp11,hq11,rfl,hc19⟩:=(h.sl 0 rfl).1.ix hF
  refine zx hp11 hq11 ⟨he11.1,qx he11.2.1 (h.sl 0 rfl).2⟩ rfl (zc 0 hc19 rfl (X0 2 rfl (qi rfl hF ?_ ?_)))<;>intro hF
  ·refine X0 4 rfl ?_
   obtain rfl:=qb hF;replace hF:=hK5
   exact rb h hF rfl
  exact X0 7 rfl (rK ⟨_,hF,rfl,h⟩ rfl)
 refine qm rfl ?_
 obtain rfl:=qb hF;replace hF:=hK5
 exact X0 4 rfl (rb h hF rfl)
def qfv (a_0:qB):Nat→Int→Option (Flow Bool Int)
 | 0,_=>none
 | n+1,i2 =>
  bif decide (i2<(a_0.Bf.length:Int)) then
   (idx a_0.Bf i2).bind fun y7 =>
   (qan n y7 0 (W64 ((a_0.Ak.length:Int)-1))).bind fun r5 =>
   bif (!r5) then some (.ret false) else
   qfv a_0 n (W64 (i2+1))
  else
   some (.nxt i2)
def qcx (a_0:qB):Nat→Int→Option (Flow Bool Int)
 | 0,_=>none
 | n+1,i1 =>
  bif decide (i1<(a_0.Ak.length:Int)) then
   (
    (idx a_0.Bk i1).bind fun y5 =>
    (qan n y5 0 500).bind fun r3 =>
    bif (!r3) then some true else
    (idx a_0.Bn i1).bind fun y6 =>
    (qan n y6 0 1000).bind fun r4 =>
    some (!r4)).bind fun b2 =>
   bif b2 then some (.ret false) else
   bif (i1==0) then
    (idx a_0.Ak i1).bind fun y1 =>
    bif (y1 != (-1)) then some (.ret false) else
    (idx a_0.Bn i1).bind fun y2 =>
    bif (y2 != 0) then some (.ret false) else
    bif decide (i1 > 0) then
     (idx a_0.Ak i1).bind fun y3 =>
     (qan n y3 0 (W64 (i1-1))).bind fun r1 =>
     bif (!r1) then some (.ret false) else
     qcx a_0 n (W64 (i1+1))
    else
     qcx a_0 n (W64 (i1+1))
   else
    bif decide (i1 > 0) then
     (idx a_0.Ak i1).bind fun y4 =>
     (qan n y4 0 (W64 (i1-1))).bind fun r2 =>
     bif (!r2) then some (.ret false) else
     qcx a_0 n (W64 (i1+1))
    else
     qcx a_0 n (W64 (i1+1))
  else
   some (.nxt i1)
def qki (n:Nat) (a_0:qB) (a_1:Int):Option Bool :=
 (
  bif decide ((a_0.Ak.length:Int)<1) then some true else
  bif decide ((a_0.Ak.length:Int) > 8) then some true else
  bif ((a_0.Bn.length:Int) != (a_0.Ak.length:Int)) then some true else
  bif ((a_0.Bk.length:Int) != (a_0.Ak.length:Int)) then some true else
  some ((a_0.Bf.length:Int) != a_1)).bind fun b1 =>
 bif b1 then some false else
 (qcx a_0 n 0).bind fun o=>match o with
 | .ret r=>some r
 | .nxt _ =>
  (qfv a_0 n 0).bind fun o=>match o with
  | .ret r=>some r
  | .nxt _ =>
   some true
theorem qpf {a_0:qB} {a_1:Int} (ha1:GoT.R w (old w) a_0 cs1) {r:Bool} (hF:qki n a_0 a_1=some r):RetV Tryz.prog 96 [GoT.v qB cs1,.int .i64 a_1] w r:=by
 obtain ⟨p1,k1,p2,k2,p3,k3,p4,k4,rfl,s1,s2,s3,s4⟩:=qbe ha1
 refine zV 108 Tryz.func96 rfl fun h=>zSR (qu h rfl rfl fun w1 bb1 h=>X1 11 0 h rfl ?_)
 obtain ⟨KF2,hKF2,o4,hF,hK4⟩:=bindE hF
 refine qcB (fun e w'=>∃ (b1:Bool),KF2 b1=some r∧e=[(2,.pointer (some ⟨bb1,0,none⟩)),(5,.int .i64 (a_0.Ak.length:Int)),(37,.bool b1)]∧SH w w' [Ch.box bb1 (qh2 a_0 p1 p2 p3 p4 k1 k2 k3 k4) 148]) ?_ ?_
 ·refine X0 4 rfl (ql (t:=13) hF rfl ?_ ?_)<;>intro hF
  ·refine X0 25 rfl ?_
   obtain rfl:=qb hF
   exact rG ⟨_,hK4,rfl,h⟩ rfl
  refine X0 6 rfl (ql (t:=17) hF rfl ?_ ?_)<;>intro hF
  ·refine X0 21 rfl ?_
   obtain rfl:=qb hF
   exact rG ⟨_,hK4,rfl,h⟩ rfl
  refine X1 12 0 h rfl (ql (t:=24) hF rfl ?_ ?_)<;>intro hF
  ·refine X0 14 rfl ?_
   obtain rfl:=qb hF
   exact rG ⟨_,hK4,rfl,h⟩ rfl
  refine X1 12 0 h rfl (ql (t:=31) hF rfl ?_ ?_)<;>intro hF
  ·refine X0 7 rfl ?_
   obtain rfl:=qb hF
   exact rG ⟨_,hK4,rfl,h⟩ rfl
  refine X1 12 0 h rfl ?_
  obtain rfl:=qb hF
  exact rG ⟨_,hK4,rfl,h⟩ rfl
 rintro e4 w10 ⟨b1,hF,rfl,h⟩
 subst hKF2
 refine qi rfl hF ?_ ?_<;>intro hF
 ·exact X0 4 rfl (rb h hF rfl)
 refine X0 6 rfl ?_
 obtain ⟨o1,hF,hK1⟩:=qd hF
 refine qk (rL (fun m e w'=>∃ (i1:Int),qcx a_0 m i1=some o1∧e=[(2,.pointer (some ⟨bb1,0,none⟩)),(5,.int .i64 (a_0.Ak.length:Int)),(6,.int .i64 i1)]∧SH w w' [Ch.box bb1 (qh2 a_0 p1 p2 p3 p4 k1 k2 k3 k4) 148]) n ⟨_,hF,rfl,h⟩ rfl ?_)
 rintro m1 e1 w2 ⟨i1,hF,rfl,h⟩
 rcases m1 with _|m1
 ·cases hF
 refine X0 7 rfl (qi rfl hF ?_ ?_)<;>intro hF
 ·refine X0 5 rfl ?_
  obtain ⟨KF1,hKF1,o2,hF,hK2⟩:=bindE hF
  refine qcB (fun e w'=>∃ (b2:Bool),KF1 b2=some o1∧e=[(2,.pointer (some ⟨bb1,0,none⟩)),(5,.int .i64 (a_0.Ak.length:Int)),(6,.int .i64 i1),(58,.bool b2)]∧SH w w' [Ch.box bb1 (qh2 a_0 p1 p2 p3 p4 k1 k2 k3 k4) 148]) ?_ ?_
  ·refine X1 4 0 h rfl ?_
   obtain ⟨y5,hy5,hF,he5,b7,_,q5,cs6,hp5,hq5,rfl,hc10⟩:=s3.ix hF
   refine zxe hp5 hq5 he5 rfl (zc 0 (hc10.below h.below) rfl (zcB h hF qV rfl fun r3 w5 h hF=>zp2 rfl (ql (t:=50) hF rfl ?_ ?_)))<;>intro hF
   ·refine X0 9 rfl ?_
    obtain rfl:=qb hF
    exact rG ⟨_,hK2,rfl,h⟩ rfl
   refine X1 7 0 h rfl ?_
   obtain ⟨y6,hy6,hF,he6,b8,_,q6,cs7,hp6,hq6,rfl,hc11⟩:=s2.ix hF
   refine zxe hp6 hq6 he6 rfl (X0 1 rfl (zc 0 (hc11.below h.below) rfl (X0 1 rfl (zcB h hF qV rfl fun r4 w6 h hF=>X0 4 rfl ?_))))
   obtain rfl:=qb hF
   exact rG ⟨_,hK2,rfl,h⟩ rfl
  rintro e2 w7 ⟨b2,hF,rfl,h⟩
  subst hKF1
  refine qi rfl hF ?_ ?_<;>intro hF
  ·refine X0 4 rfl ?_
   obtain rfl:=qb hF;replace hF:=hK1
   exact rb h hF rfl
  refine X0 6 rfl (ql (t:=61) hF rfl ?_ ?_)<;>intro hF
  ·refine X1 7 0 h rfl ?_
   obtain ⟨y1,hy1,hF,he1,b3,_,q1,cs2,hp1,hq1,rfl,hc4⟩:=s1.ix hF
   refine zxe hp1 hq1 he1 rfl (X0 1 rfl (zc 0 (hc4.below h.below) rfl (X0 4 rfl (ql (t:=68) hF rfl ?_ ?_))))<;>intro hF
   ·refine X0 25 rfl (qes rfl rfl (X0 4 rfl ?_))
    obtain rfl:=qb hF;replace hF:=hK1
    exact rb h hF rfl
   refine X1 7 0 h rfl ?_
   obtain ⟨y2,hy2,hF,he2,b4,_,q2,cs3,hp2,hq2,rfl,hc5⟩:=s2.ix hF
   refine zxe hp2 hq2 he2 rfl (X0 1 rfl (zc 0 (hc5.below h.below) rfl (X0 6 rfl (ql (t:=77) hF rfl ?_ ?_))))<;>intro hF
   ·refine X0 15 rfl (qes rfl rfl (X0 4 rfl ?_))
    obtain rfl:=qb hF;replace hF:=hK1
    exact rb h hF rfl
   refine X0 6 rfl (ql (t:=80) hF rfl ?_ ?_)<;>intro hF
   ·refine X1 7 0 h rfl ?_
    obtain ⟨y3,hy3,hF,he3,b5,_,q3,cs4,hp3,hq3,rfl,hc6⟩:=s1.ix hF
    refine zxe hp3 hq3 he3 rfl (X0 1 rfl (zc 0 (hc6.below h.below) rfl (X0 5 rfl (zcB h hF qV rfl fun r1 w3 h hF=>X0 6 rfl (qi rfl hF ?_ ?_)))))<;>intro hF
    ·refine X0 4 rfl ?_
     obtain rfl:=qb hF;replace hF:=hK1
     exact rb h hF rfl
    exact X0 7 rfl (rK ⟨_,hF,rfl,h⟩ rfl)
   exact X0 13 rfl (qbK rfl rfl (X0 7 rfl (rK ⟨_,hF,rfl,h⟩ rfl)))
  refine X0 22 rfl (ql (t:=80) hF rfl ?_ ?_)<;>intro hF
  ·refine X1 7 0 h rfl ?_
   obtain ⟨y4,hy4,hF,he4,b6,_,q4,cs5,hp4,hq4,rfl,hc8⟩:=s1.ix hF
   refine zxe hp4 hq4 he4 rfl (X0 1 rfl (zc 0 (hc8.below h.below) rfl (X0 5 rfl (zcB h hF qV rfl fun r2 w4 h hF=>X0 6 rfl (qi rfl hF ?_ ?_)))))<;>intro hF
   ·refine X0 4 rfl ?_
    obtain rfl:=qb hF;replace hF:=hK1
    exact rb h hF rfl
   exact X0 7 rfl (rK ⟨_,hF,rfl,h⟩ rfl)
  exact X0 13 rfl (qbK rfl rfl (X0 7 rfl (rK ⟨_,hF,rfl,h⟩ rfl)))
 refine qm rfl ?_
 obtain rfl:=qb hF;replace hF:=hK1
 refine X0 5 rfl ?_
 obtain ⟨o3,hF,hK3⟩:=qd hF
 refine qk (rL (fun m e w'=>∃ (i2:Int),qfv a_0 m i2=some o3∧e=[(2,.pointer (some ⟨bb1,0,none⟩)),(5,.int .i64 (a_0.Ak.length:Int)),(7,.int .i64 i2)]∧SH w w' [Ch.box bb1 (qh2 a_0 p1 p2 p3 p4 k1 k2 k3 k4) 148]) n ⟨_,hF,rfl,h⟩ rfl ?_)
 rintro m2 e3 w8 ⟨i2,hF,rfl,h⟩
 rcases m2 with _|m2
 ·cases hF
 refine X1 9 0 h rfl (qi rfl hF ?_ ?_)<;>intro hF
 ·refine X1 8 0 h rfl ?_
  obtain ⟨y7,hy7,hF,he7,b9,_,q7,cs8,hp7,hq7,rfl,hc13⟩:=s4.ix hF
  refine zxe hp7 hq7 he7 rfl (zc 0 (hc13.below h.below) rfl (zp2 rfl (zcB h hF qV rfl fun r5 w9 h hF=>X0 2 rfl (qi rfl hF ?_ ?_))))<;>intro hF
  ·refine X0 4 rfl ?_
   obtain rfl:=qb hF;replace hF:=hK3
   exact rb h hF rfl
  exact X0 7 rfl (rK ⟨_,hF,rfl,h⟩ rfl)
 refine qm rfl ?_
 obtain rfl:=qb hF;replace hF:=hK3
 exact X0 4 rfl (rb h hF rfl)
def qcE (i1:Int) (y1:qj):Nat→(List Tl05Place)→Int→Option ((List Tl05Place) × Int)
 | 0,_,_=>none
 | n+1,x2,i2 =>
  bif decide (i2<(y1.Af.length:Int)) then
   (idx y1.Af i2).bind fun y2 =>
   (appS x2 ([(⟨i1,i2,y2,(i2==(W64 ((y1.Af.length:Int)-1)))⟩:Tl05Place)]:List Tl05Place)).bind fun x3 =>
   qcE i1 y1 n x3 (W64 (i2+1))
  else
   some (x2,i2)
def qcu (a_0:qf):Nat→(List Tl05Place)→Int→Option ((List Tl05Place) × Int)
 | 0,_,_=>none
 | n+1,x4,i3 =>
  bif decide (i3<(a_0.Ac.length:Int)) then
   (idx a_0.Ac i3).bind fun y3 =>
   (idx a_0.Ac i3).bind fun y4 =>
   (appS x4 ([(⟨(-1),i3,y3.Bp,(y4.Bl==1)⟩:Tl05Place)]:List Tl05Place)).bind fun x5 =>
   qcu a_0 n x5 (W64 (i3+1))
  else
   some (x4,i3)
def qcA (a_0:qf):Nat→(List Tl05Place)→Int→Option ((List Tl05Place) × Int)
 | 0,_,_=>none
 | n+1,x1,i1 =>
  bif decide (i1<(a_0.Aa.length:Int)) then
   (idx a_0.Aa i1).bind fun y1 =>
   (qcE i1 y1 n x1 0).bind fun o=>match o with
   | (x2,_) =>
    qcA a_0 n x2 (W64 (i1+1))
  else
   some (x1,i1)
def qdd (n:Nat) (a_0:qf):Option (List Tl05Place) :=
 (qcA a_0 n ([]:List Tl05Place) 0).bind fun o=>match o with
 | (x1,_) =>
  (qcu a_0 n x1 0).bind fun o=>match o with
  | (x4,_) =>
   some x4
theorem qeT {a_0:qf} (ha1:GoT.R w (old w) a_0 cs1) {r:(List Tl05Place)} (hF:qdd n a_0=some r):RetV Tryz.prog 130 [GoT.v qf cs1] w r:=by
 obtain ⟨p1,k1,p2,k2,p3,k3,rfl,s1,s2,s3⟩:=qag ha1
 refine zV 69 Tryz.func130 rfl fun h=>zSR (qu h rfl rfl fun w1 bb1 h=>X0 4 rfl (qG qc [] _ ([]:List Tl05Place) h rfl rfl rfl rfl rfl rfl rfl rfl rfl trivial rfl fun w2 p4 S1 h=>X0 7 rfl ?_))
 obtain ⟨o1,hF,hK1⟩:=qd hF
 refine qk (rL (fun m e w'=>∃ (S2:Nat→Prop) (p5:Option Addr) (ln1:Nat) (k4:Nat) (x1:(List Tl05Place)) (i1:Int),qcA a_0 m x1 i1=some o1∧e=[(1,.pointer (some ⟨bb1,0,none⟩)),(3,.slice p5 ln1 k4),(4,.int .i64 i1)]∧SH w w' [Ch.own S2 (x1:List Tl05Place) [.slice p5 ln1 k4],Ch.box bb1 (qa3 a_0 p1 p2 p3 k1 k2 k3) 31]) n ⟨_,_,_,_,_,_,hF,rfl,h⟩ rfl ?_)
 rintro m1 e1 w3 ⟨S2,p5,ln1,k4,x1,i1,hF,rfl,h⟩
 obtain rfl:=(h.sl 0 rfl).2
 rcases m1 with _|m1
 ·cases hF
 refine X1 9 1 h rfl (qi rfl hF ?_ ?_)<;>intro hF
 ·refine X1 8 1 h rfl ?_
  obtain ⟨y1,hy1,hF,he1,b1,_,q1,cs2,hp1,hq1,hr1,hc2⟩:=s1.ix hF
  obtain ⟨p6,k5,rfl,s4⟩:=qM hr1
  refine zxe hp1 hq1 he1 rfl (zp1 rfl (zc 2 (hc2.below h.below) rfl (X0 6 rfl ?_)))
  obtain ⟨o2,hF,hK2⟩:=qd hF
  refine qk (rL (fun m e w'=>∃ (S3:Nat→Prop) (p7:Option Addr) (ln2:Nat) (k6:Nat) (x2:(List Tl05Place)) (i2:Int),qcE i1 y1 m x2 i2=some o2∧e=[(1,.pointer (some ⟨bb1,0,none⟩)),(3,.slice p7 ln2 k6),(4,.int .i64 i1),(5,.slice p6 y1.Af.length k5),(6,.int .i64 i2)]∧SH w w' [Ch.own S3 (x2:List Tl05Place) [.slice p7 ln2 k6],Ch.box bb1 (qa3 a_0 p1 p2 p3 k1 k2 k3) 31]) m1 ⟨_,_,_,_,_,_,hF,rfl,h⟩ rfl ?_)
  rintro m2 e2 w4 ⟨S3,p7,ln2,k6,x2,i2,hF,rfl,h⟩
  obtain rfl:=(h.sl 0 rfl).2
  rcases m2 with _|m2
  ·cases hF
  refine X0 8 rfl (qi rfl hF ?_ ?_)<;>intro hF
  ·refine X0 9 rfl ?_
   obtain ⟨y2,hy2,hF,he2,b2,_,q2,cs3,hp2,hq2,rfl,hc4⟩:=s4.ix hF
   refine zxe hp2 hq2 he2 rfl (zc 0 (hc4.below h.below) rfl (zp5 rfl (r_v (qgI qc [0,1,2,3] [.tmp 29,.tmp 30,.tmp 34,.tmp 39] rfl rfl rfl rfl rfl rfl rfl rfl) rfl (qG qc [.tmp 40] _ ([(⟨i1,i2,y2,(i2==(W64 ((y1.Af.length:Int)-1)))⟩:Tl05Place)]:List Tl05Place) h rfl rfl rfl rfl rfl rfl rfl rfl rfl ⟨(qgZ (⟨i1,i2,y2,(i2==(W64 ((y1.Af.length:Int)-1)))⟩:Tl05Place)),trivial⟩ rfl fun w5 p8 S4 h=>?_))))
   obtain ⟨x3,hx1,hF⟩:=qd hF
   obtain ⟨g1,hx1⟩:=qae hx1
   refine qcg qc 1 h rfl (h.sl 0 rfl).1 (h.sl 0 rfl).2 rfl rfl rfl rfl rfl rfl rfl rfl rfl g1 hx1 rfl fun w6 p9 k7 S5 h=>X0 8 rfl ?_
   replace h:=h.pick [1,2] rfl
   exact rK ⟨_,_,_,_,_,_,hF,rfl,h⟩ rfl
  refine qm rfl ?_
  obtain rfl:=qb hF;replace hF:=hK2
  exact X0 6 rfl (rK ⟨_,_,_,_,_,_,hF,rfl,h⟩ rfl)
 refine qm rfl ?_
 obtain rfl:=qb hF;replace hF:=hK1
 refine X0 5 rfl ?_
 obtain ⟨o3,hF,hK3⟩:=qd hF
 refine qk (rL (fun m e w'=>∃ (S6:Nat→Prop) (p10:Option Addr) (ln3:Nat) (k8:Nat) (x4:(List Tl05Place)) (i3:Int),qcu a_0 m x4 i3=some o3∧e=[(1,.pointer (some ⟨bb1,0,none⟩)),(3,.slice p10 ln3 k8),(7,.int .i64 i3)]∧SH w w' [Ch.own S6 (x4:List Tl05Place) [.slice p10 ln3 k8],Ch.box bb1 (qa3 a_0 p1 p2 p3 k1 k2 k3) 31]) n ⟨_,_,_,_,_,_,hF,rfl,h⟩ rfl ?_)
 rintro m3 e3 w7 ⟨S6,p10,ln3,k8,x4,i3,hF,rfl,h⟩
 obtain rfl:=(h.sl 0 rfl).2
 rcases m3 with _|m3
 ·cases hF
 refine X1 9 1 h rfl (qi rfl hF ?_ ?_)<;>intro hF
 ·refine zKSB (rA [] [1] h rfl fun w8 h=>M1 31 [0,1,2,3,4] 0 (h.pick [1] rfl) rfl ?_)
  obtain ⟨y3,hy3,hF,he3,b3,_,q3,cs4,hp3,hq3,hr3,hc6⟩:=s3.ix hF
  obtain rfl:=qaC hr3
  refine Ae 5 63 hp3 hq3 he3 (h.pick [1] rfl) rfl (M0 127 [6] (h.pick [1] rfl) rfl (Al 7 255 2 hc6 (h.pick [1] rfl) rfl (M1 2047 [8,9,10] 0 (h.pick [1] rfl) rfl ?_)))
  obtain ⟨y4,hy4,hF,he4,b4,_,q4,cs5,hp4,hq4,hr4,hc7⟩:=s3.ix hF
  obtain rfl:=qaC hr4
  refine Ae 11 4095 hp4 hq4 he4 (h.pick [1] rfl) rfl (M0 8191 [12] (h.pick [1] rfl) rfl (Al 13 16383 1 hc7 (h.pick [1] rfl) rfl (M0 32767 [14] (h.pick [1] rfl) rfl (Aw 15 65535 (fun w' hw=>qgI qc [0,1,2,3] [.const (.int .i64 (-1)),.tmp 51,.tmp 57,.tmp 64] rfl rfl rfl rfl rfl rfl rfl rfl) (h.pick [1] rfl) rfl ?_))))
  refine Ao 16 131071 rfl (qG qc [.tmp 65] _ ([(⟨(-1),i3,y3.Bp,(y4.Bl==1)⟩:Tl05Place)]:List Tl05Place) h rfl rfl rfl rfl rfl rfl rfl rfl rfl ⟨(qgZ (⟨(-1),i3,y3.Bp,(y4.Bl==1)⟩:Tl05Place)),trivial⟩ rfl fun w9 p11 S7 h=>Ag (h.pick [2] rfl) (Ao 17 262143 rfl ?_))
  obtain ⟨x5,hx2,hF⟩:=qd hF
  obtain ⟨g2,hx2⟩:=qae hx2
  refine qcg qc 1 h rfl (h.sl 0 rfl).1 (h.sl 0 rfl).2 rfl rfl rfl rfl rfl rfl rfl rfl rfl g2 hx2 rfl fun w10 p12 k9 S8 h=>G0 524287 [18] (h.pick [2] rfl) rfl (Ad (X0 6 rfl ?_))
  replace h:=h.pick [1,2] rfl
  exact rK ⟨_,_,_,_,_,_,hF,rfl,h⟩ rfl
 refine qm rfl ?_
 obtain rfl:=qb hF;replace hF:=hK3
 refine X0 5 rfl ?_
 obtain rfl:=qb hF
 exact rO 0 h rfl ⟨rfl,trivial⟩
def qcl (net:Int) (r1:(List Tl05Place)):Nat→(List Int)→Int→Option ((List Int) × Int)
 | 0,_,_=>none
 | n+1,x1,i1 =>
  bif decide (i1<(r1.length:Int)) then
   (
    (idx r1 i1).bind fun y1 =>
    bif (y1.net==net) then
     (idx r1 i1).bind fun y2 =>
     some (!y2.drives)
    else
     some false).bind fun b1 =>
   bif b1 then
    (appS x1 ([i1]:List Int)).bind fun x2 =>
    qcl net r1 n x2 (W64 (i1+1))
   else
    qcl net r1 n x1 (W64 (i1+1))
  else
   some (x1,i1)
def qg1 (n:Nat) (d:qf) (net:Int):Option (List Int) :=
 (qdd n d).bind fun r1 =>
 (qcl net r1 n ([]:List Int) 0).bind fun o=>match o with
 | (x1,_) =>
  some x1
theorem qkP {d:qf} {net:Int} (ha1:GoT.R w (old w) d cs1) {r:(List Int)} (hF:qg1 n d net=some r):RetV Tryz.prog 97 [GoT.v qf cs1,.int .i64 net] w r:=by
 obtain ⟨p1,k1,p2,k2,p3,k3,rfl,s1,s2,s3⟩:=qag ha1
 refine zV 37 Tryz.func97 rfl fun h=>zSR (qu h rfl rfl fun w1 bb1 h=>X0 4 rfl (qG qc [] _ ([]:List Int) h rfl rfl rfl rfl rfl rfl rfl rfl rfl trivial rfl fun w2 p4 S1 h=>X1 5 1 h rfl (zcL h hF (qeT (h.old ha1)) rfl fun r1 w3 S2 p5 k4 h hF=>X0 7 rfl ?_)))
 obtain ⟨o1,hF,hK1⟩:=qd hF
 refine qk ?_
 replace h:=h.pick [0,1] rfl
 refine rL (fun m e w'=>∃ (S3:Nat→Prop) (p6:Option Addr) (ln1:Nat) (k5:Nat) (x1:(List Int)) (i1:Int),qcl net r1 m x1 i1=some o1∧e=[(1,.int .i64 net),(5,.slice p6 ln1 k5),(6,.slice p5 r1.length k4),(7,.int .i64 i1)]∧SH w w' [Ch.own S2 (r1:List Tl05Place) [.slice p5 r1.length k4],Ch.own S3 (x1:List Int) [.slice p6 ln1 k5]]) n ⟨_,_,_,_,_,_,hF,rfl,h⟩ rfl ?_
 rintro m1 e1 w4 ⟨S3,p6,ln1,k5,x1,i1,hF,rfl,h⟩
 obtain rfl:=(h.sl 1 rfl).2
 rcases m1 with _|m1
 ·cases hF
 refine X0 8 rfl (qi rfl hF ?_ ?_)<;>intro hF
 ·refine X0 4 rfl ?_
  obtain ⟨KF1,hKF1,o2,hF,hK2⟩:=bindE hF
  refine qcB (fun e w'=>∃ (b1:Bool),KF1 b1=some o1∧e=[(1,.int .i64 net),(5,.slice p6 x1.length k5),(6,.slice p5 r1.length k4),(7,.int .i64 i1),(31,.bool b1)]∧SH w w' [Ch.own S2 (r1:List Tl05Place) [.slice p5 r1.length k4],Ch.own S3 (x1:List Int) [.slice p6 x1.length k5]]) ?_ ?_
  ·refine X0 3 rfl ?_
   obtain ⟨y1,hy1,hF,he1,b2,_,q1,cs2,hp1,hq1,hr2,hc3⟩:=(h.sl 0 rfl).1.ix hF
   obtain rfl:=qbG hr2
   refine zx hp1 hq1 ⟨he1.1,qx he1.2.1 (h.sl 0 rfl).2⟩ rfl (zp1 rfl (zc 2 hc3 rfl (zp3 rfl (ql (t:=24) hF rfl ?_ ?_))))<;>intro hF
   ·refine X0 5 rfl ?_
    obtain ⟨y2,hy2,hF,he2,b3,_,q2,cs3,hp2,hq2,hr3,hc4⟩:=(h.sl 0 rfl).1.ix hF
    obtain rfl:=qbG hr3
    refine zx hp2 hq2 ⟨he2.1,qx he2.2.1 (h.sl 0 rfl).2⟩ rfl (X0 3 rfl (zc 3 hc4 rfl (X0 4 rfl ?_)))
    obtain rfl:=qb hF
    exact rG ⟨_,hK2,rfl,h⟩ rfl
   refine X0 8 rfl ?_
   obtain rfl:=qb hF
   exact rG ⟨_,hK2,rfl,h⟩ rfl
  rintro e2 w7 ⟨b1,hF,rfl,h⟩
  subst hKF1
  refine qi rfl hF ?_ ?_<;>intro hF
  ·refine X0 3 rfl (qG qc [.tmp 33] _ ([i1]:List Int) h rfl rfl rfl rfl rfl rfl rfl rfl rfl ⟨rfl,trivial⟩ rfl fun w5 p7 S4 h=>?_)
   obtain ⟨x2,hx1,hF⟩:=qd hF
   obtain ⟨g1,hx1⟩:=qae hx1
   refine qcg qc 2 h rfl (h.sl 0 rfl).1 (h.sl 0 rfl).2 rfl rfl rfl rfl rfl rfl rfl rfl rfl g1 hx1 rfl fun w6 p8 k6 S5 h=>X0 8 rfl ?_
   replace h:=h.pick [1,2] rfl
   exact rK ⟨_,_,_,_,_,_,hF,rfl,h⟩ rfl
  exact X0 7 rfl (rK ⟨_,_,_,_,_,_,hF,rfl,h⟩ rfl)
 refine qm rfl ?_
 obtain rfl:=qb hF;replace hF:=hK1
 refine X0 5 rfl ?_
 obtain rfl:=qb hF
 exact rO 1 h rfl ⟨rfl,trivial⟩
def qeD (b:qg):Nat→Int→Option (Flow Bool Int)
 | 0,_=>none
 | n+1,i1 =>
  bif decide (i1<(b.Aj.length:Int)) then
   (idx b.Aj i1).bind fun y1 =>
   (qg1 n (⟨b.Ab.Aa,b.Ab.Af,b.Ab.Ac⟩:qf) i1).bind fun r1 =>
   (qki n y1 (r1.length:Int)).bind fun r2 =>
   bif (!r2) then some (.ret false) else
   qeD b n (W64 (i1+1))
  else
   some (.nxt i1)
def qhz (n:Nat) (b:qg):Option Bool :=
 (
  (qg3 n (⟨b.Ai.Ah⟩:qn) (⟨b.Ab.Aa,b.Ab.Af,b.Ab.Ac⟩:qf)).bind fun r3 =>
  bif (!r3) then some true else
  some ((b.Aj.length:Int) != (b.Ab.Af.length:Int))).bind fun b1 =>
 bif b1 then some false else
 (qeD b n 0).bind fun o=>match o with
 | .ret r=>some r
 | .nxt _ =>
  some true
theorem qlt {b:qg} (ha1:GoT.R w (old w) b cs1) {r:Bool} (hF:qhz n b=some r):RetV Tryz.prog 41 [GoT.v qg cs1] w r:=by
 obtain ⟨p1,k1,p2,k2,p3,k3,p4,k4,p5,k5,rfl,s1,s2,s3,s4,s5⟩:=qK ha1
 refine zV 39 Tryz.func41 rfl fun h=>zSR (qu h rfl rfl fun w1 bb1 h=>X0 4 rfl ?_)
 obtain ⟨KF1,hKF1,o2,hF,hK2⟩:=bindE hF
 refine qcB (fun e w'=>∃ (b1:Bool),KF1 b1=some r∧e=[(1,.pointer (some ⟨bb1,0,none⟩)),(19,.bool b1)]∧SH w w' [Ch.box bb1 (qal b p1 p2 p3 p4 p5 k1 k2 k3 k4 k5) 34]) ?_ ?_
 ·refine X2 5 0 0 h rfl (zcB h hF (qkM (qb9 _ (h.oldS s1)) (qaz _ (h.oldS s2) (h.oldS s3) (h.oldS s4))) rfl fun r3 w6 h hF=>zp2 rfl (ql (t:=10) hF rfl ?_ ?_))<;>intro hF
  ·refine X0 10 rfl ?_
   obtain rfl:=qb hF
   exact rG ⟨_,hK2,rfl,h⟩ rfl
  refine X2 18 0 0 h rfl ?_
  obtain rfl:=qb hF
  exact rG ⟨_,hK2,rfl,h⟩ rfl
 rintro e2 w7 ⟨b1,hF,rfl,h⟩
 subst hKF1
 refine qi rfl hF ?_ ?_<;>intro hF
 ·exact X0 4 rfl (rb h hF rfl)
 refine X0 6 rfl ?_
 obtain ⟨o1,hF,hK1⟩:=qd hF
 refine qk (rL (fun m e w'=>∃ (i1:Int),qeD b m i1=some o1∧e=[(1,.pointer (some ⟨bb1,0,none⟩)),(3,.int .i64 i1)]∧SH w w' [Ch.box bb1 (qal b p1 p2 p3 p4 p5 k1 k2 k3 k4 k5) 34]) n ⟨_,hF,rfl,h⟩ rfl ?_)
 rintro m1 e1 w2 ⟨i1,hF,rfl,h⟩
 rcases m1 with _|m1
 ·cases hF
 refine X1 9 0 h rfl (qi rfl hF ?_ ?_)<;>intro hF
 ·refine X0 4 rfl (rA [] [0] h rfl fun w3 h=>M1 7 [0,1,2] 0 (h.pick [0] rfl) rfl ?_)
  obtain ⟨y1,hy1,hF,he1,b2,_,q1,cs2,hp1,hq1,hr1,hc3⟩:=s5.ix hF
  obtain ⟨p6,k6,p7,k7,p8,k8,p9,k9,rfl,s6,s7,s8,s9⟩:=qbe hr1
  refine Ae 3 15 hp1 hq1 he1 (h.pick [0] rfl) rfl (Al 4 31 0 hc3 (h.pick [0] rfl) rfl (M1 255 [5,6,7] 0 (h.pick [0] rfl) rfl (Ao 8 511 rfl (zcL h hF (qkP (qaz _ (h.oldS s2) (h.oldS s3) (h.oldS s4))) rfl fun r1 w4 S1 p10 k10 h hF=>G0 1023 [9] (h.pick [1] rfl) rfl (Ao 10 2047 rfl (zcB h hF (qpf (qjB y1 (h.oldS s6) (h.oldS s7) (h.oldS s8) (h.oldS s9))) rfl fun r2 w5 h hF=>G0 4095 [11] (h.pick [1] rfl) rfl (Ad (qi rfl hF ?_ ?_))))))))<;>intro hF
  ·refine X0 4 rfl ?_
   obtain rfl:=qb hF;replace hF:=hK1
   exact rb h hF rfl
  refine X0 7 rfl ?_
  replace h:=h.pick [1] rfl
  exact rK ⟨_,hF,rfl,h⟩ rfl
 refine qm rfl ?_
 obtain rfl:=qb hF;replace hF:=hK1
 exact X0 4 rfl (rb h hF rfl)
def qaE (_:Nat) (x:Int) (low:Int) (high:Int):Option Bool :=
 bif decide (x ≥ low) then some (decide (x≤high)) else
 some false
theorem qar {x:Int} {low:Int} {high:Int}  {r:Bool} (hF:qaE n x low high=some r):RetV Tryz.prog 79 [.int .i64 x,.int .i64 low,.int .i64 high] w r:=by
 refine zV 15 Tryz.func79 rfl fun h=>X0 10 rfl (ql (t:=10) hF rfl ?_ ?_)<;>intro hF
 ·exact X0 9 rfl (rb h hF rfl)
 exact X0 6 rfl (rb h hF rfl)
def qhO (_:Nat) (s cutset:ByteArray):Option ByteArray :=
 if s.size≤9223372036854775807∧cutset.size<4294967281∧cutset.data.toList.all (fun b=>decide (b.toNat<128))=true then some ⟨(Lib.trimS s.data.toList cutset.data.toList).toArray⟩ else none
theorem qor {s cutset:ByteArray} {r:ByteArray} (hF:qhO n s cutset=some r):RetV Tryz.prog 243 [.string s,.string cutset] w r:=by
 unfold qhO at hF
 split at hF
 ·rename_i hh
  obtain rfl:=qb hF
  refine (Tryz.strings_Trim_any s cutset w hh.1 hh.2.1 hh.2.2).mono ?_
  rintro e w' ⟨rfl,hB⟩
  exact ⟨_,rfl,hB,[.string _],rfl,qsH _ _⟩
 cases hF
def qge (_:Nat) (s:ByteArray) (c:(IntK .u8)):Option Int :=
 some (Lib.indexByte s.data.toList c.val.toNat.toUInt8)
theorem qmb {s:ByteArray} {c:(IntK .u8)} {r:Int} (hF:qge n s c=some r):RetV Tryz.prog 244 [.string s,.int .u8 c.val] w r:=by
 obtain rfl:=qb hF
 refine (Tryz.strings_IndexByte s c.val w).mono ?_
 rintro e w' ⟨rfl,rfl⟩
 exact ⟨_,rfl,Below.refl _ _,[.int .i64 _],rfl,qu2 _ _⟩
def qiJ (n:Nat) (s:ByteArray):Option Bool :=
 (qaE n (s.size:Int) 1 8).bind fun r1 =>
 bif r1 then
  (qhO n s (⟨#[97,98,99,100,101,102,103,104,105,106,107,108,109,110,111,112,113,114,115,116,117,118,119,120,121,122,48,49,50,51,52,53,54,55,56,57]⟩:ByteArray)).bind fun r2 =>
  bif (r2.toList==(⟨#[]⟩:ByteArray).toList) then
   (atS s 0).bind fun y1 =>
   (qge n (⟨#[97,98,99,100,101,102,103,104,105,106,107,108,109,110,111,112,113,114,115,116,117,118,119,120,121,122]⟩:ByteArray) (⟨y1⟩:IntK .u8)).bind fun r3 =>
   some (decide (r3 ≥ 0))
  else
   some false
 else
  some false
theorem qlM {s:ByteArray}  {r:Bool} (hF:qiJ n s=some r):RetV Tryz.prog 232 [.string s] w r:=by
 refine zV 17 Tryz.func232 rfl fun h=>X0 8 rfl (zcB h hF qar rfl fun r1 w1 h hF=>zp1 rfl (ql (t:=6) hF rfl ?_ ?_))<;>intro hF
 ·refine X0 3 rfl (zcS h hF qor rfl fun r2 w2 h hF=>X0 4 rfl (ql (t:=11) hF rfl ?_ ?_))<;>intro hF
  ·refine X0 3 rfl ?_
   obtain ⟨y1,hx1,hF⟩:=qd hF
   have g1:=qlJ hx1
   exact r_v (qlR qc g1 rfl rfl rfl rfl) rfl (X0 1 rfl (zcI h hF qmb rfl fun r3 w3 h hF=>X0 5 rfl (rb h hF rfl)))
  exact X0 7 rfl (rb h hF rfl)
 exact X0 12 rfl (rb h hF rfl)
def qbD (_:Nat) (list:(List qX)):Option Int :=
 some (list.length:Int)
theorem qhq {list:(List qX)} (ha1:GoT.R w (old w) list cs1) {r:Int} (hF:qbD n list=some r):RetV Tryz.prog 195 [GoT.v (List qX) cs1] w r:=by
 obtain ⟨p1,k1,rfl,s1⟩:=ha1
 exact zV 5 Tryz.func195 rfl fun h=>X0 10 rfl (ri h hF rfl)
def qbL (s:(List ByteArray)) (v:ByteArray):Nat→Int→Option (Flow Int Int)
 | 0,_=>none
 | n+1,i1 =>
  bif decide (i1<(s.length:Int)) then
   (idx s i1).bind fun y1 =>
   bif (v.toList==y1.toList) then some (.ret i1) else
   qbL s v n (W64 (i1+1))
  else
   some (.nxt i1)
def qe7 (n:Nat) (s:(List ByteArray)) (v:ByteArray):Option Int :=
 (qbL s v n 0).bind fun o=>match o with
 | .ret r=>some r
 | .nxt _ =>
  some (-1)
theorem qk9 {s:(List ByteArray)} {v:ByteArray} (ha1:GoT.R w (old w) s cs1) {r:Int} (hF:qe7 n s v=some r):RetV Tryz.prog 248 [GoT.v (List ByteArray) cs1,.string v] w r:=by
 obtain ⟨p1,k1,rfl,s1⟩:=ha1
 refine zV 19 Tryz.func248 rfl fun h=>X0 11 rfl ?_
 obtain ⟨o1,hF,hK1⟩:=qd hF
 refine qk (rL (fun m e w'=>∃ (i1:Int),qbL s v m i1=some o1∧e=[(0,.slice p1 s.length k1),(1,.string v),(7,.int .i64 (s.length:Int)),(8,.int .i64 i1)]∧SH w w' []) n ⟨_,hF,rfl,h⟩ rfl ?_)
 rintro m1 e1 w1 ⟨i1,hF,rfl,h⟩
 rcases m1 with _|m1
 ·cases hF
 refine X0 5 rfl (qi rfl hF ?_ ?_)<;>intro hF
 ·refine X0 13 rfl ?_
  obtain ⟨y1,hy1,hF,he1,b1,_,q1,cs2,hp1,hq1,rfl,hc2⟩:=s1.ix hF
  refine zxe hp1 hq1 he1 rfl (zc 0 (hc2.below h.below) rfl (X0 2 rfl (qi rfl hF ?_ ?_)))<;>intro hF
  ·refine X0 5 rfl ?_
   obtain rfl:=qb hF;replace hF:=hK1
   exact ri h hF rfl
  exact X0 6 rfl (rK ⟨_,hF,rfl,h⟩ rfl)
 refine qm rfl ?_
 obtain rfl:=qb hF;replace hF:=hK1
 exact X0 4 rfl (ri h hF rfl)
def qdO (n:Nat) (s:(List ByteArray)) (v:ByteArray):Option Bool :=
 (qe7 n s v).bind fun r1 =>
 some (decide (r1 ≥ 0))
theorem qj4 {s:(List ByteArray)} {v:ByteArray} (ha1:GoT.R w (old w) s cs1) {r:Bool} (hF:qdO n s v=some r):RetV Tryz.prog 236 [GoT.v (List ByteArray) cs1,.string v] w r:=by
 obtain ⟨p1,k1,rfl,s1⟩:=ha1
 exact zV 9 Tryz.func236 rfl fun h=>X0 8 rfl (zcI h hF (qk9 ⟨_,_,rfl,(h.oldS s1)⟩) rfl fun r1 w1 h hF=>X0 3 rfl (rb h hF rfl))
def qdX (list:(List ByteArray)):Nat→Int→Option (Flow Bool Int)
 | 0,_=>none
 | n+1,i1 =>
  bif decide (i1<(list.length:Int)) then
   (idx list i1).bind fun y1 =>
   (qiJ n y1).bind fun r1 =>
   bif (!r1) then some (.ret false) else
   (subS list 0 i1).bind fun x1 =>
   (qdO n x1 y1).bind fun r2 =>
   bif r2 then some (.ret false) else
   qdX list n (W64 (i1+1))
  else
   some (.nxt i1)
def qdT (n:Nat) (list:(List ByteArray)):Option Bool :=
 (qdX list n 0).bind fun o=>match o with
 | .ret r=>some r
 | .nxt _ =>
  some true
theorem qfj {list:(List ByteArray)} (ha1:GoT.R w (old w) list cs1) {r:Bool} (hF:qdT n list=some r):RetV Tryz.prog 214 [GoT.v (List ByteArray) cs1] w r:=by
 obtain ⟨p1,k1,rfl,s1⟩:=ha1
 refine zV 23 Tryz.func214 rfl fun h=>X0 11 rfl ?_
 obtain ⟨o1,hF,hK1⟩:=qd hF
 refine qk (rL (fun m e w'=>∃ (i1:Int),qdX list m i1=some o1∧e=[(0,.slice p1 list.length k1),(5,.slice p1 list.length k1),(6,.int .i64 (list.length:Int)),(7,.int .i64 i1)]∧SH w w' []) n ⟨_,hF,rfl,h⟩ rfl ?_)
 rintro m1 e1 w1 ⟨i1,hF,rfl,h⟩
 rcases m1 with _|m1
 ·cases hF
 refine X0 5 rfl (qi rfl hF ?_ ?_)<;>intro hF
 ·refine X0 6 rfl ?_
  obtain ⟨y1,hy1,hF,he1,b1,_,q1,cs2,hp1,hq1,rfl,hc2⟩:=s1.ix hF
  refine zxe hp1 hq1 he1 rfl (zc 0 (hc2.below h.below) rfl (X0 6 rfl (zcB h hF qlM rfl fun r1 w2 h hF=>zp2 rfl (ql (t:=15) hF rfl ?_ ?_))))<;>intro hF
  ·refine X0 7 rfl (qes rfl rfl (X0 4 rfl ?_))
   obtain rfl:=qb hF;replace hF:=hK1
   exact rb h hF rfl
  refine X0 5 rfl ?_
  obtain ⟨x1,hx1,hF⟩:=qd hF
  obtain ⟨p2,k2,hp2,hk1,hl1,g1⟩:=qsF (h.oldS s1) hx1
  refine r_v (qdI qc rfl rfl rfl (qsS g1 rfl) hp2 hk1 hl1 rfl rfl rfl rfl) rfl ?_
  have s2:=qs9 s1 hx1 hp2 hk1
  refine X0 3 rfl (zcB h hF (qj4 ⟨_,_,rfl,(h.oldS s2)⟩) rfl fun r2 w3 h hF=>X0 2 rfl (qi rfl hF ?_ ?_))<;>intro hF
  ·refine X0 4 rfl ?_
   obtain rfl:=qb hF;replace hF:=hK1
   exact rb h hF rfl
  exact X0 6 rfl (rK ⟨_,hF,rfl,h⟩ rfl)
 refine qm rfl ?_
 obtain rfl:=qb hF;replace hF:=hK1
 exact X0 4 rfl (rb h hF rfl)
def qcQ (list:(List qX)):Nat→(List ByteArray)→Int→Option (Flow Bool ((List ByteArray) × Int))
 | 0,_,_=>none
 | n+1,x1,i1 =>
  bif decide (i1<(list.length:Int)) then
   (idx list i1).bind fun y1 =>
   (appS x1 ([y1.As]:List ByteArray)).bind fun x2 =>
   bif (i1==(W64 ((list.length:Int)-1))) then
    bif (y1.Bl != 2) then some (.ret false) else
    bif (y1.Bk != 0) then some (.ret false) else
    bif y1.Be then some (.ret false) else
    qcQ list n x2 (W64 (i1+1))
   else
    bif (y1.Bl != 1) then some (.ret false) else
    (qaE n y1.Bk 0 500).bind fun r1 =>
    bif (!r1) then some (.ret false) else
    qcQ list n x2 (W64 (i1+1))
  else
   some (.nxt (x1,i1))
def qjp (n:Nat) (list:(List qX)):Option Bool :=
 (qcQ list n ([]:List ByteArray) 0).bind fun o=>match o with
 | .ret r=>some r
 | .nxt (x1,_) =>
  (qbD n list).bind fun r2 =>
  (qaE n r2 2 5).bind fun r3 =>
  bif r3 then
   (qdT n x1).bind fun r4 =>
   some r4
  else
   some false
theorem qoB {list:(List qX)} (ha1:GoT.R w (old w) list cs1) {r:Bool} (hF:qjp n list=some r):RetV Tryz.prog 233 [GoT.v (List qX) cs1] w r:=by
 obtain ⟨p1,k1,rfl,s1⟩:=ha1
 refine zV 52 Tryz.func233 rfl fun h=>X0 15 rfl ?_
 replace h:=h.nil (α:=ByteArray)
 obtain ⟨o1,hF,hK1⟩:=qd hF
 refine qk (rL (fun m e w'=>∃ (S1:Nat→Prop) (p2:Option Addr) (ln1:Nat) (k2:Nat) (x1:(List ByteArray)) (i1:Int),qcQ list m x1 i1=some o1∧e=[(0,.slice p1 list.length k1),(3,.slice p2 ln1 k2),(6,.slice p1 list.length k1),(7,.int .i64 (list.length:Int)),(8,.int .i64 i1)]∧SH w w' [Ch.own S1 (x1:List ByteArray) [.slice p2 ln1 k2]]) n ⟨_,_,_,_,_,_,hF,rfl,h⟩ rfl ?_)
 rintro m1 e1 w1 ⟨S1,p2,ln1,k2,x1,i1,hF,rfl,h⟩
 obtain rfl:=(h.sl 0 rfl).2
 rcases m1 with _|m1
 ·cases hF
 refine X0 5 rfl (qi rfl hF ?_ ?_)<;>intro hF
 ·refine X0 6 rfl ?_
  obtain ⟨y1,hy1,hF,he1,b1,_,q1,cs2,hp1,hq1,hr1,hc2⟩:=s1.ix hF
  obtain rfl:=qaF hr1
  refine zxe hp1 hq1 he1 rfl (zc 0 (hc2.below h.below) rfl (qA qc h rfl rfl rfl fun w2 bb1 h=>zp1 rfl (zs 0 h rfl fun w3 h=>X1 6 0 h rfl (qG qc [.tmp 15] _ ([y1.As]:List ByteArray) h rfl rfl rfl rfl rfl rfl rfl rfl rfl ⟨rfl,trivial⟩ rfl fun w4 p3 S2 h=>?_))))
  obtain ⟨x2,hx1,hF⟩:=qd hF
  obtain ⟨g1,hx1⟩:=qae hx1
  refine qcg qc 2 h rfl (h.sl 0 rfl).1 (h.sl 0 rfl).2 rfl rfl rfl rfl rfl rfl rfl rfl rfl g1 hx1 rfl fun w5 p4 k3 S3 h=>X0 10 rfl (qi rfl hF ?_ ?_)<;>intro hF
  ·refine X1 6 1 h rfl (ql (t:=26) hF rfl ?_ ?_)<;>intro hF
   ·refine X0 9 rfl (qes rfl rfl (X0 4 rfl ?_))
    obtain rfl:=qb hF;replace hF:=hK1
    exact rb h hF rfl
   refine X1 8 1 h rfl (ql (t:=31) hF rfl ?_ ?_)<;>intro hF
   ·refine X0 4 rfl (qes rfl rfl (X0 4 rfl ?_))
    obtain rfl:=qb hF;replace hF:=hK1
    exact rb h hF rfl
   refine X1 6 1 h rfl (qi rfl hF ?_ ?_)<;>intro hF
   ·refine X0 4 rfl ?_
    obtain rfl:=qb hF;replace hF:=hK1
    exact rb h hF rfl
   refine X0 6 rfl ?_
   replace h:=h.pick [2] rfl
   exact rK ⟨_,_,_,_,_,_,hF,rfl,h⟩ rfl
  refine X1 6 1 h rfl (ql (t:=38) hF rfl ?_ ?_)<;>intro hF
  ·refine X0 6 rfl (qes rfl rfl (X0 4 rfl ?_))
   obtain rfl:=qb hF;replace hF:=hK1
   exact rb h hF rfl
  refine X1 5 1 h rfl (zcB h hF qar rfl fun r1 w6 h hF=>X0 4 rfl (qi rfl hF ?_ ?_))<;>intro hF
  ·refine X0 4 rfl ?_
   obtain rfl:=qb hF;replace hF:=hK1
   exact rb h hF rfl
  refine X0 6 rfl ?_
  replace h:=h.pick [2] rfl
  exact rK ⟨_,_,_,_,_,_,hF,rfl,h⟩ rfl
 refine qm rfl ?_
 obtain rfl:=qb hF;replace hF:=hK1
 refine X0 3 rfl (zcI h hF (qhq ⟨_,_,rfl,(h.oldS s1)⟩) rfl fun r2 w7 h hF=>zcB h hF qar rfl fun r3 w8 h hF=>zp1 rfl (ql (t:=48) hF rfl ?_ ?_))<;>intro hF
 ·exact X0 3 rfl (zcB h hF (qfj (h.own 0 rfl)) rfl fun r4 w9 h hF=>X0 3 rfl (rb h hF rfl))
 exact X0 5 rfl (rb h hF rfl)
def qcm (n:Nat) (c:qp):Option Int :=
 (qbD n c.Am).bind fun r1 =>
 some (W64 (r1-1))
theorem qe6 {c:qp} (ha1:GoT.R w (old w) c cs1) {r:Int} (hF:qcm n c=some r):RetV Tryz.prog 149 [GoT.v qp cs1] w r:=by
 obtain ⟨p1,k1,p2,k2,p3,k3,rfl,s1,s2,s3⟩:=qJ ha1
 exact zV 7 Tryz.func149 rfl fun h=>zSR (qu h rfl rfl fun w1 bb1 h=>X1 6 0 h rfl (zcI h hF (qhq ⟨_,_,rfl,(h.oldS s1)⟩) rfl fun r1 w2 h hF=>X0 3 rfl (ri h hF rfl)))
def qjl (_:Nat) (kind:Int):Option Bool :=
 bif (kind==4) then some true else
 some (kind==5)
theorem qoT {kind:Int}  {r:Bool} (hF:qjl n kind=some r):RetV Tryz.prog 262 [.int .i64 kind] w r:=by
 refine zV 9 Tryz.func262 rfl fun h=>X0 9 rfl (ql (t:=5) hF rfl ?_ ?_)<;>intro hF
 ·exact X0 5 rfl (rb h hF rfl)
 exact X0 7 rfl (rb h hF rfl)
def qgH (n:Nat) (a_n:Int) (v0:Int) (v1:Int):Option Bool :=
 (qaE n a_n v0 v1).bind fun r1 =>
 some (!r1)
theorem qmo {a_n:Int} {v0:Int} {v1:Int} {p1:Option Addr} (ha1:GoT.R w (old w) (some v0) [.pointer p1]) {p2:Option Addr} (ha2:GoT.R w (old w) (some v1) [.pointer p2]) {r:Bool} (hF:qgH n a_n v0 v1=some r):RetV Tryz.prog 142 [.int .i64 a_n,.pointer p1,.pointer p2] w r:=by
 obtain ⟨b1,o_1,cs1,rfl,-,hr1,hc1⟩:=PtR.get ha1 rfl
 obtain rfl:=hr1
 obtain ⟨b2,o_2,cs2,rfl,-,hr2,hc2⟩:=PtR.get ha2 rfl
 obtain rfl:=hr2
 exact zV 10 Tryz.func142 rfl fun h=>X0 7 rfl (zc 0 (hc1.below h.below) rfl (zc 0 (hc2.below h.below) rfl (zcB h hF qar rfl fun r1 w1 h hF=>X0 3 rfl (rb h hF rfl))))
def qU (s:(List Int)) (f_0:Int) (f_1:Int):Nat→Int→Option (Flow Int Int)
 | 0,_=>none
 | n+1,i1 =>
  bif decide (i1<(s.length:Int)) then
   (idx s i1).bind fun y1 =>
   (qgH n y1 f_0 f_1).bind fun r1 =>
   bif r1 then some (.ret i1) else
   qU s f_0 f_1 n (W64 (i1+1))
  else
   some (.nxt i1)
def qaL (n:Nat) (s:(List Int)) (f_0:Int) (f_1:Int):Option Int :=
 (qU s f_0 f_1 n 0).bind fun o=>match o with
 | .ret r=>some r
 | .nxt _ =>
  some (-1)
theorem qfJ {s:(List Int)} {f_0:Int} {f_1:Int} (ha1:GoT.R w (old w) s cs1) {p2:Option Addr} (ha2:GoT.R w (old w) (some f_0) [.pointer p2]) {p3:Option Addr} (ha3:GoT.R w (old w) (some f_1) [.pointer p3]) {r:Int} (hF:qaL n s f_0 f_1=some r):RetV Tryz.prog 193 [GoT.v (List Int) cs1,.func (.func 142) #[] #[.pointer p2,.pointer p3]] w r:=by
 obtain ⟨p1,k1,rfl,s1⟩:=ha1
 obtain ⟨b1,o_1,cs2,rfl,-,hr1,hc1⟩:=PtR.get ha2 rfl
 obtain rfl:=hr1
 obtain ⟨b2,o_2,cs3,rfl,-,hr2,hc2⟩:=PtR.get ha3 rfl
 obtain rfl:=hr2
 refine zV 19 Tryz.func193 rfl fun h=>X0 11 rfl ?_
 obtain ⟨o1,hF,hK1⟩:=qd hF
 refine qk (rL (fun m e w'=>∃ (i1:Int),qU s f_0 f_1 m i1=some o1∧e=[(0,.slice p1 s.length k1),(1,.func (.func 142) #[] #[.pointer (some ⟨b1,o_1,none⟩),.pointer (some ⟨b2,o_2,none⟩)]),(7,.int .i64 (s.length:Int)),(8,.int .i64 i1)]∧SH w w' []) n ⟨_,hF,rfl,h⟩ rfl ?_)
 rintro m1 e1 w1 ⟨i1,hF,rfl,h⟩
 rcases m1 with _|m1
 ·cases hF
 refine X0 5 rfl (qi rfl hF ?_ ?_)<;>intro hF
 ·refine X0 13 rfl ?_
  obtain ⟨y1,hy1,hF,he1,b3,_,q1,cs4,hp1,hq1,rfl,hc4⟩:=s1.ix hF
  refine zxe hp1 hq1 he1 rfl (zc 0 (hc4.below h.below) rfl (zcB h hF (qmo (h.old ha2) (h.old ha3)) rfl fun r1 w2 h hF=>qcw (qi rfl hF ?_ ?_)))<;>intro hF
  ·refine X0 5 rfl ?_
   obtain rfl:=qb hF;replace hF:=hK1
   exact ri h hF rfl
  exact X0 6 rfl (rK ⟨_,hF,rfl,h⟩ rfl)
 refine qm rfl ?_
 obtain rfl:=qb hF;replace hF:=hK1
 exact X0 4 rfl (ri h hF rfl)
def qbh (n:Nat) (s:(List Int)) (f_0:Int) (f_1:Int):Option Bool :=
 (qaL n s f_0 f_1).bind fun r1 =>
 some (decide (r1 ≥ 0))
theorem qe4 {s:(List Int)} {f_0:Int} {f_1:Int} (ha1:GoT.R w (old w) s cs1) {p2:Option Addr} (ha2:GoT.R w (old w) (some f_0) [.pointer p2]) {p3:Option Addr} (ha3:GoT.R w (old w) (some f_1) [.pointer p3]) {r:Bool} (hF:qbh n s f_0 f_1=some r):RetV Tryz.prog 141 [GoT.v (List Int) cs1,.func (.func 142) #[] #[.pointer p2,.pointer p3]] w r:=by
 obtain ⟨p1,k1,rfl,s1⟩:=ha1
 obtain ⟨b1,o_1,cs2,rfl,-,hr1,hc1⟩:=PtR.get ha2 rfl
 obtain rfl:=hr1
 obtain ⟨b2,o_2,cs3,rfl,-,hr2,hc2⟩:=PtR.get ha3 rfl
 obtain rfl:=hr2
 exact zV 9 Tryz.func141 rfl fun h=>X0 8 rfl (zcI h hF (qfJ ⟨_,_,rfl,(h.oldS s1)⟩ (h.old ha2) (h.old ha3)) rfl fun r1 w1 h hF=>X0 3 rfl (rb h hF rfl))
def qbI (n:Nat) (list:(List Int)) (low:Int) (high:Int):Option Bool :=
 (qbh n list low high).bind fun r1 =>
 some (!r1)
theorem qcC {list:(List Int)} {low:Int} {high:Int} (ha1:GoT.R w (old w) list cs1) {r:Bool} (hF:qbI n list low high=some r):RetV Tryz.prog 81 [GoT.v (List Int) cs1,.int .i64 low,.int .i64 high] w r:=by
 obtain ⟨p1,k1,rfl,s1⟩:=ha1
 exact zV 11 Tryz.func81 rfl fun h=>zSR (qu h rfl rfl fun w1 bb1 h=>qu h rfl rfl fun w2 bb2 h=>X0 6 rfl (zcB h hF (qe4 ⟨_,_,rfl,(h.oldS s1)⟩ (qiG (x:=low) 1 h rfl rfl) (qiG (x:=high) 0 h rfl rfl)) rfl fun r1 w3 h hF=>X0 3 rfl (rb h hF rfl)))
def qas (_:Nat) (list:(List Int)):Option Int :=
 some (list.length:Int)
theorem qbb {list:(List Int)} (ha1:GoT.R w (old w) list cs1) {r:Int} (hF:qas n list=some r):RetV Tryz.prog 80 [GoT.v (List Int) cs1] w r:=by
 obtain ⟨p1,k1,rfl,s1⟩:=ha1
 exact zV 5 Tryz.func80 rfl fun h=>X0 10 rfl (ri h hF rfl)
def qba (list:(List Int)):Nat→Int→Option (Flow Bool Int)
 | 0,_=>none
 | n+1,i1 =>
  bif decide (i1<(list.length:Int)) then
   (idx list (W64 (i1-1))).bind fun y1 =>
   (idx list i1).bind fun y2 =>
   bif decide (y1 ≥ y2) then some (.ret false) else
   qba list n (W64 (i1+1))
  else
   some (.nxt i1)
def qdq (n:Nat) (list:(List Int)):Option Bool :=
 (qba list n 1).bind fun o=>match o with
 | .ret r=>some r
 | .nxt _ =>
  some true
theorem qgp {list:(List Int)} (ha1:GoT.R w (old w) list cs1) {r:Bool} (hF:qdq n list=some r):RetV Tryz.prog 140 [GoT.v (List Int) cs1] w r:=by
 obtain ⟨p1,k1,rfl,s1⟩:=ha1
 refine zV 20 Tryz.func140 rfl fun h=>X0 9 rfl ?_
 obtain ⟨o1,hF,hK1⟩:=qd hF
 refine qk (rL (fun m e w'=>∃ (i1:Int),qba list m i1=some o1∧e=[(0,.slice p1 list.length k1),(3,.int .i64 i1)]∧SH w w' []) n ⟨_,hF,rfl,h⟩ rfl ?_)
 rintro m1 e1 w1 ⟨i1,hF,rfl,h⟩
 rcases m1 with _|m1
 ·cases hF
 refine X0 8 rfl (qi rfl hF ?_ ?_)<;>intro hF
 ·refine X0 4 rfl (rD (zd3 rfl ?_))
  obtain ⟨y1,hy1,hF,he1,b1,_,q1,cs2,hp1,hq1,rfl,hc2⟩:=s1.ix hF
  refine zdxe hp1 hq1 he1 rfl (zdc 0 (hc2.below h.below) rfl (zd2 rfl ?_))
  obtain ⟨y2,hy2,hF,he2,b2,_,q2,cs3,hp2,hq2,rfl,hc3⟩:=s1.ix hF
  refine zdxe hp2 hq2 he2 rfl (zdc 0 (hc3.below h.below) rfl (zd1 rfl (dN h fun w2 h=>qi rfl hF ?_ ?_)))<;>intro hF
  ·refine X0 4 rfl ?_
   obtain rfl:=qb hF;replace hF:=hK1
   exact rb h hF rfl
  exact X0 7 rfl (rK ⟨_,hF,rfl,h⟩ rfl)
 refine qm rfl ?_
 obtain rfl:=qb hF;replace hF:=hK1
 exact X0 4 rfl (rb h hF rfl)
def qiX (n:Nat) (list:(List Int)):Option Bool :=
 (qas n list).bind fun r1 =>
 (qaE n r1 1 4).bind fun r2 =>
 bif r2 then
  (qbI n list 0 100000).bind fun r3 =>
  bif r3 then
   (qdq n list).bind fun r4 =>
   some r4
  else
   some false
 else
  some false
theorem qlA {list:(List Int)} (ha1:GoT.R w (old w) list cs1) {r:Bool} (hF:qiX n list=some r):RetV Tryz.prog 285 [GoT.v (List Int) cs1] w r:=by
 obtain ⟨p1,k1,rfl,s1⟩:=ha1
 refine zV 14 Tryz.func285 rfl fun h=>X0 7 rfl (zcI h hF (qbb ⟨_,_,rfl,(h.oldS s1)⟩) rfl fun r1 w1 h hF=>zcB h hF qar rfl fun r2 w2 h hF=>zp1 rfl (ql (t:=6) hF rfl ?_ ?_))<;>intro hF
 ·refine X0 3 rfl (zcB h hF (qcC ⟨_,_,rfl,(h.oldS s1)⟩) rfl fun r3 w3 h hF=>zp2 rfl (ql (t:=10) hF rfl ?_ ?_))<;>intro hF
  ·exact X0 3 rfl (zcB h hF (qgp ⟨_,_,rfl,(h.oldS s1)⟩) rfl fun r4 w4 h hF=>X0 3 rfl (rb h hF rfl))
  exact X0 5 rfl (rb h hF rfl)
 exact X0 9 rfl (rb h hF rfl)
def qjf (n:Nat) (t:qr):Option Bool :=
 (qiX n t.Bd).bind fun r1 =>
 bif r1 then
  (qiX n t.Bc).bind fun r2 =>
  bif r2 then
   bif ((t.Av.length:Int)==(W64 ((t.Bd.length:Int)*(t.Bc.length:Int)))) then
    (qbI n t.Av (-1000000) 1000000).bind fun r3 =>
    some r3
   else
    some false
  else
   some false
 else
  some false
theorem qow {t:qr} (ha1:GoT.R w (old w) t cs1) {r:Bool} (hF:qjf n t=some r):RetV Tryz.prog 276 [GoT.v qr cs1] w r:=by
 obtain ⟨p1,k1,p2,k2,p3,k3,rfl,s1,s2,s3⟩:=qbc ha1
 refine zV 29 Tryz.func276 rfl fun h=>zSR (qu h rfl rfl fun w1 bb1 h=>X1 6 0 h rfl (zcB h hF (qlA ⟨_,_,rfl,(h.oldS s1)⟩) rfl fun r1 w2 h hF=>zp1 rfl (ql (t:=6) hF rfl ?_ ?_)))<;>intro hF
 ·refine X1 5 0 h rfl (zcB h hF (qlA ⟨_,_,rfl,(h.oldS s2)⟩) rfl fun r2 w3 h hF=>zp2 rfl (ql (t:=11) hF rfl ?_ ?_))<;>intro hF
  ·refine X3 24 0 0 0 h rfl (ql (t:=24) hF rfl ?_ ?_)<;>intro hF
   ·exact X1 5 0 h rfl (zcB h hF (qcC ⟨_,_,rfl,(h.oldS s3)⟩) rfl fun r3 w4 h hF=>X0 3 rfl (rb h hF rfl))
   exact X0 6 rfl (rb h hF rfl)
  exact X0 19 rfl (rb h hF rfl)
 exact X0 24 rfl (rb h hF rfl)
def qcM (x:(List Int)):Nat→Int→Int→Option (Int × Int)
 | 0,_,_=>none
 | n+1,i1,i2 =>
  bif decide (i2<(x.length:Int)) then
   (idx x i2).bind fun y2 =>
   qcM x n (if y2<i1 then y2 else i1) (W64 (i2+1))
  else
   some (i1,i2)
def qgQ (n:Nat) (x:(List Int)):Option Int :=
 (
  bif decide ((x.length:Int)<1) then none else
  some ()).bind fun _ =>
 (idx x 0).bind fun y1 =>
 (qcM x n y1 1).bind fun o=>match o with
 | (i1,_) =>
  some i1
theorem qmp {x:(List Int)} (ha1:GoT.R w (old w) x cs1) {r:Int} (hF:qgQ n x=some r):RetV Tryz.prog 277 [GoT.v (List Int) cs1] w r:=by
 obtain ⟨p1,k1,rfl,s1⟩:=ha1
 refine zV 25 Tryz.func277 rfl fun h=>X0 11 rfl ?_
 obtain ⟨KF1,hKF1,o2,hF,hK2⟩:=bindE hF
 refine qcB (fun e w'=>KF1 ()=some r∧e=[(0,.slice p1 x.length k1)]∧SH w w' []) ?_ ?_
 ·refine qi rfl hF ?_ ?_<;>intro hF
  ·refine qkX ?_
   cases hF
  refine qhk ?_
  obtain rfl:=qb hF
  exact rG ⟨hK2,rfl,h⟩ rfl
 rintro e2 w2 ⟨hF,rfl,h⟩
 subst hKF1
 refine X0 3 rfl ?_
 obtain ⟨y1,hy1,hF,he1,b1,_,q1,cs2,hp1,hq1,rfl,hc1⟩:=s1.ix hF
 refine zxe hp1 hq1 he1 rfl (zc 0 (hc1.below h.below) rfl (X0 7 rfl ?_))
 obtain ⟨o1,hF,hK1⟩:=qd hF
 refine qk (rL (fun m e w'=>∃ (i1:Int) (i2:Int),qcM x m i1 i2=some o1∧e=[(0,.slice p1 x.length k1),(3,.int .i64 i1),(4,.int .i64 i2)]∧SH w w' []) n ⟨_,_,hF,rfl,h⟩ rfl ?_)
 rintro m1 e1 w1 ⟨i1,i2,hF,rfl,h⟩
 rcases m1 with _|m1
 ·cases hF
 refine X0 8 rfl (qi rfl hF ?_ ?_)<;>intro hF
 ·refine X0 7 rfl ?_
  obtain ⟨y2,hy2,hF,he2,b2,_,q2,cs3,hp2,hq2,rfl,hc3⟩:=s1.ix hF
  exact zxe hp2 hq2 he2 rfl (zc 0 (hc3.below h.below) rfl (X0 9 rfl (rK ⟨_,_,hF,rfl,h⟩ rfl)))
 refine qm rfl ?_
 obtain rfl:=qb hF;replace hF:=hK1
 exact X0 5 rfl (ri h hF rfl)
def qgP (n:Nat) (t:qr) (v0:Bool):Option Bool :=
 (qjf n t).bind fun r1 =>
 bif (!r1) then some true else
 bif v0 then
  (qgQ n t.Av).bind fun r2 =>
  some (decide (r2<0))
 else
  some false
theorem qmD {t:qr} {v0:Bool} (ha1:GoT.R w (old w) t cs1) {p4:Option Addr} (ha2:GoT.R w (old w) (some v0) [.pointer p4]) {r:Bool} (hF:qgP n t v0=some r):RetV Tryz.prog 275 [GoT.v qr cs1,.pointer p4] w r:=by
 obtain ⟨p1,k1,p2,k2,p3,k3,rfl,s1,s2,s3⟩:=qbc ha1
 obtain ⟨b1,o_1,cs2,rfl,-,hr1,hc1⟩:=PtR.get ha2 rfl
 obtain rfl:=hr1
 refine zV 16 Tryz.func275 rfl fun h=>zSR (qu h rfl rfl fun w1 bb1 h=>X1 5 0 h rfl (zcB h hF (qow (h.old ha1)) rfl fun r1 w2 h hF=>zp2 rfl (ql (t:=7) hF rfl ?_ ?_)))<;>intro hF
 ·exact X0 10 rfl (rb h hF rfl)
 refine X0 1 rfl (zc 0 (hc1.below h.below) rfl (X0 2 rfl (ql (t:=9) hF rfl ?_ ?_)))<;>intro hF
 ·exact X1 5 0 h rfl (zcI h hF (qmp ⟨_,_,rfl,(h.oldS s3)⟩) rfl fun r2 w3 h hF=>X0 7 rfl (rb h hF rfl))
 exact X0 9 rfl (rb h hF rfl)
def qL (s:(List qr)) (f_0:Bool):Nat→Int→Option (Flow Int Int)
 | 0,_=>none
 | n+1,i1 =>
  bif decide (i1<(s.length:Int)) then
   (idx s i1).bind fun y1 =>
   (qgP n y1 f_0).bind fun r1 =>
   bif r1 then some (.ret i1) else
   qL s f_0 n (W64 (i1+1))
  else
   some (.nxt i1)
def qaw (n:Nat) (s:(List qr)) (f_0:Bool):Option Int :=
 (qL s f_0 n 0).bind fun o=>match o with
 | .ret r=>some r
 | .nxt _ =>
  some (-1)
theorem qeQ {s:(List qr)} {f_0:Bool} (ha1:GoT.R w (old w) s cs1) {p2:Option Addr} (ha2:GoT.R w (old w) (some f_0) [.pointer p2]) {r:Int} (hF:qaw n s f_0=some r):RetV Tryz.prog 284 [GoT.v (List qr) cs1,.func (.func 275) #[] #[.pointer p2]] w r:=by
 obtain ⟨p1,k1,rfl,s1⟩:=ha1
 obtain ⟨b1,o_1,cs2,rfl,-,hr1,hc1⟩:=PtR.get ha2 rfl
 obtain rfl:=hr1
 refine zV 19 Tryz.func284 rfl fun h=>X0 11 rfl ?_
 obtain ⟨o1,hF,hK1⟩:=qd hF
 refine qk (rL (fun m e w'=>∃ (i1:Int),qL s f_0 m i1=some o1∧e=[(0,.slice p1 s.length k1),(1,.func (.func 275) #[] #[.pointer (some ⟨b1,o_1,none⟩)]),(7,.int .i64 (s.length:Int)),(8,.int .i64 i1)]∧SH w w' []) n ⟨_,hF,rfl,h⟩ rfl ?_)
 rintro m1 e1 w1 ⟨i1,hF,rfl,h⟩
 rcases m1 with _|m1
 ·cases hF
 refine X0 5 rfl (qi rfl hF ?_ ?_)<;>intro hF
 ·refine X0 13 rfl ?_
  obtain ⟨y1,hy1,hF,he1,b2,_,q1,cs3,hp1,hq1,hr2,hc3⟩:=s1.ix hF
  obtain ⟨p3,k2,p4,k3,p5,k4,rfl,s2,s3,s4⟩:=qbc hr2
  refine zxe hp1 hq1 he1 rfl (zc 0 (hc3.below h.below) rfl (zcB h hF (qmD (qik y1 (h.oldS s2) (h.oldS s3) (h.oldS s4)) (h.old ha2)) rfl fun r1 w2 h hF=>qcw (qi rfl hF ?_ ?_)))<;>intro hF
  ·refine X0 5 rfl ?_
   obtain rfl:=qb hF;replace hF:=hK1
   exact ri h hF rfl
  exact X0 6 rfl (rK ⟨_,hF,rfl,h⟩ rfl)
 refine qm rfl ?_
 obtain rfl:=qb hF;replace hF:=hK1
 exact X0 4 rfl (ri h hF rfl)
def qaT (n:Nat) (s:(List qr)) (f_0:Bool):Option Bool :=
 (qaw n s f_0).bind fun r1 =>
 some (decide (r1 ≥ 0))
theorem qeq {s:(List qr)} {f_0:Bool} (ha1:GoT.R w (old w) s cs1) {p2:Option Addr} (ha2:GoT.R w (old w) (some f_0) [.pointer p2]) {r:Bool} (hF:qaT n s f_0=some r):RetV Tryz.prog 274 [GoT.v (List qr) cs1,.func (.func 275) #[] #[.pointer p2]] w r:=by
 obtain ⟨p1,k1,rfl,s1⟩:=ha1
 obtain ⟨b1,o_1,cs2,rfl,-,hr1,hc1⟩:=PtR.get ha2 rfl
 obtain rfl:=hr1
 exact zV 9 Tryz.func274 rfl fun h=>X0 8 rfl (zcI h hF (qeQ ⟨_,_,rfl,(h.oldS s1)⟩ (h.old ha2)) rfl fun r1 w1 h hF=>X0 3 rfl (rb h hF rfl))
def qfA (n:Nat) (list:(List qr)) (positive:Bool):Option Bool :=
 bif ((list.length:Int)==2) then
  (qaT n list positive).bind fun r1 =>
  some (!r1)
 else
  some false
theorem qhF {list:(List qr)} {positive:Bool} (ha1:GoT.R w (old w) list cs1) {r:Bool} (hF:qfA n list positive=some r):RetV Tryz.prog 263 [GoT.v (List qr) cs1,.bool positive] w r:=by
 obtain ⟨p1,k1,rfl,s1⟩:=ha1
 refine zV 14 Tryz.func263 rfl fun h=>zSR (qu h rfl rfl fun w1 bb1 h=>X0 8 rfl (ql (t:=8) hF rfl ?_ ?_))<;>intro hF
 ·exact X0 5 rfl (zcB h hF (qeq ⟨_,_,rfl,(h.oldS s1)⟩ (qiG (x:=positive) 0 h rfl rfl)) rfl fun r1 w2 h hF=>X0 5 rfl (rb h hF rfl))
 exact X0 7 rfl (rb h hF rfl)
def qhP (_:Nat) (p:qX):Option Bool :=
 some p.Be
theorem qlO {p:qX} (ha1:GoT.R w (old w) p cs1) {r:Bool} (hF:qhP n p=some r):RetV Tryz.prog 279 [GoT.v qX cs1] w r:=by
 obtain rfl:=qaF ha1
 exact zV 5 Tryz.func279 rfl fun h=>zSR (qu h rfl rfl fun w1 bb1 h=>X1 8 0 h rfl (rb h hF rfl))
def qN (s:(List qX)):Nat→Int→Option (Flow Int Int)
 | 0,_=>none
 | n+1,i1 =>
  bif decide (i1<(s.length:Int)) then
   (idx s i1).bind fun y1 =>
   (qhP n y1).bind fun r1 =>
   bif r1 then some (.ret i1) else
   qN s n (W64 (i1+1))
  else
   some (.nxt i1)
def qa9 (n:Nat) (s:(List qX)):Option Int :=
 (qN s n 0).bind fun o=>match o with
 | .ret r=>some r
 | .nxt _ =>
  some (-1)
theorem qe0 {s:(List qX)} (ha1:GoT.R w (old w) s cs1) {r:Int} (hF:qa9 n s=some r):RetV Tryz.prog 278 [GoT.v (List qX) cs1,.func (.func 279) #[] #[]] w r:=by
 obtain ⟨p1,k1,rfl,s1⟩:=ha1
 refine zV 19 Tryz.func278 rfl fun h=>X0 11 rfl ?_
 obtain ⟨o1,hF,hK1⟩:=qd hF
 refine qk (rL (fun m e w'=>∃ (i1:Int),qN s m i1=some o1∧e=[(0,.slice p1 s.length k1),(1,.func (.func 279) #[] #[]),(7,.int .i64 (s.length:Int)),(8,.int .i64 i1)]∧SH w w' []) n ⟨_,hF,rfl,h⟩ rfl ?_)
 rintro m1 e1 w1 ⟨i1,hF,rfl,h⟩
 rcases m1 with _|m1
 ·cases hF
 refine X0 5 rfl (qi rfl hF ?_ ?_)<;>intro hF
 ·refine X0 13 rfl ?_
  obtain ⟨y1,hy1,hF,he1,b1,_,q1,cs2,hp1,hq1,hr1,hc2⟩:=s1.ix hF
  obtain rfl:=qaF hr1
  refine zxe hp1 hq1 he1 rfl (zc 0 (hc2.below h.below) rfl (zcB h hF (qlO (qdD y1)) rfl fun r1 w2 h hF=>qcw (qi rfl hF ?_ ?_)))<;>intro hF
  ·refine X0 5 rfl ?_
   obtain rfl:=qb hF;replace hF:=hK1
   exact ri h hF rfl
  exact X0 6 rfl (rK ⟨_,hF,rfl,h⟩ rfl)
 refine qm rfl ?_
 obtain rfl:=qb hF;replace hF:=hK1
 exact X0 4 rfl (ri h hF rfl)
def qhe (n:Nat) (c:qp):Option Int :=
 (qa9 n c.Am).bind fun r1 =>
 some r1
theorem qmS {c:qp} (ha1:GoT.R w (old w) c cs1) {r:Int} (hF:qhe n c=some r):RetV Tryz.prog 264 [GoT.v qp cs1] w r:=by
 obtain ⟨p1,k1,p2,k2,p3,k3,rfl,s1,s2,s3⟩:=qJ ha1
 exact zV 6 Tryz.func264 rfl fun h=>zSR (qu h rfl rfl fun w1 bb1 h=>X1 6 0 h rfl (zcI h hF (qe0 ⟨_,_,rfl,(h.oldS s1)⟩) rfl fun r1 w2 h hF=>X0 2 rfl (ri h hF rfl)))
def qgh (n:Nat) (c:qp) (pin:Int):Option Bool :=
 (qcm n c).bind fun r1 =>
 (qaE n pin 0 (W64 (r1-1))).bind fun r2 =>
 some r2
theorem qiO {c:qp} {pin:Int} (ha1:GoT.R w (old w) c cs1) {r:Bool} (hF:qgh n c pin=some r):RetV Tryz.prog 265 [GoT.v qp cs1,.int .i64 pin] w r:=by
 obtain ⟨p1,k1,p2,k2,p3,k3,rfl,s1,s2,s3⟩:=qJ ha1
 exact zV 10 Tryz.func265 rfl fun h=>zSR (qu h rfl rfl fun w1 bb1 h=>X1 6 0 h rfl (zcI h hF (qe6 (h.old ha1)) rfl fun r1 w2 h hF=>zp1 rfl (zcB h hF qar rfl fun r2 w3 h hF=>X0 2 rfl (rb h hF rfl))))
def qhc (n:Nat) (a_0:qp) (a_1:qF):Option Bool :=
 (qjl n a_1.Ar).bind fun r1 =>
 bif r1 then
  (
   bif (a_1.Bh==0) then
    bif ((a_1.Bi.length:Int)==0) then
     (qfA n a_1.Az false).bind fun r2 =>
     bif r2 then
      (qhe n a_0).bind fun r3 =>
      bif (a_1.Au==r3) then
       bif decide (a_1.Au ≥ 0) then
        (qgh n a_0 a_1.To).bind fun r4 =>
        bif r4 then some (a_1.To != a_1.Au) else
        some false
       else
        some false
      else
       some false
     else
      some false
    else
     some false
   else
    some false).bind fun b1 =>
  some b1
 else
  (
   (qfA n a_1.Az true).bind fun r6 =>
   bif (!r6) then some true else
   (qfA n a_1.Bi true).bind fun r7 =>
   bif (!r7) then some true else
   (qcm n a_0).bind fun r8 =>
   bif (a_1.To != r8) then some true else
   (qgh n a_0 a_1.Au).bind fun r9 =>
   some (!r9)).bind fun b2 =>
  bif b2 then some false else
  bif (a_1.Ar==1) then
   (idx a_0.Am a_1.Au).bind fun y1 =>
   bif (!y1.Be) then
    (qaE n a_1.Bh 1 3).bind fun r5 =>
    some r5
   else
    some false
  else
   (
    bif (a_1.Ar==2) then some (a_1.Ar==2) else
    some (a_1.Ar==3)).bind fun b4 =>
   bif b4 then
    (idx a_0.Am a_1.Au).bind fun y2 =>
    bif y2.Be then some (a_1.Bh==0) else
    some false
   else
    some false
theorem qmX {a_0:qp} {a_1:qF} (ha1:GoT.R w (old w) a_0 cs1) (ha2:GoT.R w (old w) a_1 cs2) {r:Bool} (hF:qhc n a_0 a_1=some r):RetV Tryz.prog 245 [GoT.v qp cs1,GoT.v qF cs2] w r:=by
 obtain ⟨p1,k1,p2,k2,p3,k3,rfl,s1,s2,s3⟩:=qJ ha1
 obtain ⟨p4,k4,p5,k5,rfl,s4,s5⟩:=qaj ha2
 refine zV 103 Tryz.func245 rfl fun h=>zSR (qu h rfl rfl fun w1 bb1 h=>qu h rfl rfl fun w2 bb2 h=>X1 7 0 h rfl (zcB h hF qoT rfl fun r1 w3 h hF=>qcw (qi rfl hF ?_ ?_)))<;>intro hF
 ·refine qgT ?_
  obtain ⟨KF1,hKF1,o1,hF,hK1⟩:=bindE hF
  refine qcB (fun e w'=>∃ (b1:Bool),KF1 b1=some r∧e=[(4,.bool b1)]∧SH w w' []) ?_ ?_
  ·refine rD (Y1 2 0 h rfl ?_)
   refine zd2 rfl (qbx (t:=11) hF rfl ?_ ?_)<;>intro hF
   ·refine Y1 4 0 h rfl ?_
    refine Y0 6 rfl (qbx (t:=17) hF rfl ?_ ?_)<;>intro hF
    ·refine Y1 4 0 h rfl ?_
     refine Y0 1 rfl ?_
     obtain ⟨r2,hr2,hF⟩:=qd hF
     refine qbR r2 (vsB _) (cB 263 rfl) (fun _ hb=>qhF ⟨_,_,rfl,((h.ext hb).oldS s4)⟩ hr2) rfl rfl rfl rfl (zd2 rfl (qbx (t:=22) hF rfl ?_ ?_))<;>intro hF
     ·refine Y1 4 0 h rfl ?_
      refine Y1 2 1 h rfl ?_
      refine Y0 1 rfl ?_
      obtain ⟨r3,hr3,hF⟩:=qd hF
      refine qbR r3 (vsI _) (cB 264 rfl) (fun _ hb=>qmS ((h.ext hb).old ha1) hr3) rfl rfl rfl rfl (Y0 4 rfl (qbx (t:=29) hF rfl ?_ ?_))<;>intro hF
      ·refine Y1 4 0 h rfl ?_
       refine Y0 4 rfl (qbx (t:=34) hF rfl ?_ ?_)<;>intro hF
       ·refine Y1 2 1 h rfl ?_
        refine Y1 4 0 h rfl ?_
        refine Y0 1 rfl ?_
        obtain ⟨r4,hr4,hF⟩:=qd hF
        refine qbR r4 (vsB _) (cB 265 rfl) (fun _ hb=>qiO ((h.ext hb).old ha1) hr4) rfl rfl rfl rfl (zd2 rfl (qbx (t:=40) hF rfl ?_ ?_))<;>intro hF
        ·refine Y1 4 0 h rfl ?_
         refine Y1 4 0 h rfl ?_
         refine Y0 4 rfl (dN h fun w4 h=>?_)
         replace h:=h.pick [] rfl
         obtain rfl:=qb hF
         exact rG ⟨_,hK1,rfl,h⟩ rfl
        refine Y0 7 rfl (dN h fun w5 h=>?_)
        replace h:=h.pick [] rfl
        obtain rfl:=qb hF
        exact rG ⟨_,hK1,rfl,h⟩ rfl
       refine Y0 13 rfl (dN h fun w6 h=>?_)
       replace h:=h.pick [] rfl
       obtain rfl:=qb hF
       exact rG ⟨_,hK1,rfl,h⟩ rfl
      refine Y0 18 rfl (dN h fun w7 h=>?_)
      replace h:=h.pick [] rfl
      obtain rfl:=qb hF
      exact rG ⟨_,hK1,rfl,h⟩ rfl
     refine Y0 25 rfl (dN h fun w8 h=>?_)
     replace h:=h.pick [] rfl
     obtain rfl:=qb hF
     exact rG ⟨_,hK1,rfl,h⟩ rfl
    refine Y0 30 rfl (dN h fun w9 h=>?_)
    replace h:=h.pick [] rfl
    obtain rfl:=qb hF
    exact rG ⟨_,hK1,rfl,h⟩ rfl
   refine Y0 36 rfl (dN h fun w10 h=>?_)
   replace h:=h.pick [] rfl
   obtain rfl:=qb hF
   exact rG ⟨_,hK1,rfl,h⟩ rfl
  rintro e1 w11 ⟨b1,hF,rfl,h⟩
  subst hKF1
  exact rb h hF rfl
 refine zKSS ?_
 obtain ⟨KF3,hKF3,o3,hF,hK3⟩:=bindE hF
 refine qcB (fun e w'=>∃ (b2:Bool),KF3 b2=some r∧e=[(2,.pointer (some ⟨bb1,0,none⟩)),(3,.pointer (some ⟨bb2,0,none⟩)),(70,.bool b2)]∧SH w w' [Ch.box bb2 (qlm a_1 p4 p5 k4 k5) 206,Ch.box bb1 (qbV a_0 p1 p2 p3 k1 k2 k3) 201]) ?_ ?_
 ·refine rD (Y1 2 0 h rfl ?_)
  obtain ⟨r6,hr8,hF⟩:=qd hF
  refine qbR r6 (vsB _) (cB 263 rfl) (fun _ hb=>qhF ⟨_,_,rfl,((h.ext hb).oldS s4)⟩ hr8) rfl rfl rfl rfl (zd2 rfl (qbx (t:=51) hF rfl ?_ ?_))<;>intro hF
  ·refine Y0 19 rfl (dN h fun w14 h=>?_)
   obtain rfl:=qb hF
   exact rG ⟨_,hK3,rfl,h⟩ rfl
  refine Y1 4 0 h rfl ?_
  refine Y0 1 rfl ?_
  obtain ⟨r7,hr9,hF⟩:=qd hF
  refine qbR r7 (vsB _) (cB 263 rfl) (fun _ hb=>qhF ⟨_,_,rfl,((h.ext hb).oldS s5)⟩ hr9) rfl rfl rfl rfl (Y0 4 rfl (qbx (t:=57) hF rfl ?_ ?_))<;>intro hF
  ·refine Y0 13 rfl (dN h fun w15 h=>?_)
   obtain rfl:=qb hF
   exact rG ⟨_,hK3,rfl,h⟩ rfl
  refine Y1 4 0 h rfl ?_
  refine Y1 2 1 h rfl ?_
  refine Y0 1 rfl ?_
  obtain ⟨r8,hr10,hF⟩:=qd hF
  refine qbR r8 (vsI _) (cB 149 rfl) (fun _ hb=>qe6 ((h.ext hb).old ha1) hr10) rfl rfl rfl rfl (Y0 4 rfl (qbx (t:=64) hF rfl ?_ ?_))<;>intro hF
  ·refine Y0 6 rfl (dN h fun w16 h=>?_)
   obtain rfl:=qb hF
   exact rG ⟨_,hK3,rfl,h⟩ rfl
  refine Y1 2 1 h rfl ?_
  refine Y1 4 0 h rfl ?_
  refine Y0 1 rfl ?_
  obtain ⟨r9,hr11,hF⟩:=qd hF
  refine qbR r9 (vsB _) (cB 265 rfl) (fun _ hb=>qiO ((h.ext hb).old ha1) hr11) rfl rfl rfl rfl (Y0 3 rfl (dN h fun w17 h=>?_))
  obtain rfl:=qb hF
  exact rG ⟨_,hK3,rfl,h⟩ rfl
 rintro e3 w18 ⟨b2,hF,rfl,h⟩
 subst hKF3
 refine qi rfl hF ?_ ?_<;>intro hF
 ·exact X0 4 rfl (rb h hF rfl)
 refine X1 13 0 h rfl (qi rfl hF ?_ ?_)<;>intro hF
 ·refine X2 6 1 0 h rfl ?_
  obtain ⟨y1,hy1,hF,he1,b3,_,q1,cs3,hp1,hq1,hr5,hc4⟩:=s1.ix hF
  obtain rfl:=qaF hr5
  refine zxe hp1 hq1 he1 rfl (zp1 rfl (zc 3 (hc4.below h.below) rfl (zp2 rfl (ql (t:=83) hF rfl ?_ ?_))))<;>intro hF
  ·exact X1 5 0 h rfl (zcB h hF qar rfl fun r5 w12 h hF=>X0 3 rfl (rb h hF rfl))
  exact X0 6 rfl (rb h hF rfl)
 refine X0 6 rfl ?_
 obtain ⟨KF2,hKF2,o2,hF,hK2⟩:=bindE hF
 refine qcB (fun e w'=>∃ (b4:Bool),KF2 b4=some r∧e=[(2,.pointer (some ⟨bb1,0,none⟩)),(3,.pointer (some ⟨bb2,0,none⟩)),(88,.bool b4)]∧SH w w' [Ch.box bb2 (qlm a_1 p4 p5 k4 k5) 206,Ch.box bb1 (qbV a_0 p1 p2 p3 k1 k2 k3) 201]) ?_ ?_
 ·refine qi rfl hF ?_ ?_<;>intro hF
  ·refine qhk ?_
   obtain rfl:=qb hF
   exact rG ⟨_,hK2,rfl,h⟩ rfl
  refine X0 4 rfl ?_
  obtain rfl:=qb hF
  exact rG ⟨_,hK2,rfl,h⟩ rfl
 rintro e2 w13 ⟨b4,hF,rfl,h⟩
 subst hKF2
 refine qi rfl hF ?_ ?_<;>intro hF
 ·refine X2 6 1 0 h rfl ?_
  obtain ⟨y2,hy2,hF,he2,b5,_,q2,cs4,hp2,hq2,hr7,hc6⟩:=s1.ix hF
  obtain rfl:=qaF hr7
  refine zxe hp2 hq2 he2 rfl (zp1 rfl (zc 3 (hc6.below h.below) rfl (zp1 rfl (ql (t:=98) hF rfl ?_ ?_))))<;>intro hF
  ·exact X1 9 0 h rfl (rb h hF rfl)
  exact X0 6 rfl (rb h hF rfl)
 exact X0 6 rfl (rb h hF rfl)
def qe5 (_:Nat) (a_o:qF) (v0:qF):Option Bool :=
 bif (a_o.Ar==v0.Ar) then
  bif (a_o.Au==v0.Au) then some (a_o.To==v0.To) else
  some false
 else
  some false
theorem qk7 {a_o:qF} {v0:qF} (ha1:GoT.R w (old w) a_o cs1) {p3:Option Addr} (ha2:GoT.R w (old w) (some v0) [.pointer p3]) {r:Bool} (hF:qe5 n a_o v0=some r):RetV Tryz.prog 246 [GoT.v qF cs1,.pointer p3] w r:=by
 obtain ⟨p1,k1,p2,k2,rfl,s1,s2⟩:=qaj ha1
 obtain ⟨b1,o_1,cs2,rfl,-,hr1,hc1⟩:=PtR.get ha2 rfl
 obtain ⟨p4,k3,p5,k4,rfl,s3,s4⟩:=qaj hr1
 refine zV 23 Tryz.func246 rfl fun h=>zSR (qu h rfl rfl fun w1 bb1 h=>X1 7 0 h rfl (zc 0 (hc1.below h.below) rfl (zp2 rfl (ql (t:=9) hF rfl ?_ ?_))))<;>intro hF
 ·refine X1 7 0 h rfl (zc 1 (hc1.below h.below) rfl (X0 4 rfl (ql (t:=16) hF rfl ?_ ?_)))<;>intro hF
  ·exact X1 7 0 h rfl (zc 2 (hc1.below h.below) rfl (X0 5 rfl (rb h hF rfl)))
  exact X0 8 rfl (rb h hF rfl)
 exact X0 15 rfl (rb h hF rfl)
def qI (s:(List qF)) (f_0:qF):Nat→Int→Option (Flow Int Int)
 | 0,_=>none
 | n+1,i1 =>
  bif decide (i1<(s.length:Int)) then
   (idx s i1).bind fun y1 =>
   (qe5 n y1 f_0).bind fun r1 =>
   bif r1 then some (.ret i1) else
   qI s f_0 n (W64 (i1+1))
  else
   some (.nxt i1)
def qaY (n:Nat) (s:(List qF)) (f_0:qF):Option Int :=
 (qI s f_0 n 0).bind fun o=>match o with
 | .ret r=>some r
 | .nxt _ =>
  some (-1)
theorem qev {s:(List qF)} {f_0:qF} (ha1:GoT.R w (old w) s cs1) {p2:Option Addr} (ha2:GoT.R w (old w) (some f_0) [.pointer p2]) {r:Int} (hF:qaY n s f_0=some r):RetV Tryz.prog 194 [GoT.v (List qF) cs1,.func (.func 246) #[] #[.pointer p2]] w r:=by
 obtain ⟨p1,k1,rfl,s1⟩:=ha1
 obtain ⟨b1,o_1,cs2,rfl,-,hr1,hc1⟩:=PtR.get ha2 rfl
 obtain ⟨p3,k2,p4,k3,rfl,s2,s3⟩:=qaj hr1
 refine zV 19 Tryz.func194 rfl fun h=>X0 11 rfl ?_
 obtain ⟨o1,hF,hK1⟩:=qd hF
 refine qk (rL (fun m e w'=>∃ (i1:Int),qI s f_0 m i1=some o1∧e=[(0,.slice p1 s.length k1),(1,.func (.func 246) #[] #[.pointer (some ⟨b1,o_1,none⟩)]),(7,.int .i64 (s.length:Int)),(8,.int .i64 i1)]∧SH w w' []) n ⟨_,hF,rfl,h⟩ rfl ?_)
 rintro m1 e1 w1 ⟨i1,hF,rfl,h⟩
 rcases m1 with _|m1
 ·cases hF
 refine X0 5 rfl (qi rfl hF ?_ ?_)<;>intro hF
 ·refine X0 13 rfl ?_
  obtain ⟨y1,hy1,hF,he1,b2,_,q1,cs3,hp1,hq1,hr2,hc3⟩:=s1.ix hF
  obtain ⟨p5,k4,p6,k5,rfl,s4,s5⟩:=qaj hr2
  refine zxe hp1 hq1 he1 rfl (zc 0 (hc3.below h.below) rfl (zcB h hF (qk7 (qgx y1 (h.oldS s4) (h.oldS s5)) (h.old ha2)) rfl fun r1 w2 h hF=>qcw (qi rfl hF ?_ ?_)))<;>intro hF
  ·refine X0 5 rfl ?_
   obtain rfl:=qb hF;replace hF:=hK1
   exact ri h hF rfl
  exact X0 6 rfl (rK ⟨_,hF,rfl,h⟩ rfl)
 refine qm rfl ?_
 obtain rfl:=qb hF;replace hF:=hK1
 exact X0 4 rfl (ri h hF rfl)
def qaq (n:Nat) (s:(List qF)) (f_0:qF):Option Bool :=
 (qaY n s f_0).bind fun r1 =>
 some (decide (r1 ≥ 0))
theorem qeb {s:(List qF)} {f_0:qF} (ha1:GoT.R w (old w) s cs1) {p2:Option Addr} (ha2:GoT.R w (old w) (some f_0) [.pointer p2]) {r:Bool} (hF:qaq n s f_0=some r):RetV Tryz.prog 146 [GoT.v (List qF) cs1,.func (.func 246) #[] #[.pointer p2]] w r:=by
 obtain ⟨p1,k1,rfl,s1⟩:=ha1
 obtain ⟨b1,o_1,cs2,rfl,-,hr1,hc1⟩:=PtR.get ha2 rfl
 obtain ⟨p3,k2,p4,k3,rfl,s2,s3⟩:=qaj hr1
 exact zV 9 Tryz.func146 rfl fun h=>X0 8 rfl (zcI h hF (qev ⟨_,_,rfl,(h.oldS s1)⟩ (h.old ha2)) rfl fun r1 w1 h hF=>X0 3 rfl (rb h hF rfl))
end Go.Fw


namespace Go.Fw
open Go Go.Proofs
open Go.RowKit (Below)
set_option maxRecDepth 100000
set_option maxHeartbeats 6400000
variable {n:Nat} {w:World} {cs1 cs2 cs3 cs4 cs5 cs6 cs7 cs8 cs9:List Value}
def qcr (c:qp):Nat→Int→Option (Flow Bool Int)
 | 0,_=>none
 | n+1,i1 =>
  bif decide (i1<(c.Ap.length:Int)) then
   (idx c.Ap i1).bind fun y1 =>
   (qhc n c y1).bind fun r1 =>
   bif (!r1) then some (.ret false) else
   (subS c.Ap 0 i1).bind fun x1 =>
   (qaq n x1 y1).bind fun r2 =>
   bif r2 then some (.ret false) else
   qcr c n (W64 (i1+1))
  else
   some (.nxt i1)
def qgl (n:Nat) (c:qp):Option Bool :=
 (qcr c n 0).bind fun o=>match o with
 | .ret r=>some r
 | .nxt _ =>
  some (decide ((c.Ap.length:Int)≤8))
theorem qlQ {c:qp} (ha1:GoT.R w (old w) c cs1) {r:Bool} (hF:qgl n c=some r):RetV Tryz.prog 234 [GoT.v qp cs1] w r:=by
 obtain ⟨p1,k1,p2,k2,p3,k3,rfl,s1,s2,s3⟩:=qJ ha1
 refine zV 30 Tryz.func234 rfl fun h=>zSR (qu h rfl rfl fun w1 bb1 h=>X1 10 0 h rfl ?_)
 obtain ⟨o1,hF,hK1⟩:=qd hF
 refine qk (rL (fun m e w'=>∃ (i1:Int),qcr c m i1=some o1∧e=[(1,.pointer (some ⟨bb1,0,none⟩)),(6,.slice p2 c.Ap.length k2),(7,.int .i64 (c.Ap.length:Int)),(8,.int .i64 i1)]∧SH w w' [Ch.box bb1 (qbV c p1 p2 p3 k1 k2 k3) 201]) n ⟨_,hF,rfl,h⟩ rfl ?_)
 rintro m1 e1 w2 ⟨i1,hF,rfl,h⟩
 rcases m1 with _|m1
 ·cases hF
 refine X0 5 rfl (qi rfl hF ?_ ?_)<;>intro hF
 ·refine X0 6 rfl ?_
  obtain ⟨y1,hy1,hF,he1,b1,_,q1,cs2,hp1,hq1,hr1,hc2⟩:=s2.ix hF
  obtain ⟨p4,k4,p5,k5,rfl,s4,s5⟩:=qaj hr1
  refine zxe hp1 hq1 he1 rfl (zc 0 (hc2.below h.below) rfl (qA qc h rfl rfl rfl fun w3 bb2 h=>zp1 rfl (zs 0 h rfl fun w4 h=>X2 5 1 0 h rfl (zcB h hF (qmX (h.old ha1) (qgx y1 (h.oldS s4) (h.oldS s5))) rfl fun r1 w5 h hF=>zp2 rfl (ql (t:=17) hF rfl ?_ ?_)))))<;>intro hF
  ·refine X0 8 rfl (qes rfl rfl (X0 4 rfl ?_))
   obtain rfl:=qb hF;replace hF:=hK1
   exact rb h hF rfl
  refine X1 7 1 h rfl ?_
  obtain ⟨x1,hx1,hF⟩:=qd hF
  obtain ⟨p6,k6,hp2,hk1,hl1,g1⟩:=qsF (h.oldS s2) hx1
  refine r_v (qdI qc rfl rfl rfl (qsS g1 rfl) hp2 hk1 hl1 rfl rfl rfl rfl) rfl ?_
  have s6:=qs9 s2 hx1 hp2 hk1
  refine X0 3 rfl (zcB h hF (qeb ⟨_,_,rfl,(h.oldS s6)⟩ (qiG (x:=y1) 0 h rfl (qgx y1 (h.oldS s4) (h.oldS s5)))) rfl fun r2 w6 h hF=>X0 2 rfl (qi rfl hF ?_ ?_))<;>intro hF
  ·refine X0 4 rfl ?_
   obtain rfl:=qb hF;replace hF:=hK1
   exact rb h hF rfl
  refine X0 6 rfl ?_
  replace h:=h.pick [1] rfl
  exact rK ⟨_,hF,rfl,h⟩ rfl
 refine qm rfl ?_
 obtain rfl:=qb hF;replace hF:=hK1
 exact X1 8 0 h rfl (rb h hF rfl)
def qi4 (_:Nat) (a:qF) (v0:Int):Option Bool :=
 some (a.Ar==v0)
theorem qmK {a:qF} {v0:Int} (ha1:GoT.R w (old w) a cs1) {p3:Option Addr} (ha2:GoT.R w (old w) (some v0) [.pointer p3]) {r:Bool} (hF:qi4 n a v0=some r):RetV Tryz.prog 266 [GoT.v qF cs1,.pointer p3] w r:=by
 obtain ⟨p1,k1,p2,k2,rfl,s1,s2⟩:=qaj ha1
 obtain ⟨b1,o_1,cs2,rfl,-,hr1,hc1⟩:=PtR.get ha2 rfl
 obtain rfl:=hr1
 exact zV 8 Tryz.func266 rfl fun h=>zSR (qu h rfl rfl fun w1 bb1 h=>X1 6 0 h rfl (zc 0 (hc1.below h.below) rfl (X0 3 rfl (rb h hF rfl))))
def qR (s:(List qF)) (f_0:Int):Nat→Int→Option (Flow Int Int)
 | 0,_=>none
 | n+1,i1 =>
  bif decide (i1<(s.length:Int)) then
   (idx s i1).bind fun y1 =>
   (qi4 n y1 f_0).bind fun r1 =>
   bif r1 then some (.ret i1) else
   qR s f_0 n (W64 (i1+1))
  else
   some (.nxt i1)
def qbl (n:Nat) (s:(List qF)) (f_0:Int):Option Int :=
 (qR s f_0 n 0).bind fun o=>match o with
 | .ret r=>some r
 | .nxt _ =>
  some (-1)
theorem qfB {s:(List qF)} {f_0:Int} (ha1:GoT.R w (old w) s cs1) {p2:Option Addr} (ha2:GoT.R w (old w) (some f_0) [.pointer p2]) {r:Int} (hF:qbl n s f_0=some r):RetV Tryz.prog 194 [GoT.v (List qF) cs1,.func (.func 266) #[] #[.pointer p2]] w r:=by
 obtain ⟨p1,k1,rfl,s1⟩:=ha1
 obtain ⟨b1,o_1,cs2,rfl,-,hr1,hc1⟩:=PtR.get ha2 rfl
 obtain rfl:=hr1
 refine zV 19 Tryz.func194 rfl fun h=>X0 11 rfl ?_
 obtain ⟨o1,hF,hK1⟩:=qd hF
 refine qk (rL (fun m e w'=>∃ (i1:Int),qR s f_0 m i1=some o1∧e=[(0,.slice p1 s.length k1),(1,.func (.func 266) #[] #[.pointer (some ⟨b1,o_1,none⟩)]),(7,.int .i64 (s.length:Int)),(8,.int .i64 i1)]∧SH w w' []) n ⟨_,hF,rfl,h⟩ rfl ?_)
 rintro m1 e1 w1 ⟨i1,hF,rfl,h⟩
 rcases m1 with _|m1
 ·cases hF
 refine X0 5 rfl (qi rfl hF ?_ ?_)<;>intro hF
 ·refine X0 13 rfl ?_
  obtain ⟨y1,hy1,hF,he1,b2,_,q1,cs3,hp1,hq1,hr2,hc3⟩:=s1.ix hF
  obtain ⟨p3,k2,p4,k3,rfl,s2,s3⟩:=qaj hr2
  refine zxe hp1 hq1 he1 rfl (zc 0 (hc3.below h.below) rfl (zcB h hF (qmK (qgx y1 (h.oldS s2) (h.oldS s3)) (h.old ha2)) rfl fun r1 w2 h hF=>qcw (qi rfl hF ?_ ?_)))<;>intro hF
  ·refine X0 5 rfl ?_
   obtain rfl:=qb hF;replace hF:=hK1
   exact ri h hF rfl
  exact X0 6 rfl (rK ⟨_,hF,rfl,h⟩ rfl)
 refine qm rfl ?_
 obtain rfl:=qb hF;replace hF:=hK1
 exact X0 4 rfl (ri h hF rfl)
def qa1 (n:Nat) (s:(List qF)) (f_0:Int):Option Bool :=
 (qbl n s f_0).bind fun r1 =>
 some (decide (r1 ≥ 0))
theorem qeO {s:(List qF)} {f_0:Int} (ha1:GoT.R w (old w) s cs1) {p2:Option Addr} (ha2:GoT.R w (old w) (some f_0) [.pointer p2]) {r:Bool} (hF:qa1 n s f_0=some r):RetV Tryz.prog 146 [GoT.v (List qF) cs1,.func (.func 266) #[] #[.pointer p2]] w r:=by
 obtain ⟨p1,k1,rfl,s1⟩:=ha1
 obtain ⟨b1,o_1,cs2,rfl,-,hr1,hc1⟩:=PtR.get ha2 rfl
 obtain rfl:=hr1
 exact zV 9 Tryz.func146 rfl fun h=>X0 8 rfl (zcI h hF (qfB ⟨_,_,rfl,(h.oldS s1)⟩ (h.old ha2)) rfl fun r1 w1 h hF=>X0 3 rfl (rb h hF rfl))
def qc8 (n:Nat) (c:qp) (kind:Int):Option Bool :=
 (qa1 n c.Ap kind).bind fun r1 =>
 some r1
theorem qd9 {c:qp} {kind:Int} (ha1:GoT.R w (old w) c cs1) {r:Bool} (hF:qc8 n c kind=some r):RetV Tryz.prog 247 [GoT.v qp cs1,.int .i64 kind] w r:=by
 obtain ⟨p1,k1,p2,k2,p3,k3,rfl,s1,s2,s3⟩:=qJ ha1
 exact zV 9 Tryz.func247 rfl fun h=>zSR (qu h rfl rfl fun w1 bb1 h=>qu h rfl rfl fun w2 bb2 h=>X1 7 1 h rfl (zcB h hF (qeO ⟨_,_,rfl,(h.oldS s2)⟩ (qiG (x:=kind) 0 h rfl rfl)) rfl fun r1 w3 h hF=>X0 2 rfl (rb h hF rfl)))
def qaZ (a_0:qp):Nat→Int→Int→Option (Int × Int)
 | 0,_,_=>none
 | n+1,i1,i2 =>
  bif decide (i2<(a_0.Am.length:Int)) then
   (idx a_0.Am i2).bind fun y1 =>
   bif y1.Be then qaZ a_0 n (W64 (i1+1)) (W64 (i2+1)) else
   qaZ a_0 n i1 (W64 (i2+1))
  else
   some (i1,i2)
def qfQ (n:Nat) (a_0:qp):Option Bool :=
 (qaZ a_0 n 0 0).bind fun o=>match o with
 | (i1,_) =>
  bif (a_0.Ar==1) then
   bif (i1==0) then
    (qcm n a_0).bind fun r1 =>
    (shlS 1 r1).bind fun y2 =>
    bif ((a_0.Ay.length:Int)==y2) then
     (qbI n a_0.Ay 0 1).bind fun r2 =>
     some r2
    else
     some false
   else
    some false
  else
   bif (a_0.Ar==2) then
    bif (i1==1) then
     bif ((a_0.Ay.length:Int)==0) then
      (qc8 n a_0 1).bind fun r3 =>
      bif (!r3) then
       (qc8 n a_0 2).bind fun r4 =>
       (qc8 n a_0 3).bind fun r5 =>
       some (!(r4==r5))
      else
       some false
     else
      some false
    else
     some false
   else
    bif (a_0.Ar==3) then
     bif (i1==1) then
      bif ((a_0.Ay.length:Int)==0) then
       (qc8 n a_0 1).bind fun r6 =>
       bif r6 then
        (qc8 n a_0 2).bind fun r7 =>
        bif r7 then
         (qc8 n a_0 3).bind fun r8 =>
         some (!r8)
        else
         some false
       else
        some false
      else
       some false
     else
      some false
    else
     some false
theorem qly {a_0:qp} (ha1:GoT.R w (old w) a_0 cs1) {r:Bool} (hF:qfQ n a_0=some r):RetV Tryz.prog 235 [GoT.v qp cs1] w r:=by
 obtain ⟨p1,k1,p2,k2,p3,k3,rfl,s1,s2,s3⟩:=qJ ha1
 refine zV 83 Tryz.func235 rfl fun h=>zSR (qu h rfl rfl fun w1 bb1 h=>X1 14 0 h rfl ?_)
 obtain ⟨o1,hF,hK1⟩:=qd hF
 refine qk (rL (fun m e w'=>∃ (i1:Int) (i2:Int),qaZ a_0 m i1 i2=some o1∧e=[(1,.pointer (some ⟨bb1,0,none⟩)),(3,.int .i64 i1),(7,.slice p1 a_0.Am.length k1),(8,.int .i64 (a_0.Am.length:Int)),(9,.int .i64 i2)]∧SH w w' [Ch.box bb1 (qbV a_0 p1 p2 p3 k1 k2 k3) 201]) n ⟨_,_,hF,rfl,h⟩ rfl ?_)
 rintro m1 e1 w2 ⟨i1,i2,hF,rfl,h⟩
 rcases m1 with _|m1
 ·cases hF
 refine X0 5 rfl (qi rfl hF ?_ ?_)<;>intro hF
 ·refine zKSBSR ?_
  obtain ⟨y1,hy1,hF,he1,b1,_,q1,cs2,hp1,hq1,hr1,hc2⟩:=s1.ix hF
  obtain rfl:=qaF hr1
  refine zxe hp1 hq1 he1 rfl (zc 0 (hc2.below h.below) rfl (qA qc h rfl rfl rfl fun w3 bb2 h=>zs 0 h rfl fun w4 h=>X1 6 0 h rfl (qi rfl hF ?_ ?_)))<;>intro hF
  ·refine X0 10 rfl ?_
   replace h:=h.pick [1] rfl
   exact rK ⟨_,_,hF,rfl,h⟩ rfl
  refine X0 6 rfl ?_
  replace h:=h.pick [1] rfl
  exact rK ⟨_,_,hF,rfl,h⟩ rfl
 refine qm rfl ?_
 obtain rfl:=qb hF;replace hF:=hK1
 refine X1 12 0 h rfl (qi rfl hF ?_ ?_)<;>intro hF
 ·refine qgT (rD (zd3 rfl (qbx (t:=24) hF rfl ?_ ?_)))<;>intro hF
  ·refine Y1 4 0 h rfl ?_
   refine Y1 4 0 h rfl ?_
   refine Y0 1 rfl ?_
   obtain ⟨r1,hr2,hF⟩:=qd hF
   refine qbR r1 (vsI _) (cB 149 rfl) (fun _ hb=>qe6 ((h.ext hb).old ha1) hr2) rfl rfl rfl rfl (Y0 1 rfl ?_)
   obtain ⟨y2,hx1,hF⟩:=qd hF
   obtain ⟨g1,hx1⟩:=qnL hx1
   refine d_v (fun _ hb=>qvf g1 rfl rfl) rfl ?_
   rw [hx1]
   refine Y0 4 rfl (qbx (t:=33) hF rfl ?_ ?_)<;>intro hF
   ·refine Y1 4 0 h rfl ?_
    refine Y0 1 rfl ?_
    obtain ⟨r2,hr3,hF⟩:=qd hF
    exact qbR r2 (vsB _) (cB 81 rfl) (fun _ hb=>qcC ⟨_,_,rfl,((h.ext hb).oldS s3)⟩ hr3) rfl rfl rfl rfl (zd2 rfl (dN h fun w5 h=>rb h hF rfl))
   exact Y0 5 rfl (dN h fun w6 h=>rb h hF rfl)
  exact Y0 14 rfl (dN h fun w7 h=>rb h hF rfl)
 refine X0 5 rfl (qi rfl hF ?_ ?_)<;>intro hF
 ·refine qgT (rD (zd3 rfl (qbx (t:=42) hF rfl ?_ ?_)))<;>intro hF
  ·refine Y1 4 0 h rfl ?_
   refine Y0 6 rfl (qbx (t:=48) hF rfl ?_ ?_)<;>intro hF
   ·refine Y1 2 0 h rfl ?_
    refine Y0 1 rfl ?_
    obtain ⟨r3,hr4,hF⟩:=qd hF
    refine qbR r3 (vsB _) (cB 247 rfl) (fun _ hb=>qd9 ((h.ext hb).old ha1) hr4) rfl rfl rfl rfl (Y0 4 rfl (qbx (t:=53) hF rfl ?_ ?_))<;>intro hF
    ·refine Y1 2 0 h rfl ?_
     refine Y0 1 rfl ?_
     obtain ⟨r4,hr5,hF⟩:=qd hF
     refine qbR r4 (vsB _) (cB 247 rfl) (fun _ hb=>qd9 ((h.ext hb).old ha1) hr5) rfl rfl rfl rfl (Y1 2 0 h rfl ?_)
     refine Y0 1 rfl ?_
     obtain ⟨r5,hr6,hF⟩:=qd hF
     exact qbR r5 (vsB _) (cB 247 rfl) (fun _ hb=>qd9 ((h.ext hb).old ha1) hr6) rfl rfl rfl rfl (Y0 4 rfl (dN h fun w8 h=>rb h hF rfl))
    exact Y0 7 rfl (dN h fun w9 h=>rb h hF rfl)
   exact Y0 12 rfl (dN h fun w10 h=>rb h hF rfl)
  exact Y0 18 rfl (dN h fun w11 h=>rb h hF rfl)
 refine X0 5 rfl (qi rfl hF ?_ ?_)<;>intro hF
 ·refine X0 5 rfl (ql (t:=64) hF rfl ?_ ?_)<;>intro hF
  ·refine X1 10 0 h rfl (ql (t:=70) hF rfl ?_ ?_)<;>intro hF
   ·refine X1 3 0 h rfl (zcB h hF (qd9 (h.old ha1)) rfl fun r6 w12 h hF=>zp2 rfl (ql (t:=74) hF rfl ?_ ?_))<;>intro hF
    ·refine X1 3 0 h rfl (zcB h hF (qd9 (h.old ha1)) rfl fun r7 w13 h hF=>zp2 rfl (ql (t:=78) hF rfl ?_ ?_))<;>intro hF
     ·exact X1 3 0 h rfl (zcB h hF (qd9 (h.old ha1)) rfl fun r8 w14 h hF=>X0 5 rfl (rb h hF rfl))
     exact X0 6 rfl (rb h hF rfl)
    exact X0 10 rfl (rb h hF rfl)
   exact X0 14 rfl (rb h hF rfl)
  exact X0 20 rfl (rb h hF rfl)
 exact X0 6 rfl (rb h hF rfl)
def qkc (n:Nat) (c:qp):Option Bool :=
 (qiJ n c.As).bind fun r1 =>
 bif r1 then
  (qjp n c.Am).bind fun r2 =>
  bif r2 then
   (qgl n c).bind fun r3 =>
   bif r3 then
    (qaE n c.Bo 0 100000).bind fun r4 =>
    bif r4 then
     (qaE n c.Bg 0 100000).bind fun r5 =>
     bif r5 then
      (qfQ n c).bind fun r6 =>
      some r6
     else
      some false
    else
     some false
   else
    some false
  else
   some false
 else
  some false
theorem qpq {c:qp} (ha1:GoT.R w (old w) c cs1) {r:Bool} (hF:qkc n c=some r):RetV Tryz.prog 213 [GoT.v qp cs1] w r:=by
 obtain ⟨p1,k1,p2,k2,p3,k3,rfl,s1,s2,s3⟩:=qJ ha1
 refine zV 29 Tryz.func213 rfl fun h=>zSR (qu h rfl rfl fun w1 bb1 h=>X1 6 0 h rfl (zcB h hF qlM rfl fun r1 w2 h hF=>zp1 rfl (ql (t:=6) hF rfl ?_ ?_)))<;>intro hF
 ·refine X1 5 0 h rfl (zcB h hF (qoB ⟨_,_,rfl,(h.oldS s1)⟩) rfl fun r2 w3 h hF=>zp2 rfl (ql (t:=11) hF rfl ?_ ?_))<;>intro hF
  ·refine X1 3 0 h rfl (zcB h hF (qlQ (h.old ha1)) rfl fun r3 w4 h hF=>zp2 rfl (ql (t:=15) hF rfl ?_ ?_))<;>intro hF
   ·refine X1 5 0 h rfl (zcB h hF qar rfl fun r4 w5 h hF=>zp2 rfl (ql (t:=20) hF rfl ?_ ?_))<;>intro hF
    ·refine X1 5 0 h rfl (zcB h hF qar rfl fun r5 w6 h hF=>zp2 rfl (ql (t:=25) hF rfl ?_ ?_))<;>intro hF
     ·exact X1 3 0 h rfl (zcB h hF (qly (h.old ha1)) rfl fun r6 w7 h hF=>X0 3 rfl (rb h hF rfl))
     exact X0 5 rfl (rb h hF rfl)
    exact X0 10 rfl (rb h hF rfl)
   exact X0 15 rfl (rb h hF rfl)
  exact X0 19 rfl (rb h hF rfl)
 exact X0 24 rfl (rb h hF rfl)
def qcy (l:qn):Nat→(List ByteArray)→Int→Option (Flow Bool ((List ByteArray) × Int))
 | 0,_,_=>none
 | n+1,x1,i1 =>
  bif decide (i1<(l.Ah.length:Int)) then
   (idx l.Ah i1).bind fun y1 =>
   (qkc n y1).bind fun r1 =>
   bif (!r1) then some (.ret false) else
   (appS x1 ([y1.As]:List ByteArray)).bind fun x2 =>
   qcy l n x2 (W64 (i1+1))
  else
   some (.nxt (x1,i1))
def qh5 (n:Nat) (l:qn):Option Bool :=
 (qcy l n ([]:List ByteArray) 0).bind fun o=>match o with
 | .ret r=>some r
 | .nxt (x1,_) =>
  bif decide ((l.Ah.length:Int)≤8) then
   (qdT n x1).bind fun r2 =>
   some r2
  else
   some false
theorem qna {l:qn} (ha1:GoT.R w (old w) l cs1) {r:Bool} (hF:qh5 n l=some r):RetV Tryz.prog 182 [GoT.v qn cs1] w r:=by
 obtain ⟨p1,k1,rfl,s1⟩:=qa7 ha1
 refine zV 30 Tryz.func182 rfl fun h=>zSR (qu h rfl rfl fun w1 bb1 h=>X1 14 0 h rfl ?_)
 replace h:=h.nil (α:=ByteArray)
 obtain ⟨o1,hF,hK1⟩:=qd hF
 refine qk (rL (fun m e w'=>∃ (S1:Nat→Prop) (p2:Option Addr) (ln1:Nat) (k2:Nat) (x1:(List ByteArray)) (i1:Int),qcy l m x1 i1=some o1∧e=[(1,.pointer (some ⟨bb1,0,none⟩)),(3,.slice p2 ln1 k2),(7,.slice p1 l.Ah.length k1),(8,.int .i64 (l.Ah.length:Int)),(9,.int .i64 i1)]∧SH w w' [Ch.own S1 (x1:List ByteArray) [.slice p2 ln1 k2],Ch.box bb1 [.slice p1 l.Ah.length k1] 26]) n ⟨_,_,_,_,_,_,hF,rfl,h⟩ rfl ?_)
 rintro m1 e1 w2 ⟨S1,p2,ln1,k2,x1,i1,hF,rfl,h⟩
 obtain rfl:=(h.sl 0 rfl).2
 rcases m1 with _|m1
 ·cases hF
 refine X0 5 rfl (qi rfl hF ?_ ?_)<;>intro hF
 ·refine zKSBSR ?_
  obtain ⟨y1,hy1,hF,he1,b1,_,q1,cs2,hp1,hq1,hr1,hc2⟩:=s1.ix hF
  obtain ⟨p3,k3,p4,k4,p5,k5,rfl,s2,s3,s4⟩:=qJ hr1
  refine zxe hp1 hq1 he1 rfl (zc 0 (hc2.below h.below) rfl (qA qc h rfl rfl rfl fun w3 bb2 h=>zs 0 h rfl fun w4 h=>X1 5 0 h rfl (zcB h hF (qpq (qhv y1 (h.oldS s2) (h.oldS s3) (h.oldS s4))) rfl fun r1 w5 h hF=>X0 2 rfl (qi rfl hF ?_ ?_))))<;>intro hF
  ·refine X0 4 rfl ?_
   obtain rfl:=qb hF;replace hF:=hK1
   exact rb h hF rfl
  refine X1 5 0 h rfl (qG qc [.tmp 18] _ ([y1.As]:List ByteArray) h rfl rfl rfl rfl rfl rfl rfl rfl rfl ⟨rfl,trivial⟩ rfl fun w6 p6 S2 h=>?_)
  obtain ⟨x2,hx1,hF⟩:=qd hF
  obtain ⟨g1,hx1⟩:=qae hx1
  refine qcg qc 2 h rfl (h.sl 0 rfl).1 (h.sl 0 rfl).2 rfl rfl rfl rfl rfl rfl rfl rfl rfl g1 hx1 rfl fun w7 p7 k6 S3 h=>X0 7 rfl ?_
  replace h:=h.pick [2,3] rfl
  exact rK ⟨_,_,_,_,_,_,hF,rfl,h⟩ rfl
 refine qm rfl ?_
 obtain rfl:=qb hF;replace hF:=hK1
 refine X1 7 1 h rfl (ql (t:=26) hF rfl ?_ ?_)<;>intro hF
 ·exact X0 3 rfl (zcB h hF (qfj (h.own 0 rfl)) rfl fun r2 w8 h hF=>X0 3 rfl (rb h hF rfl))
 exact X0 5 rfl (rb h hF rfl)
def qa4 (d:qf):Nat→(List ByteArray)→Int→Option ((List ByteArray) × Int)
 | 0,_,_=>none
 | n+1,x3,i2 =>
  bif decide (i2<(d.Ac.length:Int)) then
   (idx d.Ac i2).bind fun y2 =>
   (appS x3 ([y2.As]:List ByteArray)).bind fun x4 =>
   qa4 d n x4 (W64 (i2+1))
  else
   some (x3,i2)
def qa2 (d:qf):Nat→(List ByteArray)→Int→Option ((List ByteArray) × Int)
 | 0,_,_=>none
 | n+1,x1,i1 =>
  bif decide (i1<(d.Aa.length:Int)) then
   (idx d.Aa i1).bind fun y1 =>
   (appS x1 ([y1.As]:List ByteArray)).bind fun x2 =>
   qa2 d n x2 (W64 (i1+1))
  else
   some (x1,i1)
def qeM (n:Nat) (d:qf):Option Bool :=
 (qa2 d n ([]:List ByteArray) 0).bind fun o=>match o with
 | (x1,_) =>
  (qa4 d n ([]:List ByteArray) 0).bind fun o=>match o with
  | (x3,_) =>
   bif decide ((x1.length:Int)≤14) then
    bif decide ((d.Af.length:Int)≤30) then
     bif decide ((x3.length:Int)≤8) then
      (qdT n x1).bind fun r1 =>
      bif r1 then
       (qdT n d.Af).bind fun r2 =>
       bif r2 then
        (qdT n x3).bind fun r3 =>
        some r3
       else
        some false
      else
       some false
     else
      some false
    else
     some false
   else
    some false
theorem qkG {d:qf} (ha1:GoT.R w (old w) d cs1) {r:Bool} (hF:qeM n d=some r):RetV Tryz.prog 183 [GoT.v qf cs1] w r:=by
 obtain ⟨p1,k1,p2,k2,p3,k3,rfl,s1,s2,s3⟩:=qag ha1
 refine zV 62 Tryz.func183 rfl fun h=>zSR (qu h rfl rfl fun w1 bb1 h=>X1 15 0 h rfl ?_)
 replace h:=h.nil (α:=ByteArray)
 obtain ⟨o1,hF,hK1⟩:=qd hF
 refine qk (rL (fun m e w'=>∃ (S1:Nat→Prop) (p4:Option Addr) (ln1:Nat) (k4:Nat) (x1:(List ByteArray)) (i1:Int),qa2 d m x1 i1=some o1∧e=[(1,.pointer (some ⟨bb1,0,none⟩)),(3,.slice p4 ln1 k4),(4,.slice none 0 0),(10,.slice p1 d.Aa.length k1),(11,.int .i64 (d.Aa.length:Int)),(12,.int .i64 i1)]∧SH w w' [Ch.own S1 (x1:List ByteArray) [.slice p4 ln1 k4],Ch.box bb1 (qa3 d p1 p2 p3 k1 k2 k3) 31]) n ⟨_,_,_,_,_,_,hF,rfl,h⟩ rfl ?_)
 rintro m1 e1 w2 ⟨S1,p4,ln1,k4,x1,i1,hF,rfl,h⟩
 obtain rfl:=(h.sl 0 rfl).2
 rcases m1 with _|m1
 ·cases hF
 refine X0 5 rfl (qi rfl hF ?_ ?_)<;>intro hF
 ·refine zKSBSR ?_
  obtain ⟨y1,hy1,hF,he1,b1,_,q1,cs2,hp1,hq1,hr1,hc2⟩:=s1.ix hF
  obtain ⟨p5,k5,rfl,s4⟩:=qM hr1
  refine zxe hp1 hq1 he1 rfl (zc 0 (hc2.below h.below) rfl (qA qc h rfl rfl rfl fun w3 bb2 h=>zs 0 h rfl fun w4 h=>X1 5 0 h rfl (qG qc [.tmp 18] _ ([y1.As]:List ByteArray) h rfl rfl rfl rfl rfl rfl rfl rfl rfl ⟨rfl,trivial⟩ rfl fun w5 p6 S2 h=>?_)))
  obtain ⟨x2,hx1,hF⟩:=qd hF
  obtain ⟨g1,hx1⟩:=qae hx1
  refine qcg qc 2 h rfl (h.sl 0 rfl).1 (h.sl 0 rfl).2 rfl rfl rfl rfl rfl rfl rfl rfl rfl g1 hx1 rfl fun w6 p7 k6 S3 h=>X0 7 rfl ?_
  replace h:=h.pick [2,3] rfl
  exact rK ⟨_,_,_,_,_,_,hF,rfl,h⟩ rfl
 refine qm rfl ?_
 obtain rfl:=qb hF;replace hF:=hK1
 refine X1 8 1 h rfl ?_
 replace h:=h.nil (α:=ByteArray)
 obtain ⟨o2,hF,hK2⟩:=qd hF
 refine qk (rL (fun m e w'=>∃ (S4:Nat→Prop) (p8:Option Addr) (ln2:Nat) (k7:Nat) (x3:(List ByteArray)) (i2:Int),qa4 d m x3 i2=some o2∧e=[(1,.pointer (some ⟨bb1,0,none⟩)),(3,.slice p4 x1.length k4),(4,.slice p8 ln2 k7),(23,.slice p3 d.Ac.length k3),(24,.int .i64 (d.Ac.length:Int)),(25,.int .i64 i2)]∧SH w w' [Ch.own S4 (x3:List ByteArray) [.slice p8 ln2 k7],Ch.own S1 (x1:List ByteArray) [.slice p4 x1.length k4],Ch.box bb1 (qa3 d p1 p2 p3 k1 k2 k3) 31]) n ⟨_,_,_,_,_,_,hF,rfl,h⟩ rfl ?_)
 rintro m2 e2 w7 ⟨S4,p8,ln2,k7,x3,i2,hF,rfl,h⟩
 obtain rfl:=(h.sl 0 rfl).2
 rcases m2 with _|m2
 ·cases hF
 refine X0 5 rfl (qi rfl hF ?_ ?_)<;>intro hF
 ·refine zKSBSR ?_
  obtain ⟨y2,hy2,hF,he2,b2,_,q2,cs3,hp2,hq2,hr2,hc4⟩:=s3.ix hF
  obtain rfl:=qaC hr2
  refine zxe hp2 hq2 he2 rfl (zc 0 (hc4.below h.below) rfl (qA qc h rfl rfl rfl fun w8 bb3 h=>zs 0 h rfl fun w9 h=>X1 5 0 h rfl (qG qc [.tmp 31] _ ([y2.As]:List ByteArray) h rfl rfl rfl rfl rfl rfl rfl rfl rfl ⟨rfl,trivial⟩ rfl fun w10 p9 S5 h=>?_)))
  obtain ⟨x4,hx2,hF⟩:=qd hF
  obtain ⟨g2,hx2⟩:=qae hx2
  refine qcg qc 2 h rfl (h.sl 0 rfl).1 (h.sl 0 rfl).2 rfl rfl rfl rfl rfl rfl rfl rfl rfl g2 hx2 rfl fun w11 p10 k8 S6 h=>X0 7 rfl ?_
  replace h:=h.pick [2,3,4] rfl
  exact rK ⟨_,_,_,_,_,_,hF,rfl,h⟩ rfl
 refine qm rfl ?_
 obtain rfl:=qb hF;replace hF:=hK2
 refine X0 6 rfl (ql (t:=38) hF rfl ?_ ?_)<;>intro hF
 ·refine X1 10 2 h rfl (ql (t:=44) hF rfl ?_ ?_)<;>intro hF
  ·refine X0 8 rfl (ql (t:=49) hF rfl ?_ ?_)<;>intro hF
   ·refine X0 3 rfl (zcB h hF (qfj (h.own 1 rfl)) rfl fun r1 w12 h hF=>zp2 rfl (ql (t:=53) hF rfl ?_ ?_))<;>intro hF
    ·refine X1 5 2 h rfl (zcB h hF (qfj ⟨_,_,rfl,(h.oldS s2)⟩) rfl fun r2 w13 h hF=>zp2 rfl (ql (t:=58) hF rfl ?_ ?_))<;>intro hF
     ·exact X0 3 rfl (zcB h hF (qfj (h.own 0 rfl)) rfl fun r3 w14 h hF=>X0 3 rfl (rb h hF rfl))
     exact X0 5 rfl (rb h hF rfl)
    exact X0 10 rfl (rb h hF rfl)
   exact X0 14 rfl (rb h hF rfl)
  exact X0 19 rfl (rb h hF rfl)
 exact X0 25 rfl (rb h hF rfl)
def qgb (_:Nat) (list:(List qp)):Option Int :=
 some (list.length:Int)
theorem qkz {list:(List qp)} (ha1:GoT.R w (old w) list cs1) {r:Int} (hF:qgb n list=some r):RetV Tryz.prog 215 [GoT.v (List qp) cs1] w r:=by
 obtain ⟨p1,k1,rfl,s1⟩:=ha1
 exact zV 5 Tryz.func215 rfl fun h=>X0 10 rfl (ri h hF rfl)
def qhi (_:Nat) (list:(List ByteArray)):Option Int :=
 some (list.length:Int)
theorem qlx {list:(List ByteArray)} (ha1:GoT.R w (old w) list cs1) {r:Int} (hF:qhi n list=some r):RetV Tryz.prog 217 [GoT.v (List ByteArray) cs1] w r:=by
 obtain ⟨p1,k1,rfl,s1⟩:=ha1
 exact zV 5 Tryz.func217 rfl fun h=>X0 10 rfl (ri h hF rfl)
def qdp (n:Nat) (d:qf) (net:Int):Option Bool :=
 (qhi n d.Af).bind fun r1 =>
 (qaE n net 0 (W64 (r1-1))).bind fun r2 =>
 some r2
theorem qgv {d:qf} {net:Int} (ha1:GoT.R w (old w) d cs1) {r:Bool} (hF:qdp n d net=some r):RetV Tryz.prog 185 [GoT.v qf cs1,.int .i64 net] w r:=by
 obtain ⟨p1,k1,p2,k2,p3,k3,rfl,s1,s2,s3⟩:=qag ha1
 exact zV 11 Tryz.func185 rfl fun h=>zSR (qu h rfl rfl fun w1 bb1 h=>X1 7 0 h rfl (zcI h hF (qlx ⟨_,_,rfl,(h.oldS s2)⟩) rfl fun r1 w2 h hF=>zp1 rfl (zcB h hF qar rfl fun r2 w3 h hF=>X0 2 rfl (rb h hF rfl))))
def qda (n:Nat) (net:Int) (v0:qf):Option Bool :=
 (qdp n v0 net).bind fun r1 =>
 some (!r1)
theorem qje {net:Int} {v0:qf} {p1:Option Addr} (ha1:GoT.R w (old w) (some v0) [.pointer p1]) {r:Bool} (hF:qda n net v0=some r):RetV Tryz.prog 216 [.int .i64 net,.pointer p1] w r:=by
 obtain ⟨b1,o_1,cs1,rfl,-,hr1,hc1⟩:=PtR.get ha1 rfl
 obtain ⟨p2,k1,p3,k2,p4,k3,rfl,s1,s2,s3⟩:=qag hr1
 exact zV 8 Tryz.func216 rfl fun h=>X0 6 rfl (zc 0 (hc1.below h.below) rfl (zp1 rfl (zcB h hF (qgv (qaz v0 (h.oldS s1) (h.oldS s2) (h.oldS s3))) rfl fun r1 w1 h hF=>X0 3 rfl (rb h hF rfl))))
def qD (s:(List Int)) (f_0:qf):Nat→Int→Option (Flow Int Int)
 | 0,_=>none
 | n+1,i1 =>
  bif decide (i1<(s.length:Int)) then
   (idx s i1).bind fun y1 =>
   (qda n y1 f_0).bind fun r1 =>
   bif r1 then some (.ret i1) else
   qD s f_0 n (W64 (i1+1))
  else
   some (.nxt i1)
def qaP (n:Nat) (s:(List Int)) (f_0:qf):Option Int :=
 (qD s f_0 n 0).bind fun o=>match o with
 | .ret r=>some r
 | .nxt _ =>
  some (-1)
theorem qem {s:(List Int)} {f_0:qf} (ha1:GoT.R w (old w) s cs1) {p2:Option Addr} (ha2:GoT.R w (old w) (some f_0) [.pointer p2]) {r:Int} (hF:qaP n s f_0=some r):RetV Tryz.prog 193 [GoT.v (List Int) cs1,.func (.func 216) #[] #[.pointer p2]] w r:=by
 obtain ⟨p1,k1,rfl,s1⟩:=ha1
 obtain ⟨b1,o_1,cs2,rfl,-,hr1,hc1⟩:=PtR.get ha2 rfl
 obtain ⟨p3,k2,p4,k3,p5,k4,rfl,s2,s3,s4⟩:=qag hr1
 refine zV 19 Tryz.func193 rfl fun h=>X0 11 rfl ?_
 obtain ⟨o1,hF,hK1⟩:=qd hF
 refine qk (rL (fun m e w'=>∃ (i1:Int),qD s f_0 m i1=some o1∧e=[(0,.slice p1 s.length k1),(1,.func (.func 216) #[] #[.pointer (some ⟨b1,o_1,none⟩)]),(7,.int .i64 (s.length:Int)),(8,.int .i64 i1)]∧SH w w' []) n ⟨_,hF,rfl,h⟩ rfl ?_)
 rintro m1 e1 w1 ⟨i1,hF,rfl,h⟩
 rcases m1 with _|m1
 ·cases hF
 refine X0 5 rfl (qi rfl hF ?_ ?_)<;>intro hF
 ·refine X0 13 rfl ?_
  obtain ⟨y1,hy1,hF,he1,b2,_,q1,cs3,hp1,hq1,rfl,hc3⟩:=s1.ix hF
  refine zxe hp1 hq1 he1 rfl (zc 0 (hc3.below h.below) rfl (zcB h hF (qje (h.old ha2)) rfl fun r1 w2 h hF=>qcw (qi rfl hF ?_ ?_)))<;>intro hF
  ·refine X0 5 rfl ?_
   obtain rfl:=qb hF;replace hF:=hK1
   exact ri h hF rfl
  exact X0 6 rfl (rK ⟨_,hF,rfl,h⟩ rfl)
 refine qm rfl ?_
 obtain rfl:=qb hF;replace hF:=hK1
 exact X0 4 rfl (ri h hF rfl)
def qaH (n:Nat) (s:(List Int)) (f_0:qf):Option Bool :=
 (qaP n s f_0).bind fun r1 =>
 some (decide (r1 ≥ 0))
theorem qdG {s:(List Int)} {f_0:qf} (ha1:GoT.R w (old w) s cs1) {p2:Option Addr} (ha2:GoT.R w (old w) (some f_0) [.pointer p2]) {r:Bool} (hF:qaH n s f_0=some r):RetV Tryz.prog 141 [GoT.v (List Int) cs1,.func (.func 216) #[] #[.pointer p2]] w r:=by
 obtain ⟨p1,k1,rfl,s1⟩:=ha1
 obtain ⟨b1,o_1,cs2,rfl,-,hr1,hc1⟩:=PtR.get ha2 rfl
 obtain ⟨p3,k2,p4,k3,p5,k4,rfl,s2,s3,s4⟩:=qag hr1
 exact zV 9 Tryz.func141 rfl fun h=>X0 8 rfl (zcI h hF (qem ⟨_,_,rfl,(h.oldS s1)⟩ (h.old ha2)) rfl fun r1 w1 h hF=>X0 3 rfl (rb h hF rfl))
def qdM (n:Nat) (d:qf) (l:qn) (x:qj):Option Bool :=
 (qgb n l.Ah).bind fun r1 =>
 (qaE n x.Ba 0 (W64 (r1-1))).bind fun r2 =>
 bif r2 then
  (idx l.Ah x.Ba).bind fun y1 =>
  bif ((x.Af.length:Int)==(y1.Am.length:Int)) then
   (qaH n x.Af d).bind fun r3 =>
   some (!r3)
  else
   some false
 else
  some false
theorem qj6 {d:qf} {l:qn} {x:qj} (ha1:GoT.R w (old w) d cs1) (ha2:GoT.R w (old w) l cs2) (ha3:GoT.R w (old w) x cs3) {r:Bool} (hF:qdM n d l x=some r):RetV Tryz.prog 184 [GoT.v qf cs1,GoT.v qn cs2,GoT.v qj cs3] w r:=by
 obtain ⟨p1,k1,p2,k2,p3,k3,rfl,s1,s2,s3⟩:=qag ha1
 obtain ⟨p4,k4,rfl,s4⟩:=qa7 ha2
 obtain ⟨p5,k5,rfl,s5⟩:=qM ha3
 refine zV 35 Tryz.func184 rfl fun h=>zSR (qu h rfl rfl fun w1 bb1 h=>qu h rfl rfl fun w2 bb2 h=>qu h rfl rfl fun w3 bb3 h=>X0 3 rfl (rD (Y1 2 0 h rfl ?_)))
 refine Y1 2 1 h rfl ?_
 obtain ⟨r1,hr1,hF⟩:=qd hF
 refine qbR r1 (vsI _) (cB 215 rfl) (fun _ hb=>qkz ⟨_,_,rfl,((h.ext hb).oldS s4)⟩ hr1) rfl rfl rfl rfl (zd1 rfl ?_)
 obtain ⟨r2,hr2,hF⟩:=qd hF
 refine qbR r2 (vsB _) (cB 79 rfl) (fun _ hb=>qar  hr2) rfl rfl rfl rfl (zd1 rfl (qbx (t:=14) hF rfl ?_ ?_))<;>intro hF
 ·refine Y1 4 0 h rfl ?_
  refine Y1 6 1 h rfl ?_
  refine Y1 4 0 h rfl ?_
  refine Y0 1 rfl ?_
  obtain ⟨y1,hy1,hF,he1,b1,_,q1,cs4,hp1,hq1,hr3,hc1⟩:=s4.ix hF
  obtain ⟨p6,k6,p7,k7,p8,k8,rfl,s6,s7,s8⟩:=qJ hr3
  refine zdxe hp1 hq1 he1 rfl (Y0 3 rfl (zdc 2 (hc1.below h.below) rfl (Y0 6 rfl (qbx (t:=28) hF rfl ?_ ?_))))<;>intro hF
  ·refine Y1 4 0 h rfl ?_
   refine Y0 3 rfl ?_
   obtain ⟨r3,hr4,hF⟩:=qd hF
   exact qbR r3 (vsB _) (cB 141 rfl) (fun _ hb=>qdG ⟨_,_,rfl,((h.ext hb).oldS s5)⟩ (qiG (x:=d) 2 (h.ext hb) rfl ((h.ext hb).old ha1)) hr4) rfl rfl rfl rfl (Y0 4 rfl (dN h fun w4 h=>rb h hF rfl))
  exact Y0 7 rfl (dN h fun w5 h=>rb h hF rfl)
 exact Y0 21 rfl (dN h fun w6 h=>rb h hF rfl)
def qi6 (_:Nat) (a_n:Int):Option Bool :=
 some (a_n != 1)
theorem qmL {a_n:Int}  {r:Bool} (hF:qi6 n a_n=some r):RetV Tryz.prog 187 [.int .i64 a_n] w r:=by
 exact zV 5 Tryz.func187 rfl fun h=>X0 10 rfl (rb h hF rfl)
def qaa (s:(List Int)):Nat→Int→Option (Flow Int Int)
 | 0,_=>none
 | n+1,i1 =>
  bif decide (i1<(s.length:Int)) then
   (idx s i1).bind fun y1 =>
   (qi6 n y1).bind fun r1 =>
   bif r1 then some (.ret i1) else
   qaa s n (W64 (i1+1))
  else
   some (.nxt i1)
def qbT (n:Nat) (s:(List Int)):Option Int :=
 (qaa s n 0).bind fun o=>match o with
 | .ret r=>some r
 | .nxt _ =>
  some (-1)
theorem qgn {s:(List Int)} (ha1:GoT.R w (old w) s cs1) {r:Int} (hF:qbT n s=some r):RetV Tryz.prog 218 [GoT.v (List Int) cs1,.func (.func 187) #[] #[]] w r:=by
 obtain ⟨p1,k1,rfl,s1⟩:=ha1
 refine zV 19 Tryz.func218 rfl fun h=>X0 11 rfl ?_
 obtain ⟨o1,hF,hK1⟩:=qd hF
 refine qk (rL (fun m e w'=>∃ (i1:Int),qaa s m i1=some o1∧e=[(0,.slice p1 s.length k1),(1,.func (.func 187) #[] #[]),(7,.int .i64 (s.length:Int)),(8,.int .i64 i1)]∧SH w w' []) n ⟨_,hF,rfl,h⟩ rfl ?_)
 rintro m1 e1 w1 ⟨i1,hF,rfl,h⟩
 rcases m1 with _|m1
 ·cases hF
 refine X0 5 rfl (qi rfl hF ?_ ?_)<;>intro hF
 ·refine X0 13 rfl ?_
  obtain ⟨y1,hy1,hF,he1,b1,_,q1,cs2,hp1,hq1,rfl,hc2⟩:=s1.ix hF
  refine zxe hp1 hq1 he1 rfl (zc 0 (hc2.below h.below) rfl (zcB h hF qmL rfl fun r1 w2 h hF=>qcw (qi rfl hF ?_ ?_)))<;>intro hF
  ·refine X0 5 rfl ?_
   obtain rfl:=qb hF;replace hF:=hK1
   exact ri h hF rfl
  exact X0 6 rfl (rK ⟨_,hF,rfl,h⟩ rfl)
 refine qm rfl ?_
 obtain rfl:=qb hF;replace hF:=hK1
 exact X0 4 rfl (ri h hF rfl)
def qby (n:Nat) (s:(List Int)):Option Bool :=
 (qbT n s).bind fun r1 =>
 some (decide (r1 ≥ 0))
theorem qfL {s:(List Int)} (ha1:GoT.R w (old w) s cs1) {r:Bool} (hF:qby n s=some r):RetV Tryz.prog 186 [GoT.v (List Int) cs1,.func (.func 187) #[] #[]] w r:=by
 obtain ⟨p1,k1,rfl,s1⟩:=ha1
 exact zV 9 Tryz.func186 rfl fun h=>X0 8 rfl (zcI h hF (qgn ⟨_,_,rfl,(h.oldS s1)⟩) rfl fun r1 w1 h hF=>X0 3 rfl (rb h hF rfl))
def qcp (a_1:qf):Nat→(List Int)→Int→Option (Flow Bool ((List Int) × Int))
 | 0,_,_=>none
 | n+1,x3,i2 =>
  bif decide (i2<(a_1.Ac.length:Int)) then
   (idx a_1.Ac i2).bind fun y5 =>
   (
    bif (y5.Bl != 1) then
     bif (y5.Bl != 2) then some true else
     (qdp n a_1 y5.Bp).bind fun r2 =>
     some (!r2)
    else
     (qdp n a_1 y5.Bp).bind fun r3 =>
     some (!r3)).bind fun b7 =>
   bif b7 then some (.ret false) else
   bif (y5.Bl==1) then
    (idx x3 y5.Bp).bind fun y6 =>
    (idx x3 y5.Bp).bind fun _ =>
    qcp a_1 n (setS x3 y5.Bp (W64 (y6+1))) (W64 (i2+1))
   else
    qcp a_1 n x3 (W64 (i2+1))
  else
   some (.nxt (x3,i2))
def qcY (a_0:qn) (a_1:qf):Nat→(List Int)→Int→Option (Flow Bool ((List Int) × Int))
 | 0,_,_=>none
 | n+1,x2,i1 =>
  bif decide (i1<(a_1.Aa.length:Int)) then
   (idx a_1.Aa i1).bind fun y1 =>
   (qdM n a_1 a_0 y1).bind fun r1 =>
   bif (!r1) then some (.ret false) else
   (idx y1.Af (W64 ((y1.Af.length:Int)-1))).bind fun y2 =>
   (idx x2 y2).bind fun y3 =>
   (idx x2 y2).bind fun _ =>
   qcY a_0 a_1 n (setS x2 y2 (W64 (y3+1))) (W64 (i1+1))
  else
   some (.nxt (x2,i1))
def qiC (n:Nat) (a_0:qn) (a_1:qf):Option Bool :=
 (
  (qh5 n a_0).bind fun r5 =>
  bif (!r5) then some true else
  (qeM n a_1).bind fun r6 =>
  some (!r6)).bind fun b1 =>
 bif b1 then some false else
 (mkS (a_1.Af.length:Int) (0:Int)).bind fun x1 =>
 (qcY a_0 a_1 n x1 0).bind fun o=>match o with
 | .ret r=>some r
 | .nxt (x2,_) =>
  (qcp a_1 n x2 0).bind fun o=>match o with
  | .ret r=>some r
  | .nxt (x3,_) =>
   (qby n x3).bind fun r4 =>
   some (!r4)
theorem qnT {a_0:qn} {a_1:qf} (ha1:GoT.R w (old w) a_0 cs1) (ha2:GoT.R w (old w) a_1 cs2) {r:Bool} (hF:qiC n a_0 a_1=some r):RetV Tryz.prog 132 [GoT.v qn cs1,GoT.v qf cs2] w r:=by
 obtain ⟨p1,k1,rfl,s1⟩:=qa7 ha1
 obtain ⟨p2,k2,p3,k3,p4,k4,rfl,s2,s3,s4⟩:=qag ha2
 refine zV 84 Tryz.func132 rfl fun h=>zSR (qu h rfl rfl fun w1 bb1 h=>qu h rfl rfl fun w2 bb2 h=>X0 4 rfl ?_)
 obtain ⟨KF2,hKF2,o4,hF,hK4⟩:=bindE hF
 refine qcB (fun e w'=>∃ (b1:Bool),KF2 b1=some r∧e=[(2,.pointer (some ⟨bb1,0,none⟩)),(3,.pointer (some ⟨bb2,0,none⟩)),(17,.bool b1)]∧SH w w' [Ch.box bb2 (qa3 a_1 p2 p3 p4 k2 k3 k4) 31,Ch.box bb1 [.slice p1 a_0.Ah.length k1] 26]) ?_ ?_
 ·refine X1 2 1 h rfl (zcB h hF (qna (h.old ha1)) rfl fun r5 w17 h hF=>zp2 rfl (ql (t:=13) hF rfl ?_ ?_))<;>intro hF
  ·refine X0 5 rfl ?_
   obtain rfl:=qb hF
   exact rG ⟨_,hK4,rfl,h⟩ rfl
  refine X1 3 0 h rfl (zcB h hF (qkG (h.old ha2)) rfl fun r6 w18 h hF=>X0 4 rfl ?_)
  obtain rfl:=qb hF
  exact rG ⟨_,hK4,rfl,h⟩ rfl
 rintro e4 w19 ⟨b1,hF,rfl,h⟩
 subst hKF2
 refine qi rfl hF ?_ ?_<;>intro hF
 ·exact X0 4 rfl (rb h hF rfl)
 refine X1 6 0 h rfl ?_
 obtain ⟨x1,hx1,hF⟩:=qd hF
 obtain ⟨g1,g2,hx1⟩:=qb3 hx1
 refine qc9 qc Int h rfl rfl rfl rfl rfl rfl rfl rfl rfl g1 g2 hx1 rfl fun w3 S1 p5 h=>X1 10 1 h rfl ?_
 obtain ⟨o1,hF,hK1⟩:=qd hF
 refine qk (rL (fun m e w'=>∃ (x2:(List Int)) (i1:Int),qcY a_0 a_1 m x2 i1=some o1∧e=[(2,.pointer (some ⟨bb1,0,none⟩)),(3,.pointer (some ⟨bb2,0,none⟩)),(5,.slice p5 x1.length x1.length),(23,.slice p2 a_1.Aa.length k2),(24,.int .i64 (a_1.Aa.length:Int)),(25,.int .i64 i1)]∧SH w w' [Ch.own S1 (x2:List Int) [.slice p5 x1.length x1.length],Ch.box bb2 (qa3 a_1 p2 p3 p4 k2 k3 k4) 31,Ch.box bb1 [.slice p1 a_0.Ah.length k1] 26]) n ⟨_,_,hF,rfl,h⟩ rfl ?_)
 rintro m1 e1 w4 ⟨x2,i1,hF,rfl,h⟩
 rcases m1 with _|m1
 ·cases hF
 refine X0 5 rfl (qi rfl hF ?_ ?_)<;>intro hF
 ·refine zKSBSR ?_
  obtain ⟨y1,hy1,hF,he1,b2,_,q1,cs3,hp1,hq1,hr1,hc3⟩:=s2.ix hF
  obtain ⟨p6,k5,rfl,s5⟩:=qM hr1
  refine zxe hp1 hq1 he1 rfl (zc 0 (hc3.below h.below) rfl (qA qc h rfl rfl rfl fun w5 bb3 h=>zs 0 h rfl fun w6 h=>X3 7 2 3 0 h rfl (zcB h hF (qj6 (h.old ha2) (h.old ha1) (qf7 y1 (h.oldS s5))) rfl fun r1 w7 h hF=>X0 2 rfl (qi rfl hF ?_ ?_))))<;>intro hF
  ·refine X0 4 rfl ?_
   obtain rfl:=qb hF;replace hF:=hK1
   exact rb h hF rfl
  refine X2 9 0 0 h rfl ?_
  obtain ⟨y2,hy2,hF,he2,b3,_,q2,cs4,hp2,hq2,rfl,hc5⟩:=s5.ix hF
  refine zxe hp2 hq2 he2 rfl (zc 0 (hc5.below h.below) rfl ?_)
  obtain ⟨y3,hy3,hF,he3,b4,_,q3,cs5,hp3,hq3,rfl,hc6⟩:=(h.sl 1 rfl).1.ix hF
  refine zx hp3 hq3 ⟨he3.1,qx he3.2.1 (h.sl 1 rfl).2⟩ rfl (zc 0 hc6 rfl (zp1 rfl ?_))
  obtain ⟨y4,hy4,hF,he4,b5,_,q4,cs6,hp4,hq4,rfl,hc7⟩:=(h.sl 1 rfl).1.ix hF
  refine zx hp4 hq4 ⟨he4.1,qx he4.2.1 (h.sl 1 rfl).2⟩ rfl (qaX qc 1 0 (W64 (y3+1)) h rfl hy4 hp4 hq4 rfl hc7 rfl rfl rfl rfl rfl rfl rfl fun w8 h=>X0 6 rfl ?_)
  replace h:=h.pick [1,2,3] rfl
  exact rK ⟨_,_,hF,rfl,h⟩ rfl
 refine qm rfl ?_
 obtain rfl:=qb hF;replace hF:=hK1
 refine X1 8 1 h rfl ?_
 obtain ⟨o2,hF,hK2⟩:=qd hF
 refine qk ?_
 replace h:=h.pick [0,1] rfl
 refine rL (fun m e w'=>∃ (x3:(List Int)) (i2:Int),qcp a_1 m x3 i2=some o2∧e=[(3,.pointer (some ⟨bb2,0,none⟩)),(5,.slice p5 x1.length x1.length),(49,.slice p4 a_1.Ac.length k4),(50,.int .i64 (a_1.Ac.length:Int)),(51,.int .i64 i2)]∧SH w w' [Ch.own S1 (x3:List Int) [.slice p5 x1.length x1.length],Ch.box bb2 (qa3 a_1 p2 p3 p4 k2 k3 k4) 31]) n ⟨_,_,hF,rfl,h⟩ rfl ?_
 rintro m2 e2 w9 ⟨x3,i2,hF,rfl,h⟩
 rcases m2 with _|m2
 ·cases hF
 refine X0 5 rfl (qi rfl hF ?_ ?_)<;>intro hF
 ·refine zKSBSR ?_
  obtain ⟨y5,hy5,hF,he5,b6,_,q5,cs7,hp5,hq5,hr6,hc9⟩:=s4.ix hF
  obtain rfl:=qaC hr6
  refine zxe hp5 hq5 he5 rfl (zc 0 (hc9.below h.below) rfl (qA qc h rfl rfl rfl fun w10 bb4 h=>zs 0 h rfl fun w11 h=>zNSS ?_))
  obtain ⟨KF1,hKF1,o3,hF,hK3⟩:=bindE hF
  refine qcB (fun e w'=>∃ (b7:Bool),KF1 b7=some o2∧e=[(3,.pointer (some ⟨bb2,0,none⟩)),(5,.slice p5 x1.length x1.length),(9,.pointer (some ⟨bb4,0,none⟩)),(49,.slice p4 a_1.Ac.length k4),(50,.int .i64 (a_1.Ac.length:Int)),(51,.int .i64 i2),(69,.bool b7)]∧SH w w' [Ch.box bb4 (qoW y5) 155,Ch.own S1 (x3:List Int) [.slice p5 x1.length x1.length],Ch.box bb2 (qa3 a_1 p2 p3 p4 k2 k3 k4) 31]) ?_ ?_
  ·refine X1 5 0 h rfl (ql (t:=58) hF rfl ?_ ?_)<;>intro hF
   ·refine X1 8 0 h rfl (ql (t:=63) hF rfl ?_ ?_)<;>intro hF
    ·refine X0 7 rfl ?_
     obtain rfl:=qb hF
     exact rG ⟨_,hK3,rfl,h⟩ rfl
    refine X2 7 2 0 h rfl (zcB h hF (qgv (h.old ha2)) rfl fun r2 w13 h hF=>X0 4 rfl ?_)
    obtain rfl:=qb hF
    exact rG ⟨_,hK3,rfl,h⟩ rfl
   refine X2 12 2 0 h rfl (zcB h hF (qgv (h.old ha2)) rfl fun r3 w14 h hF=>X0 4 rfl ?_)
   obtain rfl:=qb hF
   exact rG ⟨_,hK3,rfl,h⟩ rfl
  rintro e3 w15 ⟨b7,hF,rfl,h⟩
  subst hKF1
  refine qi rfl hF ?_ ?_<;>intro hF
  ·refine X0 4 rfl ?_
   obtain rfl:=qb hF;replace hF:=hK2
   exact rb h hF rfl
  refine X1 7 0 h rfl (qi rfl hF ?_ ?_)<;>intro hF
  ·refine X1 4 0 h rfl ?_
   obtain ⟨y6,hy6,hF,he6,b8,_,q6,cs8,hp6,hq6,rfl,hc12⟩:=(h.sl 1 rfl).1.ix hF
   refine zx hp6 hq6 ⟨he6.1,qx he6.2.1 (h.sl 1 rfl).2⟩ rfl (zc 0 hc12 rfl (zp1 rfl ?_))
   obtain ⟨y7,hy7,hF,he7,b9,_,q7,cs9,hp7,hq7,rfl,hc13⟩:=(h.sl 1 rfl).1.ix hF
   refine zx hp7 hq7 ⟨he7.1,qx he7.2.1 (h.sl 1 rfl).2⟩ rfl (qaX qc 1 0 (W64 (y6+1)) h rfl hy7 hp7 hq7 rfl hc13 rfl rfl rfl rfl rfl rfl rfl fun w12 h=>X0 6 rfl ?_)
   replace h:=h.pick [1,2] rfl
   exact rK ⟨_,_,hF,rfl,h⟩ rfl
  refine X0 6 rfl ?_
  replace h:=h.pick [1,2] rfl
  exact rK ⟨_,_,hF,rfl,h⟩ rfl
 refine qm rfl ?_
 obtain rfl:=qb hF;replace hF:=hK2
 exact X0 3 rfl (zcB h hF (qfL (h.own 0 rfl)) rfl fun r4 w16 h hF=>X0 3 rfl (rb h hF rfl))
def qbv (i1:Int) (y1:qj):Nat→(List Tplace)→Int→Option ((List Tplace) × Int)
 | 0,_,_=>none
 | n+1,x2,i2 =>
  bif decide (i2<(y1.Af.length:Int)) then
   (idx y1.Af i2).bind fun y2 =>
   (appS x2 ([(⟨i1,i2,y2,(i2==(W64 ((y1.Af.length:Int)-1)))⟩:Tplace)]:List Tplace)).bind fun x3 =>
   qbv i1 y1 n x3 (W64 (i2+1))
  else
   some (x2,i2)
def qbu (d:qf):Nat→(List Tplace)→Int→Option ((List Tplace) × Int)
 | 0,_,_=>none
 | n+1,x4,i3 =>
  bif decide (i3<(d.Ac.length:Int)) then
   (idx d.Ac i3).bind fun y3 =>
   (appS x4 ([(⟨(-1),i3,y3.Bp,(y3.Bl==1)⟩:Tplace)]:List Tplace)).bind fun x5 =>
   qbu d n x5 (W64 (i3+1))
  else
   some (x4,i3)
def qbs (d:qf):Nat→(List Tplace)→Int→Option ((List Tplace) × Int)
 | 0,_,_=>none
 | n+1,x1,i1 =>
  bif decide (i1<(d.Aa.length:Int)) then
   (idx d.Aa i1).bind fun y1 =>
   (qbv i1 y1 n x1 0).bind fun o=>match o with
   | (x2,_) =>
    qbs d n x2 (W64 (i1+1))
  else
   some (x1,i1)
def qce (n:Nat) (d:qf):Option (List Tplace) :=
 (qbs d n ([]:List Tplace) 0).bind fun o=>match o with
 | (x1,_) =>
  (qbu d n x1 0).bind fun o=>match o with
  | (x4,_) =>
   some x4
theorem qet {d:qf} (ha1:GoT.R w (old w) d cs1) {r:(List Tplace)} (hF:qce n d=some r):RetV Tryz.prog 133 [GoT.v qf cs1] w r:=by
 obtain ⟨p1,k1,p2,k2,p3,k3,rfl,s1,s2,s3⟩:=qag ha1
 refine zV 61 Tryz.func133 rfl fun h=>zSR (qu h rfl rfl fun w1 bb1 h=>X1 14 0 h rfl ?_)
 replace h:=h.nil (α:=Tplace)
 obtain ⟨o1,hF,hK1⟩:=qd hF
 refine qk (rL (fun m e w'=>∃ (S1:Nat→Prop) (p4:Option Addr) (ln1:Nat) (k4:Nat) (x1:(List Tplace)) (i1:Int),qbs d m x1 i1=some o1∧e=[(1,.pointer (some ⟨bb1,0,none⟩)),(3,.slice p4 ln1 k4),(11,.slice p1 d.Aa.length k1),(12,.int .i64 (d.Aa.length:Int)),(13,.int .i64 i1)]∧SH w w' [Ch.own S1 (x1:List Tplace) [.slice p4 ln1 k4],Ch.box bb1 (qa3 d p1 p2 p3 k1 k2 k3) 31]) n ⟨_,_,_,_,_,_,hF,rfl,h⟩ rfl ?_)
 rintro m1 e1 w2 ⟨S1,p4,ln1,k4,x1,i1,hF,rfl,h⟩
 obtain rfl:=(h.sl 0 rfl).2
 rcases m1 with _|m1
 ·cases hF
 refine X0 5 rfl (qi rfl hF ?_ ?_)<;>intro hF
 ·refine X0 6 rfl ?_
  obtain ⟨y1,hy1,hF,he1,b1,_,q1,cs2,hp1,hq1,hr1,hc2⟩:=s1.ix hF
  obtain ⟨p5,k5,rfl,s4⟩:=qM hr1
  refine zxe hp1 hq1 he1 rfl (zc 0 (hc2.below h.below) rfl (qA qc h rfl rfl rfl fun w3 bb2 h=>zp1 rfl (zs 0 h rfl fun w4 h=>X1 8 0 h rfl ?_)))
  obtain ⟨o2,hF,hK2⟩:=qd hF
  refine qk (rL (fun m e w'=>∃ (S2:Nat→Prop) (p6:Option Addr) (ln2:Nat) (k6:Nat) (x2:(List Tplace)) (i2:Int),qbv i1 y1 m x2 i2=some o2∧e=[(1,.pointer (some ⟨bb1,0,none⟩)),(3,.slice p6 ln2 k6),(4,.int .i64 i1),(5,.pointer (some ⟨bb2,0,none⟩)),(11,.slice p1 d.Aa.length k1),(12,.int .i64 (d.Aa.length:Int)),(13,.int .i64 i1),(19,.slice p5 y1.Af.length k5),(20,.int .i64 (y1.Af.length:Int)),(21,.int .i64 i2)]∧SH w w' [Ch.box bb2 (qiI y1 p5 k5) 191,Ch.own S2 (x2:List Tplace) [.slice p6 ln2 k6],Ch.box bb1 (qa3 d p1 p2 p3 k1 k2 k3) 31]) m1 ⟨_,_,_,_,_,_,hF,rfl,h⟩ rfl ?_)
  rintro m2 e2 w5 ⟨S2,p6,ln2,k6,x2,i2,hF,rfl,h⟩
  obtain rfl:=(h.sl 1 rfl).2
  rcases m2 with _|m2
  ·cases hF
  refine X0 5 rfl (qi rfl hF ?_ ?_)<;>intro hF
  ·refine X0 6 rfl ?_
   obtain ⟨y2,hy2,hF,he2,b2,_,q2,cs3,hp2,hq2,rfl,hc4⟩:=s4.ix hF
   refine zxe hp2 hq2 he2 rfl (zc 0 (hc4.below h.below) rfl (X1 14 0 h rfl (r_v (qgI qc [0,1,2,3] [.tmp 27,.tmp 28,.tmp 29,.tmp 35] rfl rfl rfl rfl rfl rfl rfl rfl) rfl (qG qc [.tmp 36] _ ([(⟨i1,i2,y2,(i2==(W64 ((y1.Af.length:Int)-1)))⟩:Tplace)]:List Tplace) h rfl rfl rfl rfl rfl rfl rfl rfl rfl ⟨(qhl (⟨i1,i2,y2,(i2==(W64 ((y1.Af.length:Int)-1)))⟩:Tplace)),trivial⟩ rfl fun w6 p7 S3 h=>?_))))
   obtain ⟨x3,hx1,hF⟩:=qd hF
   obtain ⟨g1,hx1⟩:=qae hx1
   refine qcg qc 2 h rfl (h.sl 0 rfl).1 (h.sl 0 rfl).2 rfl rfl rfl rfl rfl rfl rfl rfl rfl g1 hx1 rfl fun w7 p8 k7 S4 h=>X0 7 rfl ?_
   replace h:=h.pick [1,2,3] rfl
   exact rK ⟨_,_,_,_,_,_,hF,rfl,h⟩ rfl
  refine qm rfl ?_
  obtain rfl:=qb hF;replace hF:=hK2
  refine X0 5 rfl ?_
  replace h:=h.pick [1,2] rfl
  exact rK ⟨_,_,_,_,_,_,hF,rfl,h⟩ rfl
 refine qm rfl ?_
 obtain rfl:=qb hF;replace hF:=hK1
 refine X1 8 1 h rfl ?_
 obtain ⟨o3,hF,hK3⟩:=qd hF
 refine qk ?_
 replace h:=h.pick [0] rfl
 refine rL (fun m e w'=>∃ (S5:Nat→Prop) (p9:Option Addr) (ln3:Nat) (k8:Nat) (x4:(List Tplace)) (i3:Int),qbu d m x4 i3=some o3∧e=[(3,.slice p9 ln3 k8),(42,.slice p3 d.Ac.length k3),(43,.int .i64 (d.Ac.length:Int)),(44,.int .i64 i3)]∧SH w w' [Ch.own S5 (x4:List Tplace) [.slice p9 ln3 k8]]) n ⟨_,_,_,_,_,_,hF,rfl,h⟩ rfl ?_
 rintro m3 e3 w8 ⟨S5,p9,ln3,k8,x4,i3,hF,rfl,h⟩
 obtain rfl:=(h.sl 0 rfl).2
 rcases m3 with _|m3
 ·cases hF
 refine X0 5 rfl (qi rfl hF ?_ ?_)<;>intro hF
 ·refine X0 6 rfl ?_
  obtain ⟨y3,hy3,hF,he3,b3,_,q3,cs4,hp3,hq3,hr3,hc6⟩:=s3.ix hF
  obtain rfl:=qaC hr3
  refine zxe hp3 hq3 he3 rfl (zc 0 (hc6.below h.below) rfl (qA qc h rfl rfl rfl fun w9 bb3 h=>zp1 rfl (zs 0 h rfl fun w10 h=>X2 9 0 0 h rfl (r_v (qgI qc [0,1,2,3] [.const (.int .i64 (-1)),.tmp 50,.tmp 52,.tmp 55] rfl rfl rfl rfl rfl rfl rfl rfl) rfl (qG qc [.tmp 56] _ ([(⟨(-1),i3,y3.Bp,(y3.Bl==1)⟩:Tplace)]:List Tplace) h rfl rfl rfl rfl rfl rfl rfl rfl rfl ⟨(qhl (⟨(-1),i3,y3.Bp,(y3.Bl==1)⟩:Tplace)),trivial⟩ rfl fun w11 p10 S6 h=>?_)))))
  obtain ⟨x5,hx2,hF⟩:=qd hF
  obtain ⟨g2,hx2⟩:=qae hx2
  refine qcg qc 2 h rfl (h.sl 0 rfl).1 (h.sl 0 rfl).2 rfl rfl rfl rfl rfl rfl rfl rfl rfl g2 hx2 rfl fun w12 p11 k9 S7 h=>X0 7 rfl ?_
  replace h:=h.pick [2] rfl
  exact rK ⟨_,_,_,_,_,_,hF,rfl,h⟩ rfl
 refine qm rfl ?_
 obtain rfl:=qb hF;replace hF:=hK3
 refine X0 5 rfl ?_
 obtain rfl:=qb hF
 exact rO 0 h rfl ⟨rfl,trivial⟩
def qa0 (a_w:qB):Nat→Int→Option (Flow Bool Int)
 | 0,_=>none
 | n+1,i1 =>
  bif decide (i1<(a_w.Ak.length:Int)) then
   (idx a_w.Ak i1).bind fun y1 =>
   bif (i1==0) then
    bif (y1 != (-1)) then some (.ret false) else
    (idx a_w.Bn 0).bind fun y2 =>
    bif (y2 != 0) then some (.ret false) else
    bif decide (i1 > 0) then
     (qaE n y1 0 (W64 (i1-1))).bind fun r1 =>
     bif (!r1) then some (.ret false) else
     qa0 a_w n (W64 (i1+1))
    else
     qa0 a_w n (W64 (i1+1))
   else
    bif decide (i1 > 0) then
     (qaE n y1 0 (W64 (i1-1))).bind fun r2 =>
     bif (!r2) then some (.ret false) else
     qa0 a_w n (W64 (i1+1))
    else
     qa0 a_w n (W64 (i1+1))
  else
   some (.nxt i1)
def qgN (n:Nat) (a_w:qB):Option Bool :=
 (qa0 a_w n 0).bind fun o=>match o with
 | .ret r=>some r
 | .nxt _ =>
  some true
theorem qmC {a_w:qB} (ha1:GoT.R w (old w) a_w cs1) {r:Bool} (hF:qgN n a_w=some r):RetV Tryz.prog 188 [GoT.v qB cs1] w r:=by
 obtain ⟨p1,k1,p2,k2,p3,k3,p4,k4,rfl,s1,s2,s3,s4⟩:=qbe ha1
 refine zV 38 Tryz.func188 rfl fun h=>zSR (qu h rfl rfl fun w1 bb1 h=>X1 10 0 h rfl ?_)
 obtain ⟨o1,hF,hK1⟩:=qd hF
 refine qk (rL (fun m e w'=>∃ (i1:Int),qa0 a_w m i1=some o1∧e=[(1,.pointer (some ⟨bb1,0,none⟩)),(6,.slice p1 a_w.Ak.length k1),(7,.int .i64 (a_w.Ak.length:Int)),(8,.int .i64 i1)]∧SH w w' [Ch.box bb1 (qh2 a_w p1 p2 p3 p4 k1 k2 k3 k4) 148]) n ⟨_,hF,rfl,h⟩ rfl ?_)
 rintro m1 e1 w2 ⟨i1,hF,rfl,h⟩
 rcases m1 with _|m1
 ·cases hF
 refine X0 5 rfl (qi rfl hF ?_ ?_)<;>intro hF
 ·refine X0 6 rfl ?_
  obtain ⟨y1,hy1,hF,he1,b1,_,q1,cs2,hp1,hq1,rfl,hc2⟩:=s1.ix hF
  refine zxe hp1 hq1 he1 rfl (zc 0 (hc2.below h.below) rfl (X0 8 rfl (ql (t:=15) hF rfl ?_ ?_)))<;>intro hF
  ·refine X0 6 rfl (ql (t:=18) hF rfl ?_ ?_)<;>intro hF
   ·refine X0 20 rfl (qes rfl rfl (X0 4 rfl ?_))
    obtain rfl:=qb hF;replace hF:=hK1
    exact rb h hF rfl
   refine X1 5 0 h rfl ?_
   obtain ⟨y2,hy2,hF,he2,b2,_,q2,cs3,hp2,hq2,rfl,hc3⟩:=s2.ix hF
   refine zxe hp2 hq2 he2 rfl (X0 1 rfl (zc 0 (hc3.below h.below) rfl (X0 6 rfl (ql (t:=26) hF rfl ?_ ?_))))<;>intro hF
   ·refine X0 11 rfl (qes rfl rfl (X0 4 rfl ?_))
    obtain rfl:=qb hF;replace hF:=hK1
    exact rb h hF rfl
   refine X0 6 rfl (ql (t:=29) hF rfl ?_ ?_)<;>intro hF
   ·refine X0 7 rfl (zcB h hF qar rfl fun r1 w3 h hF=>X0 6 rfl (qi rfl hF ?_ ?_))<;>intro hF
    ·refine X0 4 rfl ?_
     obtain rfl:=qb hF;replace hF:=hK1
     exact rb h hF rfl
    exact X0 6 rfl (rK ⟨_,hF,rfl,h⟩ rfl)
   exact X0 9 rfl (qbK rfl rfl (X0 6 rfl (rK ⟨_,hF,rfl,h⟩ rfl)))
  refine X0 17 rfl (ql (t:=29) hF rfl ?_ ?_)<;>intro hF
  ·refine X0 7 rfl (zcB h hF qar rfl fun r2 w4 h hF=>X0 6 rfl (qi rfl hF ?_ ?_))<;>intro hF
   ·refine X0 4 rfl ?_
    obtain rfl:=qb hF;replace hF:=hK1
    exact rb h hF rfl
   exact X0 6 rfl (rK ⟨_,hF,rfl,h⟩ rfl)
  exact X0 9 rfl (qbK rfl rfl (X0 6 rfl (rK ⟨_,hF,rfl,h⟩ rfl)))
 refine qm rfl ?_
 obtain rfl:=qb hF;replace hF:=hK1
 exact X0 4 rfl (rb h hF rfl)
def qkj (n:Nat) (a_w:qB) (sinks:Int):Option Bool :=
 (qas n a_w.Ak).bind fun r1 =>
 (qaE n r1 1 8).bind fun r2 =>
 bif r2 then
  (qas n a_w.Bn).bind fun r3 =>
  bif (r3==r1) then
   (qas n a_w.Bk).bind fun r4 =>
   bif (r4==r1) then
    (qgN n a_w).bind fun r5 =>
    bif r5 then
     (qbI n a_w.Bn 0 1000).bind fun r6 =>
     bif r6 then
      (qbI n a_w.Bk 0 500).bind fun r7 =>
      bif r7 then
       (qas n a_w.Bf).bind fun r8 =>
       bif (r8==sinks) then
        (qbI n a_w.Bf 0 (W64 (r1-1))).bind fun r9 =>
        some r9
       else
        some false
      else
       some false
     else
      some false
    else
     some false
   else
    some false
  else
   some false
 else
  some false
theorem qpe {a_w:qB} {sinks:Int} (ha1:GoT.R w (old w) a_w cs1) {r:Bool} (hF:qkj n a_w sinks=some r):RetV Tryz.prog 134 [GoT.v qB cs1,.int .i64 sinks] w r:=by
 obtain ⟨p1,k1,p2,k2,p3,k3,p4,k4,rfl,s1,s2,s3,s4⟩:=qbe ha1
 refine zV 53 Tryz.func134 rfl fun h=>zSR (qu h rfl rfl fun w1 bb1 h=>X1 6 0 h rfl (zcI h hF (qbb ⟨_,_,rfl,(h.oldS s1)⟩) rfl fun r1 w2 h hF=>X0 5 rfl (zcB h hF qar rfl fun r2 w3 h hF=>zp1 rfl (ql (t:=11) hF rfl ?_ ?_))))<;>intro hF
 ·refine X1 5 0 h rfl (zcI h hF (qbb ⟨_,_,rfl,(h.oldS s2)⟩) rfl fun r3 w4 h hF=>X0 6 rfl (ql (t:=18) hF rfl ?_ ?_))<;>intro hF
  ·refine X1 5 0 h rfl (zcI h hF (qbb ⟨_,_,rfl,(h.oldS s3)⟩) rfl fun r4 w5 h hF=>X0 6 rfl (ql (t:=25) hF rfl ?_ ?_))<;>intro hF
   ·refine X1 3 0 h rfl (zcB h hF (qmC (h.old ha1)) rfl fun r5 w6 h hF=>zp2 rfl (ql (t:=29) hF rfl ?_ ?_))<;>intro hF
    ·refine X1 5 0 h rfl (zcB h hF (qcC ⟨_,_,rfl,(h.oldS s2)⟩) rfl fun r6 w7 h hF=>zp2 rfl (ql (t:=34) hF rfl ?_ ?_))<;>intro hF
     ·refine X1 5 0 h rfl (zcB h hF (qcC ⟨_,_,rfl,(h.oldS s3)⟩) rfl fun r7 w8 h hF=>zp2 rfl (ql (t:=39) hF rfl ?_ ?_))<;>intro hF
      ·refine X1 5 0 h rfl (zcI h hF (qbb ⟨_,_,rfl,(h.oldS s4)⟩) rfl fun r8 w9 h hF=>X0 6 rfl (ql (t:=46) hF rfl ?_ ?_))<;>intro hF
       ·exact X1 9 0 h rfl (zcB h hF (qcC ⟨_,_,rfl,(h.oldS s4)⟩) rfl fun r9 w10 h hF=>X0 3 rfl (rb h hF rfl))
       exact X0 8 rfl (rb h hF rfl)
      exact X0 15 rfl (rb h hF rfl)
     exact X0 20 rfl (rb h hF rfl)
    exact X0 25 rfl (rb h hF rfl)
   exact X0 29 rfl (rb h hF rfl)
  exact X0 36 rfl (rb h hF rfl)
 exact X0 43 rfl (rb h hF rfl)
def qeH (b:qg) (x2:(List Int)):Nat→Int→Option (Flow Bool Int)
 | 0,_=>none
 | n+1,i2 =>
  bif decide (i2<(b.Aj.length:Int)) then
   (idx b.Aj i2).bind fun y4 =>
   (idx x2 i2).bind fun y5 =>
   (qkj n y4 y5).bind fun r2 =>
   bif (!r2) then some (.ret false) else
   qeH b x2 n (W64 (i2+1))
  else
   some (.nxt i2)
def qcT (r1:(List Tplace)):Nat→(List Int)→Int→Option ((List Int) × Int)
 | 0,_,_=>none
 | n+1,x2,i1 =>
  bif decide (i1<(r1.length:Int)) then
   (idx r1 i1).bind fun y1 =>
   bif (!y1.drives) then
    (idx x2 y1.net).bind fun y2 =>
    (idx x2 y1.net).bind fun _ =>
    qcT r1 n (setS x2 y1.net (W64 (y2+1))) (W64 (i1+1))
   else
    qcT r1 n x2 (W64 (i1+1))
  else
   some (x2,i1)
def qjv (n:Nat) (b:qg):Option Bool :=
 (
  (qiC n (⟨b.Ai.Ah⟩:qn) (⟨b.Ab.Aa,b.Ab.Af,b.Ab.Ac⟩:qf)).bind fun r3 =>
  bif (!r3) then some true else
  some ((b.Aj.length:Int) != (b.Ab.Af.length:Int))).bind fun b1 =>
 bif b1 then some false else
 (mkS (b.Aj.length:Int) (0:Int)).bind fun x1 =>
 (qce n (⟨b.Ab.Aa,b.Ab.Af,b.Ab.Ac⟩:qf)).bind fun r1 =>
 (qcT r1 n x1 0).bind fun o=>match o with
 | (x2,_) =>
  (qeH b x2 n 0).bind fun o=>match o with
  | .ret r=>some r
  | .nxt _ =>
   some true
theorem qoz {b:qg} (ha1:GoT.R w (old w) b cs1) {r:Bool} (hF:qjv n b=some r):RetV Tryz.prog 74 [GoT.v qg cs1] w r:=by
 obtain ⟨p1,k1,p2,k2,p3,k3,p4,k4,p5,k5,rfl,s1,s2,s3,s4,s5⟩:=qK ha1
 refine zV 63 Tryz.func74 rfl fun h=>zSR (qu h rfl rfl fun w1 bb1 h=>X0 4 rfl ?_)
 obtain ⟨KF1,hKF1,o3,hF,hK3⟩:=bindE hF
 refine qcB (fun e w'=>∃ (b1:Bool),KF1 b1=some r∧e=[(1,.pointer (some ⟨bb1,0,none⟩)),(23,.bool b1)]∧SH w w' [Ch.box bb1 (qal b p1 p2 p3 p4 p5 k1 k2 k3 k4 k5) 34]) ?_ ?_
 ·refine X2 5 0 0 h rfl (zcB h hF (qnT (qb9 _ (h.oldS s1)) (qaz _ (h.oldS s2) (h.oldS s3) (h.oldS s4))) rfl fun r3 w12 h hF=>zp2 rfl (ql (t:=14) hF rfl ?_ ?_))<;>intro hF
  ·refine X0 10 rfl ?_
   obtain rfl:=qb hF
   exact rG ⟨_,hK3,rfl,h⟩ rfl
  refine X2 18 0 0 h rfl ?_
  obtain rfl:=qb hF
  exact rG ⟨_,hK3,rfl,h⟩ rfl
 rintro e3 w13 ⟨b1,hF,rfl,h⟩
 subst hKF1
 refine qi rfl hF ?_ ?_<;>intro hF
 ·exact X0 4 rfl (rb h hF rfl)
 refine X1 6 0 h rfl ?_
 obtain ⟨x1,hx1,hF⟩:=qd hF
 obtain ⟨g1,g2,hx1⟩:=qb3 hx1
 refine qc9 qc Int h rfl rfl rfl rfl rfl rfl rfl rfl rfl g1 g2 hx1 rfl fun w2 S1 p6 h=>X1 7 1 h rfl (zcL h hF (qet (qaz _ (h.oldS s2) (h.oldS s3) (h.oldS s4))) rfl fun r1 w3 S2 p7 k6 h hF=>X0 3 rfl ?_)
 obtain ⟨o1,hF,hK1⟩:=qd hF
 refine qk (rL (fun m e w'=>∃ (x2:(List Int)) (i1:Int),qcT r1 m x2 i1=some o1∧e=[(1,.pointer (some ⟨bb1,0,none⟩)),(3,.slice p6 x1.length x1.length),(30,.slice p7 r1.length k6),(31,.int .i64 (r1.length:Int)),(32,.int .i64 i1)]∧SH w w' [Ch.own S2 (r1:List Tplace) [.slice p7 r1.length k6],Ch.own S1 (x2:List Int) [.slice p6 x1.length x1.length],Ch.box bb1 (qal b p1 p2 p3 p4 p5 k1 k2 k3 k4 k5) 34]) n ⟨_,_,hF,rfl,h⟩ rfl ?_)
 rintro m1 e1 w4 ⟨x2,i1,hF,rfl,h⟩
 rcases m1 with _|m1
 ·cases hF
 refine X0 5 rfl (qi rfl hF ?_ ?_)<;>intro hF
 ·refine zKSBSR ?_
  obtain ⟨y1,hy1,hF,he1,b2,_,q1,cs2,hp1,hq1,hr2,hc3⟩:=(h.sl 0 rfl).1.ix hF
  obtain rfl:=qcs hr2
  refine zx hp1 hq1 ⟨he1.1,qx he1.2.1 (h.sl 0 rfl).2⟩ rfl (zc 0 hc3 rfl (qA qc h rfl rfl rfl fun w5 bb2 h=>zs 0 h rfl fun w6 h=>X1 7 0 h rfl (qi rfl hF ?_ ?_)))<;>intro hF
  ·refine X1 4 0 h rfl ?_
   obtain ⟨y2,hy2,hF,he2,b3,_,q2,cs3,hp2,hq2,rfl,hc5⟩:=(h.sl 2 rfl).1.ix hF
   refine zx hp2 hq2 ⟨he2.1,qx he2.2.1 (h.sl 2 rfl).2⟩ rfl (zc 0 hc5 rfl (zp1 rfl ?_))
   obtain ⟨y3,hy3,hF,he3,b4,_,q3,cs4,hp3,hq3,rfl,hc6⟩:=(h.sl 2 rfl).1.ix hF
   refine zx hp3 hq3 ⟨he3.1,qx he3.2.1 (h.sl 2 rfl).2⟩ rfl (qaX qc 2 0 (W64 (y2+1)) h rfl hy3 hp3 hq3 rfl hc6 rfl rfl rfl rfl rfl rfl rfl fun w7 h=>X0 6 rfl ?_)
   replace h:=h.pick [1,2,3] rfl
   exact rK ⟨_,_,hF,rfl,h⟩ rfl
  refine X0 6 rfl ?_
  replace h:=h.pick [1,2,3] rfl
  exact rK ⟨_,_,hF,rfl,h⟩ rfl
 refine qm rfl ?_
 obtain rfl:=qb hF;replace hF:=hK1
 refine X1 8 2 h rfl ?_
 obtain ⟨o2,hF,hK2⟩:=qd hF
 refine qk ?_
 replace h:=h.pick [1] rfl
 refine rL (fun m e w'=>∃ (i2:Int),qeH b x2 m i2=some o2∧e=[(3,.slice p6 x1.length x1.length),(48,.slice p5 b.Aj.length k5),(49,.int .i64 (b.Aj.length:Int)),(50,.int .i64 i2)]∧SH w w' [Ch.own S1 (x2:List Int) [.slice p6 x1.length x1.length]]) n ⟨_,hF,rfl,h⟩ rfl ?_
 rintro m2 e2 w8 ⟨i2,hF,rfl,h⟩
 rcases m2 with _|m2
 ·cases hF
 refine X0 5 rfl (qi rfl hF ?_ ?_)<;>intro hF
 ·refine X0 6 rfl ?_
  obtain ⟨y4,hy4,hF,he4,b5,_,q4,cs5,hp4,hq4,hr5,hc8⟩:=s5.ix hF
  obtain ⟨p8,k7,p9,k8,p10,k9,p11,k10,rfl,s6,s7,s8,s9⟩:=qbe hr5
  refine zxe hp4 hq4 he4 rfl (zc 0 (hc8.below h.below) rfl (qA qc h rfl rfl rfl fun w9 bb3 h=>zp1 rfl (zs 0 h rfl fun w10 h=>zNS (rD (Y1 1 0 h rfl ?_)))))
  refine zd2 rfl ?_
  obtain ⟨y5,hy5,hF,he5,b6,_,q5,cs6,hp5,hq5,rfl,hc9⟩:=(h.sl 1 rfl).1.ix hF
  refine zdx hp5 hq5 ⟨he5.1,qx he5.2.1 (h.sl 1 rfl).2⟩ rfl (zdc 0 hc9 rfl ?_)
  obtain ⟨r2,hr7,hF⟩:=qd hF
  refine qbR r2 (vsB _) (cB 134 rfl) (fun _ hb=>qpe (qjB y4 ((h.ext hb).oldS s6) ((h.ext hb).oldS s7) ((h.ext hb).oldS s8) ((h.ext hb).oldS s9)) hr7) rfl rfl rfl rfl (zd1 rfl (dN h fun w11 h=>qi rfl hF ?_ ?_))<;>intro hF
  ·refine X0 4 rfl ?_
   obtain rfl:=qb hF;replace hF:=hK2
   exact rb h hF rfl
  refine X0 6 rfl ?_
  replace h:=h.pick [1] rfl
  exact rK ⟨_,hF,rfl,h⟩ rfl
 refine qm rfl ?_
 obtain rfl:=qb hF;replace hF:=hK2
 exact X0 4 rfl (rb h hF rfl)
end Go.Fw


namespace Go.Fw
open Go
open Go.RowKit (Below)
section
variable {P:Program} {T:Tab} {n:Nat} {Q:Exit→Act→World→Prop} {k:List It} {e:Env} {w0 w w':World} {L:List Ch}
theorem qvD (hT:TabOk P T) {x hi:Operand} {lo:Option Operand} {t ty d el c k1 rl:Nat} {p p1:Option Addr} {ps:String} {af:Array Edge} {g:Option (Nat × Bool)} {te te':TE} {ln m:Nat} {l h:Int}
  (hx:opv e x=some (.slice p ln c)) (hlo:optI e lo 0=some l) (hhi:optI e (some hi) 0=some h) (hb:0≤l∧l≤h∧h≤c) (hp:subP m p c l.toNat=p1) (hk1:c-l.toNat=k1) (hl:h.toNat-l.toNat=rl)
  (hte:T.get t=some te) (hk:te.kind=.slice el) (hel:T.get el=some te') (hm:te'.size=m):Val P n e ⟨some d,.slice t x lo (some hi) none,ty,ps,af,g⟩ w (.slice p1 rl k1):=by
 subst hp hk1 hl
 obtain ⟨h0,h1,h2⟩:=hb
 intro a ha
 have hu:=qbW (hT _ _ hte) hk
 have hs:=qgs (hT _ _ hel) w
 subst hm
 have hb1:∀ (code:BoundsCode),(Instr.sliceBound (a.eval hi) c code).run P w=.ok h.toNat w:=by
  intro code
  simp only [optI] at hhi
  split at hhi
  ·rename_i kd i hy
   simp only [Option.some.injEq] at hhi
   subst hhi
   exact qme (ha.eval hy) (by omega) (by omega) w
  ·cases hhi
 have hb2:∀ (code:BoundsCode),(match lo.map a.eval with|some v=>Instr.sliceBound v h.toNat code|none=>pure 0:Sem Nat).run P w=.ok l.toNat w:=by
  intro code
  cases lo with
  | none=>simp only [optI,Option.some.injEq] at hlo;subst hlo;simp
  | some y =>
   simp only [optI] at hlo
   split at hlo
   ·rename_i kd i hy
    simp only [Option.some.injEq] at hlo
    subst hlo
    simp only [jV]
    exact qme (ha.eval hy) h0 (by omega) w
   ·cases hlo
 have hbs:(Instr.sliceBounds true ln c (lo.map a.eval) (some (a.eval hi)) none).run P w=.ok (l.toNat,h.toNat,c) w:=by
  have e1:=hb1 .sliceAcap
  have e2:=hb2 .sliceB
  unfold Instr.sliceBounds
  cases lo<;>simp only [Option.map_none,jV,jj,jl,jh,if_true,Option.isSome_none,Bool.false_eq_true,if_false] at e1 e2 ⊢<;>simp_all
 simp only [execOp,ha.eval hx,Option.map_none,jV,Instr.sliceAt,Instr.sureAddr,Instr.slice,jj,jl,run_underlying hu,jh,hbs,hs,subP]
theorem qku {b a:Nat} (hne:a ≠ b):∀ (vs:List Value) (o:Nat) (w:World),(w.setCells b o vs).heap[a]?=w.heap[a]?
 | [],_,_=>rfl
 | v::r,o,w=>by
  rw [World.setCells,qku hne r]
  show (w.heap.modify b _)[a]?=_
  rw [Array.getElem?_modify,if_neg (fun h=>hne h.symm)]
theorem qky (b:Nat):∀ (vs:List Value) (o:Nat) (w:World),(w.setCells b o vs).os=w.os∧(w.setCells b o vs).tape=w.tape∧(w.setCells b o vs).output=w.output∧(w.setCells b o vs).heap.size=w.heap.size
 | [],_,_=>⟨rfl,rfl,rfl,rfl⟩
 | v::r,o,w=>by
  obtain ⟨h1,h2,h3,h4⟩:=qky b r (o+1) (w.setCell ⟨b,o,none⟩ v)
  exact ⟨h1,h2,h3,h4.trans (by show (w.heap.modify b _).size=_;rw [Array.size_modify])⟩
theorem qrM {cs r:List Value} {o:Nat} {v:Value} (h:o+(v::r).length≤cs.length):splice (cs.set o v) (o+1) r=splice cs o (v::r):=by
 have h1:o+1+r.length≤(cs.set o v).length:=by simp at h ⊢;omega
 refine List.ext_getElem? fun i=>?_
 rw [getElem?_splice h1,getElem?_splice h,List.getElem?_set,jZ]
 by_cases c1:i<o
 ·rw [if_pos (by omega),if_neg (by omega),if_pos c1]
 ·by_cases c2:i=o
  ·subst c2
   rw [if_pos (by omega),if_pos rfl,if_pos (by simp at h;omega),if_neg (by omega),if_pos (by omega)]
   simp
  ·by_cases c3:i<o+(r.length+1)
   ·rw [if_neg (by omega),if_pos (by omega),if_neg c1,if_pos c3]
    rw [show i-o=(i-(o+1))+1 by omega,jL]
   ·rw [if_neg (by omega),if_neg (by omega),if_neg (by omega),if_neg c1,if_neg c3]
theorem qll (b:Nat) (t:TypeId) (fr:Nat × Nat):∀ (vs:List Value) (o:Nat) (w:World) (cs:List Value),w.heap[b]?=some (.cells cs.toArray t fr)→o+vs.length≤cs.length→(w.setCells b o vs).heap[b]?=some (.cells (splice cs o vs).toArray t fr)
 | [],o,w,cs,hg,_=>by
  rw [World.setCells,hg]
  simp [splice]
 | v::r,o,w,cs,hg,hle=>by
  rw [World.setCells,←qrM hle]
  refine qll b t fr r (o+1) _ (cs.set o v) ?_ (by simp at hle ⊢;omega)
  show (w.heap.modify b _)[b]?=_
  rw [Array.getElem?_modify,if_pos rfl,hg]
  simp
theorem qo3 (hT:TabOk P T) {all:Array Oper} {l:List Oper} {d tt ty el b o ld cd ls lc b' o' tb:Nat} {ps:String} {af:Array Edge} {x y:Operand} {te te':TE} {cs vs:List Value} (m:Nat)
  (h:SH w0 w L) (hi:L[m]?=some (Ch.box b cs tb)) (hs:CellsAt w b' o' vs) (hx:opv e x=some (.slice (some ⟨b,o,none⟩) ld cd)) (hy:opv e y=some (.slice (some ⟨b',o',none⟩) ls lc))
  (hte:T.get tt=some te) (hk:te.kind=.slice el) (hel:T.get el=some te') (hsz:te'.size=1) (hlen:vs.length=min ls ld) (hfit:o+vs.length≤cs.length) (h1:∀ v ∈ vs,v.oneCell'=true) (hn:Nat.blt d n=true)
  (hkk:∀ w',SH w0 w' (L.set m (Ch.box b (splice cs o vs) tb))→Run P n Q (.ops all l::k) ((d,.int .i64 vs.length)::e) w') :
  Run P n Q (.ops all (⟨some d,.call ⟨.builtin .copy,#[x,y],#[tt,tt]⟩,ty,ps,af,none⟩::l)::k) e w:=by
 obtain ⟨inf,hinf,hs1,_,_⟩:=qeo (hT _ _ hel)
 have hu:=qbW (hT _ _ hte) hk
 have hg:w.heap[b]?=some (.cells cs.toArray tb (0,0)):=(h.mem hi).1
 have hcell:∀ j,j<vs.length→(w.cell? ⟨b,o+j,none⟩).isSome=true:=fun j hj=>by
  simp only [World.cell?,hg,Option.isSome_none,Bool.false_eq_true,if_false]
  rw [jF,jg (by omega)]
  rfl
 have hfz:∀ j,j<vs.length→w.frozen? ⟨b,o+j,none⟩=false:=fun j _=>by
  simp only [World.frozen?,hg]
  simp
 have hr:=run_copy_cells (P:=P) w tt tt ty el b o ld cd ⟨b',o',none⟩ ls lc vs hu (by rw [hinf,jV,hs1,hsz]) hlen
  (fun j v hj=>by rw [qgm];exact hs j v hj) hcell hfz h1
 obtain ⟨r1,r2,r3,r4⟩:=qky b vs o w
 refine qkg (v:=.int .i64 vs.length) (w':=w.setCells b o vs) rfl rfl hn (fun a ha=>?_) (hkk _ (h.upd hi r1 r2 r3 (by rw [r4];exact jf _) (fun a _ ha=>qku (fun hab=>ha hab) vs o w) (qll b tb (0,0) vs o w cs hg hfit) (fun a ha=>.inl ha) (fun _ hd=>hd.elim)))
 simp only [execOp,resolve,invoke,builtin,jj,jl,jh,List.map_toArray,jU,List.map_nil,ha.eval hx,ha.eval hy,hr]
 rfl
theorem qxJ {v:Value} {all:Array Oper} {l:List Oper} {d ty:Nat} {ps:String} {af:Array Edge} {x:Operand} {args:Array Operand} {ats:Array TypeId} {f:FuncId} {az:List Value}
  (hx:opv e x=some (.func (.func f) #[] #[])) (hargs:opvs e args.toList=some az) (hr:(callFunc f az.toArray).run P w=.ok (.value v) w) (hn:Nat.blt d n=true)
  (hk:Run P n Q (.ops all l::k) ((d,v)::e) w):Run P n Q (.ops all (⟨some d,.call ⟨.value x,args,ats⟩,ty,ps,af,none⟩::l)::k) e w:=by
 refine qkg rfl rfl hn (fun a ha=>?_) hk
 have harg:=qfz ha hargs
 have e1:(#[]++az.toArray++#[]:Array Value)=az.toArray:=by simp
 simp only [execOp,resolve,Deferred.ofValue,jj,jl,jh,ha.eval hx,invoke,harg,e1,hr]
theorem SH.boxAt {b t i:Nat} {cs:List Value} (h:SH w0 w L) (hi:L[i]?=some (Ch.box b cs t)):w.heap[b]?=some (.cells cs.toArray t (0,0)):=(h.mem hi).1
theorem qqC {b t:Nat} {cs:List Value} (hg:w.heap[b]?=some (.cells cs.toArray t (0,0))):w.shape? b=some (t,cs.length):=by unfold World.shape?;rw [hg];simp
theorem qps {b t:Nat} {cs:List Value} (hg:w.heap[b]?=some (.cells cs.toArray t (0,0))) (o:Nat):w.frozen? ⟨b,o,none⟩=false:=by unfold World.frozen?;rw [hg];simp
section
variable {α:Type} [GoT α]
theorem SH.toBox (hk1:GoT.k α=1) {S:Nat→Prop} {rs:List (Raw α)} {b o ln c:Nat} {sp:Option Nat} (h:SH w0 w (Ch.own S rs [.slice (some ⟨b,o,sp⟩) ln c]::L)) :
  o=0∧sp=none∧ln=rs.length∧rs.length≤c∧c≤maxLen∧∃ (cs:List Value) (t:Nat),cs.length=c∧(∀ (j:Nat) (r:Raw α),rs[j]?=some r→∃ v:Value,r.cs=[v]∧v.oneCell'=true∧cs[j]?=some v)∧SH w0 w (Ch.box b cs t::L):=by
 obtain ⟨hP,_⟩:=h.holds _ (jn ..)
 obtain ⟨p',c',he,h1,h2,h3⟩:=hP
 simp only [List.cons.injEq,Value.slice.injEq,and_true] at he
 obtain ⟨rfl,rfl,rfl⟩:=he
 rcases h3 with ⟨hn,_⟩|⟨b',cur,t,F,hb,hSb,hg,hc,hF,hd,hx⟩
 ·cases hn
 ·simp only [Option.some.injEq,Addr.mk.injEq] at hb
  obtain ⟨rfl,rfl,rfl⟩:=hb
  have hkr:GoT.k (Raw α)=1:=hk1
  refine ⟨rfl,rfl,rfl,h1,h2,cur.toList,t,by rw [Array.length_toList,hc,hkr,Nat.mul_one],fun j r hj=>?_,?_⟩
  ·obtain ⟨cs,⟨e1,e2,e3⟩,hv⟩:=hx j r hj
   rw [hk1] at e2
   match cs,e2 with
   | [v],_ =>
    refine ⟨v,e1.symm,e3 v (List.mem_singleton.2 rfl),?_⟩
    have:=hv 0 v rfl
    rw [hkr,Nat.mul_one,jY] at this
    simpa using this
  ·exact h.say (i:=0) (c':=Ch.box b cur.toList t) rfl (fun _=>by show w.heap[b]?=_;rw [hg]) (fun a ha=>by have ha:a=b:=ha;exact ha ▸ hSb) (fun _ hd=>hd.elim)
theorem SH.ofBox (hk1:GoT.k α=1) {rs:List (Raw α)} {b c t:Nat} {cs:List Value} (h:SH w0 w (Ch.box b cs t::L)) (hc:cs.length=c) (hl:rs.length≤c) (hm:c≤maxLen)
  (hr:∀ (j:Nat) (r:Raw α),rs[j]?=some r→∃ v:Value,r.cs=[v]∧v.oneCell'=true∧cs[j]?=some v):SH w0 w (Ch.own (fun a=>a=b) rs [.slice (some ⟨b,0,none⟩) rs.length c]::L):=by
 have hkr:GoT.k (Raw α)=1:=hk1
 refine h.say (i:=0) (c':=Ch.own (fun a=>a=b) rs [.slice (some ⟨b,0,none⟩) rs.length c]) rfl (fun hp=>?_) (fun a ha=>ha) (fun _ hd=>hd.elim)
 have hp:w.heap[b]?=some (.cells cs.toArray t (0,0)):=hp
 refine ⟨some ⟨b,0,none⟩,c,rfl,hl,hm,.inr ⟨b,cs.toArray,t,fun _ _=>False,rfl,rfl,hp,by rw [hkr,Nat.mul_one,jQ,hc],fun _ _ hf=>hf.elim,fun _ _ _ _ hf=>hf.elim,fun j r hj=>?_⟩⟩
 obtain ⟨v,e1,e2,e3⟩:=hr j r hj
 refine ⟨[v],⟨e1.symm,by rw [hk1];rfl,fun u hu=>by rw [List.mem_singleton.1 hu];exact e2⟩,fun q u hq=>?_⟩
 have hq0:q=0:=by have:=(List.getElem?_eq_some_iff.1 hq).1;simpa using this
 subst hq0
 obtain rfl:v=u:=by simpa using hq
 rw [hkr,Nat.mul_one,jY,jF]
 exact e3
end
theorem qwM (hT:TabOk P T) {all:Array Oper} {l:List Oper} {d t t2 ty el b m c:Nat} {ps:String} {af:Array Edge} {te te' te2:TE} {x y:Operand} {kd k2:IntKind} {zv:Value} {vs:List Value} (kn:Nat)
  (h:SH w0 w L) (hs:CellsAt w b 0 vs) (hvl:vs.length=m) (hx:opv e x=some (.slice (some ⟨b,0,none⟩) m c)) (hy:opv e y=some (.int kd (kn:Int))) (hte:T.get t=some te) (hk:te.kind=.slice el) (ht2:T.get t2=some te2) (hk2:te2.kind=.int k2)
  (hel:T.get el=some te') (hz:te'.zero=some zv) (hzc:(cellsL zv).length=1) (hsz:te'.size=1) (hb:Nat.ble te'.bytes 65536=true) (h0:0<kn) (hg:c<m+kn) (hbig:m+kn≤2147483648) (hn:Nat.blt d n=true)
  (hkk:∀ w' b2 cap Z,SH w0 w' (Ch.box b2 (vs++Z) el::L)→m+kn≤cap→cap≤maxLen→(vs++Z).length=cap→w.heap[b2]?=none→(∀ a,a<w.heap.size→w'.heap[a]?=w.heap[a]?)→Run P n Q (.ops all l::k) ((d,.slice (some ⟨b2,0,none⟩) (m+kn) cap)::e) w') :
  Run P n Q (.ops all (⟨some d,.call ⟨.builtin .append,#[x,y],#[t,t2]⟩,ty,ps,af,none⟩::l)::k) e w:=by
 obtain ⟨i,hi,hs1,hby,hzi⟩:=qeo (hT _ _ hel)
 have hb':=jt hb
 have hsl:=qbW (hT _ _ hte) hk
 have hin:=qnO (hT _ _ ht2) hk2
 have hi1:i.size=1:=hs1.trans hsz
 have hold:(Builtin.firstCells i.size m (.slice (some ⟨b,0,none⟩) m c)).run P w.drew=.ok vs.toArray w.drew:=by
  rw [hi1]
  exact run_firstCells_some w.drew 1 m ⟨b,0,none⟩ m c vs (by omega) (fun j v hj=>by rw [qgm];exact hs j v hj)
 have hmul:∀ q,q≤2147483648→q*i.bytes≤140737488355328:=fun q hq=>by
  have:q*i.bytes≤2147483648*65536:=Nat.mul_le_mul hq (by omega)
  omega
 have hr:=Lib.run_append_grow_zeros (P:=P) w t t2 ty el i zv kd k2 hsl hin hi (hzi.trans hz) (some ⟨b,0,none⟩) m c vs hold kn h0 (by omega) hg (by omega)
  (by have:=hmul kn (by omega);omega) (growslice_fits hg (hmul _ hbig))
 have hge:=grownCap_ge w (m+kn) c el
 have hcm:=grownCap_le_maxLen w (m+kn) c el (by simp [maxLen];omega)
 have hzs:zv.cells.size=1:=by rw [←hzc,←qdb];simp
 refine qkg (v:=.slice (some ⟨w.heap.size,0,none⟩) (m+kn) (grownCap w (m+kn) c el)) rfl rfl hn (fun a ha=>?_)
  (hkk _ w.heap.size _ ((Builtin.zeroCells zv.cells kn).toList++(Builtin.zeroCells zv.cells (grownCap w (m+kn) c el-(m+kn))).toList)
   (h.add (w':=w.drew.alloc (.cells (vs.toArray++Builtin.zeroCells zv.cells kn++Builtin.zeroCells zv.cells (grownCap w (m+kn) c el-(m+kn))) el)) ((Below.refl _ w).drew.alloc (jf _) _) ?_ ?_ (fun _ hd=>hd.elim)) hge hcm ?_ (Array.getElem?_eq_none (jf _)) (fun a ha=>heap_alloc_old w.drew _ ha))
 ·simp only [execOp,resolve,invoke,builtin,jj,jl,jh,List.map_toArray,jU,List.map_nil,ha.eval hx,ha.eval hy,hr]
 ·show (w.drew.alloc _).heap[w.heap.size]?=_
  rw [show w.heap.size=w.drew.heap.size from rfl,heap_alloc_new w.drew]
  congr 2
  apply Array.ext'
  simp
 ·intro a ha
  have ha:a=w.heap.size:=ha
  subst ha
  exact ⟨jf _,by simp⟩
 ·simp only [jo,Array.length_toList,size_zeroCells,hzs,Nat.mul_one,hvl]
  omega
section
variable {α:Type} [GoT α] {S S2 Se:Nat→Prop}
theorem SH.elsIns {x:α} {cs:List Value} {xs:List α} {rs:List (Raw α)} (k:Nat) (hk:k≤xs.length) (h:SH w0 w (Ch.own Se x cs::Ch.els S xs rs::L)) :
  SH w0 w (Ch.els (fun b=>Se b∨S b) (xs.take k++x::xs.drop k) (rs.take k++⟨cs⟩::rs.drop k)::L):=by
 have hap:=(List.pairwise_cons.1 h.apart).1 (Ch.els S xs rs) (jn ..)
 refine h.join (e:=Ch.els (fun b=>Se b∨S b) (xs.take k++x::xs.drop k) (rs.take k++⟨cs⟩::rs.drop k)) (fun h1 h2=>?_) (fun _ hb=>hb) (fun _ h=>h.elim)
 obtain ⟨hl,F,f1,f2,f3⟩:=h2
 have hat:∀ {β:Type} (ys:List β) (z y:β) (i:Nat),k≤ys.length→(ys.take k++z::ys.drop k)[i]?=some y→(i<k∧ys[i]?=some y)∨(i=k∧z=y)∨(k<i∧ys[i-1]?=some y):=by
  intro β ys z y i hky hi
  have htl:(ys.take k).length=k:=by simp;omega
  rcases Nat.lt_or_ge i k with hik|hik
  ·rw [jq (by omega),jr,if_pos hik] at hi
   exact .inl ⟨hik,hi⟩
  ·rw [jy (by omega),htl] at hi
   rcases Nat.eq_or_lt_of_le hik with e|hlt
   ·subst e
    rw [Nat.sub_self] at hi
    exact .inr (.inl ⟨rfl,by simpa using hi⟩)
   ·rw [show i-k=(i-1-k)+1 by omega,jL,jB,show k+(i-1-k)=i-1 by omega] at hi
    exact .inr (.inr ⟨hlt,hi⟩)
 refine ⟨by simp [hl],fun i a=>(i<k∧F i a)∨(i=k∧Se a)∨(k<i∧F (i-1) a),fun i a ha=>?_,fun i j a hne ha hb=>?_,fun i y r hy hr=>?_⟩
 ·rcases ha with ⟨_,ha⟩|⟨_,ha⟩|⟨_,ha⟩
  ·exact .inr (f1 _ a ha)
  ·exact .inl ha
  ·exact .inr (f1 _ a ha)
 ·rcases ha with ⟨q1,ha⟩|⟨q1,ha⟩|⟨q1,ha⟩<;>rcases hb with ⟨q2,hb⟩|⟨q2,hb⟩|⟨q2,hb⟩
  ·exact f2 _ _ a hne ha hb
  ·exact hap a hb (f1 _ a ha)
  ·exact f2 _ _ a (by omega) ha hb
  ·exact hap a ha (f1 _ a hb)
  ·omega
  ·exact hap a ha (f1 _ a hb)
  ·exact f2 _ _ a (by omega) ha hb
  ·exact hap a hb (f1 _ a ha)
  ·exact f2 _ _ a (by omega) ha hb
 ·have hkr:k≤rs.length:=by omega
  rcases hat xs x y i hk hy with ⟨q1,e1⟩|⟨q1,e1⟩|⟨q1,e1⟩<;>rcases hat rs ⟨cs⟩ r i hkr hr with ⟨q2,e2⟩|⟨q2,e2⟩|⟨q2,e2⟩<;>try omega
  ·exact GoT.monoO (f3 i y r e1 e2) (fun a ha=>.inl ⟨q1,ha⟩)
  ·subst e1;subst e2
   exact GoT.monoO h1 (fun a ha=>.inr (.inl ⟨q1,ha⟩))
  ·exact GoT.monoO (f3 (i-1) y r e1 e2) (fun a ha=>.inr (.inr ⟨q1,ha⟩))
theorem SH.elsPutN {x:α} {cs:List Value} {xs:List α} {rs:List (Raw α)} {k:Nat} (h:SH w0 w (Ch.own Se x cs::Ch.elsB S k xs rs::L)) :
  SH w0 w (Ch.els (fun b=>Se b∨S b) (xs.set k x) (rs.set k ⟨cs⟩)::L):=by
 have hap:=(List.pairwise_cons.1 h.apart).1 (Ch.elsB S k xs rs) (jn ..)
 refine h.join (e:=Ch.els (fun b=>Se b∨S b) (xs.set k x) (rs.set k ⟨cs⟩)) (fun h1 h2=>?_) (fun _ hb=>hb) (fun _ h=>h.elim)
 obtain ⟨hl,F,f1,f2,f4,f3⟩:=h2
 refine ⟨by simp [hl],fun i a=>if i=k then Se a else F i a,fun i a ha=>?_,fun i j a hne ha hb=>?_,fun i y q hy hq=>?_⟩
 ·by_cases hi:i=k
  ·simp only [if_pos hi] at ha;exact .inl ha
  ·simp only [if_neg hi] at ha;exact .inr (f1 i a ha)
 ·by_cases hi:i=k
  ·simp only [if_pos hi] at ha
   by_cases hj:j=k
   ·omega
   ·simp only [if_neg hj] at hb;exact hap a ha (f1 j a hb)
  ·simp only [if_neg hi] at ha
   by_cases hj:j=k
   ·simp only [if_pos hj] at hb;exact hap a hb (f1 i a ha)
   ·simp only [if_neg hj] at hb;exact f2 i j a hne ha hb
 ·by_cases hi:i=k
  ·subst hi
   have hlt:i<xs.length:=by have:=(List.getElem?_eq_some_iff.1 hy).1;simpa using this
   rw [List.getElem?_set_self hlt] at hy
   rw [List.getElem?_set_self (by omega)] at hq
   obtain rfl:=Option.some.inj hy
   obtain rfl:=Option.some.inj hq
   simp only [if_true]
   exact h1
  ·rw [Jf (fun e=>hi e.symm)] at hy hq
   simpa [hi] using f3 i y q hi hy hq
theorem SH.elsR {xs:List α} {rs:List (Raw α)} {k:Nat} {x:α} {r:Raw α} (m:Nat) (h:SH w0 w L) (hi:L[m]?=some (Ch.els S xs rs)) (hx:xs[k]?=some x) (hr:rs[k]?=some r):GoT.R w (Fw.old w) x r.cs:=by
 obtain ⟨⟨_,F,f1,_,f3⟩,hS⟩:=h.mem hi
 exact GoT.mono (GoT.toR (f3 k x r hx hr)) (fun a ha=>(hS a (f1 k a ha)).2)
theorem SH.elsLen {xs:List α} {rs:List (Raw α)} (m:Nat) (h:SH w0 w L) (hi:L[m]?=some (Ch.els S xs rs)):xs.length=rs.length:=(h.mem hi).1.1
theorem SH.insFin {t:α} {xs:List α} {q:Raw α} {rs rs':List (Raw α)} {St:Nat→Prop} {p:Option Addr} {ln c:Nat} (k:Nat) (hk:k≤xs.length) (hr:rs'=rs.take k++q::rs.drop k)
  (h:SH w0 w (Ch.own S rs' [.slice p ln c]::Ch.els Se xs rs::Ch.els St [t] [q]::L)):∃ S',SH w0 w (Ch.own S' (xs.take k++t::xs.drop k) [.slice p ln c]::L):=by
 replace h:=h.pickT 3 [2,1,0] rfl
 obtain ⟨S3,S4,h⟩:=h.elsTake (k:=0) (x:=t) (r:=q) rfl rfl
 replace h:=h.pickT 4 [0,2,3] rfl
 replace h:=h.elsIns k hk
 replace h:=h.pickT 2 [1,0] rfl
 subst hr
 exact ⟨_,h.joinL⟩
theorem qvG (hT:TabOk P T) {all:Array Oper} {l:List Oper} {d t ty el:Nat} {ps:String} {af:Array Edge} {parts:Array (Nat × Operand)} {te te':TE} {zv v:Value} {o:Operand} {x:α} {S1:Nat→Prop}
  (h:SH w0 w (Ch.own S1 x (cellsL v)::L)) (hparts:parts.toList=[(0,o)]) (hv:opv e o=some v)
  (hte:T.get t=some te) (hk:te.kind=.slice el) (hel:T.get el=some te') (hz:te'.zero=some zv) (hsz:te'.size=GoT.k α) (hsmall:Nat.ble (1*te'.size) 16777216=true) (hn:Nat.blt d n=true)
  (hkk:∀ w' p S,SH w0 w' (Ch.own S [x] [.slice p 1 1]::L)→Run P n Q (.ops all l::k) ((d,.slice p 1 1)::e) w') :
  Run P n Q (.ops all (⟨some d,.buildSlice t 1 parts,ty,ps,af,none⟩::l)::k) e w:=by
 obtain ⟨hO,hS⟩:=h.holds _ (jn ..)
 have hO:GoT.O w S1 x (cellsL v):=hO
 have hln:=GoT.len (GoT.toR hO)
 have hcs:∀ u ∈ [v],(cellsL u).length=te'.size:=fun u hu=>by rw [List.mem_singleton.1 hu,hsz];exact hln
 have hr:=qlj hT [v] hte hk hel hz (jt hsmall) hcs w
 refine qkg (v:=.slice (some ⟨w.heap.size,0,none⟩) 1 1) (w':=w.alloc (.cells ([v].map cellsL).flatten.toArray el)) rfl rfl hn (fun a ha=>?_)
  (hkk _ _ (fun b=>S1 b∨b=w.heap.size) (h.upd (i:=0) (c':=Ch.own (fun b=>S1 b∨b=w.heap.size) [x] [.slice (some ⟨w.heap.size,0,none⟩) 1 1]) (w':=w.alloc (.cells ([v].map cellsL).flatten.toArray el)) rfl rfl rfl rfl (by simp) (fun b hb _=>heap_alloc_old w _ hb) ?_ (fun b hb=>hb.imp id (fun e=>⟨by omega,by simp;omega⟩)) (fun _ hd=>hd.elim)))
 ·have hev:parts.map (fun (x:Nat × Operand)=>(x.1,a.eval x.2))=(([v].zipIdx 0).map fun x=>(x.2,x.1)).toArray:=by
   apply Array.ext'
   rw [Array.toList_map,hparts]
   simp [ha.eval hv]
  simp only [execOp,hev,jj,jl]
  rw [show Sem.run P (Instr.buildSlice t 1 _) w=_ from hr]
  rfl
 ·refine ⟨some ⟨w.heap.size,0,none⟩,1,rfl,by simp,by simp [maxLen],.inr ⟨w.heap.size,(cellsL v).toArray,el,fun i a=>i=0∧S1 a,rfl,.inr rfl,?_,by simp [hln],fun i a ha=>⟨.inl ha.2,fun e=>by have:=(hS a ha.2).2;omega⟩,fun i j a hne ha hb=>hne (ha.1.trans hb.1.symm),fun i y hi=>?_⟩⟩
  ·rw [heap_alloc_new w _];simp
  ·have hi0:i=0:=by have:=(List.getElem?_eq_some_iff.1 hi).1;simpa using this
   subst hi0
   obtain rfl:x=y:=by simpa using hi
   exact ⟨cellsL v,GoT.monoO (GoT.locO hO (fun a ha=>heap_alloc_old w _ (hS a ha).2)) (fun a ha=>⟨rfl,ha⟩),fun j u hj=>by simpa using hj⟩
end
end
end Go.Fw


namespace Go.Fw
open Go Go.Proofs
open Go.RowKit (Below)
set_option maxRecDepth 100000
set_option maxHeartbeats 6400000
def insS (xs:List (List Int)) (i:Int) (t:List Int):Option (List (List Int)) :=
 if 0≤i∧i≤xs.length∧xs.length≤1000000 then some (xs.take i.toNat++t::xs.drop i.toNat) else none
theorem qqO {xs r:List (List Int)} {i:Int} {t:List Int} (h:insS xs i t=some r):∃ k:Nat,i=(k:Int)∧k≤xs.length∧xs.length≤1000000∧xs.take k++t::xs.drop k=r:=by
 unfold insS at h
 split at h
 ·rename_i hh
  exact ⟨i.toNat,by omega,by omega,hh.2.2,Option.some.inj h⟩
 ·cases h
theorem subP1 {b o c l:Nat} (h:c ≠ l):subP 1 (some ⟨b,o,none⟩) c l=some ⟨b,o+l,none⟩:=by unfold subP;rw [if_neg h];simp [qgm]
theorem insCells {rs:List (Raw (List Int))} {cs CS:List Value} {q:Raw (List Int)} {qv:Value} {k n:Nat} (hn:rs.length=n) (hkn:k<n) (hcs:∀ (j:Nat) (r:Raw (List Int)),rs[j]?=some r→∃ v:Value,r.cs=[v]∧v.oneCell'=true∧cs[j]?=some v)
  (hq1:q.cs=[qv]) (hq2:qv.oneCell'=true) (h1:∀ j,j<k→CS[j]?=cs[j]?) (h2:CS[k]?=some qv) (h3:∀ j,k≤j→j<n→CS[j+1]?=cs[j]?) (j:Nat) (r:Raw (List Int)) (hj:(rs.take k++q::rs.drop k)[j]?=some r) :
  ∃ v:Value,r.cs=[v]∧v.oneCell'=true∧CS[j]?=some v:=by
 have htl:(rs.take k).length=k:=by simp;omega
 rcases Nat.lt_or_ge j k with hjk|hjk
 ·rw [jq (by omega),jr,if_pos hjk] at hj
  obtain ⟨v,e1,e2,e3⟩:=hcs j r hj
  exact ⟨v,e1,e2,by rw [h1 j hjk];exact e3⟩
 ·rw [jy (by omega),htl] at hj
  rcases Nat.eq_or_lt_of_le hjk with e|hlt
  ·subst e
   rw [Nat.sub_self] at hj
   obtain rfl:q=r:=by simpa using hj
   exact ⟨qv,hq1,hq2,h2⟩
  ·rw [show j-k=(j-1-k)+1 by omega,jL,jB,show k+(j-1-k)=j-1 by omega] at hj
   obtain ⟨v,e1,e2,e3⟩:=hcs (j-1) r hj
   have hlt2:j-1<rs.length:=(List.getElem?_eq_some_iff.1 hj).1
   have:=h3 (j-1) (by omega) (by omega)
   rw [show j-1+1=j by omega] at this
   exact ⟨v,e1,e2,by rw [this];exact e3⟩
theorem qvo {w0 w:World} {F:List Ch} {S S1:Nat→Prop} {xs r:List (List Int)} {t:List Int} {i:Int} {p p1:Option Addr} {ln c ln1 c1:Nat}
  (h:SH w0 w (Ch.own S1 [t] [.slice p1 ln1 c1]::Ch.own S xs [.slice p ln c]::F)) (hF:insS xs i t=some r):RetT Tryz.prog 162 [.slice p ln c,.int .i64 i,.slice p1 ln1 c1] w w0 F r:=by
 obtain ⟨k,rfl,hk,hbig,rfl⟩:=qqO hF
 obtain rfl:ln=xs.length:=(h.sl 1 rfl).2
 obtain rfl:ln1=[t].length:=(h.sl 0 rfl).2
 obtain ⟨Sv,St,rv,hrv,h⟩:=h.splitL
 replace h:=h.pickT 3 [2,0,1] rfl
 obtain ⟨Sr,Se,rs,hrs,h⟩:=h.splitL
 match rv,hrv with
 | [q],_ =>
 replace h:=h.pickT 4 [0,2,1,3] rfl
 refine qkn Tryz.func162 rfl (m:=95) rfl rfl ?_
 have h:SH w0 w (Ch.own Sr rs [.slice p xs.length c]::Ch.own Sv [q] [.slice p1 1 c1]::Ch.els Se xs rs::Ch.els St [t] [q]::F):=h
 have hc:xs.length≤c∧c≤maxLen:=by have:=(h.sl 0 rfl).1;exact ⟨by have:=this.1;omega,this.2.1⟩
 obtain ⟨pa,hpa⟩:∃ z,subP 1 p c k=z:=⟨_,rfl⟩
 refine X0 8 rfl (r_v (qdI qc rfl rfl rfl ⟨by omega,by omega,by omega,by omega⟩ hpa rfl rfl rfl rfl rfl rfl) rfl ?_)
 refine X0 13 rfl ?_
 refine qbK rfl rfl ?_
 refine X0 14 rfl ?_
 refine qkA rfl (fun ht=>?_) (fun hf=>?_)
 ·have hkn:k=xs.length:=by have:=eq_of_beq ht;omega
  refine X0 4 rfl ?_
  refine qok qc (α:=Raw (List Int)) 0 h rfl (h.sl 1 rfl).1 (h.sl 1 rfl).2 rfl rfl rfl rfl rfl rfl rfl rfl rfl (by rw [hrs];simp [big];omega) rfl fun w1 p2 c2 S2 h=>?_
  refine X0 2 rfl ?_
  replace h:=h.pickT 4 [0,2,3] rfl
  obtain ⟨S3,h⟩:=SH.insFin k hk (rs':=rs++[q]) (by rw [List.take_of_length_le (by omega),Ja (by omega)]) h
  exact qla qc h ⟨rfl,trivial⟩
 refine X0 8 rfl ?_
 have hkn:k<xs.length:=by
  rcases Nat.lt_or_ge k xs.length with hh|hh
  ·exact hh
  ·have e:k=xs.length:=by omega
   rw [e,beq_self_eq_true] at hf
   cases hf
 rcases (h.sl 0 rfl).1.2.2 with ⟨_,hnil⟩|⟨b,o,cur,T,fr,rfl,-⟩
 ·rw [hnil] at hrs;simp at hrs;omega
 rcases (h.sl 1 rfl).1.2.2 with ⟨_,hnil⟩|⟨b1,o1,cur1,T1,fr1,rfl,-⟩
 ·cases hnil
 obtain ⟨rfl,-,-,-,-,cs,tb,hcl,hcs,h⟩:=h.toBox rfl
 replace h:=h.pickT 4 [1,0,2,3] rfl
 obtain ⟨rfl,-,-,hc1,-,cs1,tb1,hcl1,hcs1,h⟩:=h.toBox rfl
 replace h:=h.pickT 4 [1,0,2,3] rfl
 have h:SH w0 w (Ch.box b cs tb::Ch.box b1 cs1 tb1::Ch.els Se xs rs::Ch.els St [t] [q]::F):=h
 obtain ⟨qv,hq1,hq2,hq3⟩:=hcs1 0 q rfl
 have hW1:W64 ((xs.length:Int)+([t].length:Int))=((xs.length+1:Nat):Int):=by
  rw [qau (by simp;omega) (by simp;omega)];simp
 have hW2:some (Value.int .i64 (W64 (W64 ((xs.length:Int)+([t].length:Int))-(k:Int))))=some (Value.int .i64 ((xs.length+1-k:Nat):Int)):=by
  rw [hW1,qau (by omega) (by omega)];congr 2;omega
 have hcut:∀ (j:Nat) (v:Value),(cs.take xs.length)[j]?=some v→v.oneCell'=true:=fun j v hj=>by
  rw [jr] at hj
  split at hj
  ·obtain ⟨u,_,e2,e3⟩:=hcs j rs[j] (jg (by omega))
   rw [e3] at hj
   exact (Option.some.inj hj) ▸ e2
  ·cases hj
 have hW3:some (W64 ((k:Int)+([t].length:Int)))=some ((k+1:Nat):Int):=by
  rw [qau (by simp;omega) (by simp;omega)];simp
 have hvl:((cs.take xs.length).drop k).length=xs.length-k:=by simp;omega
 have hs2:∀ w',(Ch.box b cs tb).P w'→CellsAt w' b (0+k) ((cs.take xs.length).drop k):=fun w' hw j v hj=>by
  have hw:w'.heap[b]?=some (.cells cs.toArray tb (0,0)):=hw
  rw [jB] at hj
  rw [jr] at hj
  split at hj
  ·have:=CellsAt.of_block (o:=0+k) (cs:=cs.drop k) hw (fun j v hj=>by rw [jB] at hj;simpa using hj) j v (by rw [jB];exact hj)
   exact this
  ·cases hj
 refine r_v (qxH qc rfl rfl rfl) rfl ?_
 refine X0 2 rfl ?_
 refine qkA rfl (fun ht=>?_) (fun hf2=>?_)
 ·have hroom:c<k+(xs.length+1-k):=by
   have ht:decide (W64 ((xs.length:Int)+([t].length:Int)) > (c:Int))=true:=ht
   have:=of_decide_eq_true ht
   rw [hW1] at this;omega
  refine X0 4 rfl ?_
  refine r_v (qdI qc rfl rfl rfl ⟨by omega,by omega,by omega,by omega⟩ (subP1 (b:=b) (o:=0) (c:=c) (l:=0) (by omega)) rfl rfl rfl rfl rfl rfl) rfl ?_
  have hs:CellsAt w b 0 (cs.take k):=fun j v hj=>(h.box 0 rfl) j v (by
   rw [jr] at hj
   split at hj
   ·exact hj
   ·cases hj)
  refine X0 5 rfl ?_
  refine qwM qc (xs.length+1-k) h hs (m:=k) (by simp;omega) rfl hW2 rfl rfl rfl rfl rfl rfl rfl rfl rfl (by omega) hroom (by omega) rfl fun w2 b2 cap Z h hcap hcm hzl _ _=>?_
  refine X0 6 rfl ?_
  refine r_v (qdI qc rfl rfl rfl ⟨by omega,by omega,by omega,by omega⟩ (subP1 (b:=b2) (o:=0) (c:=cap) (l:=k) (by omega)) rfl rfl rfl rfl rfl rfl) rfl ?_
  refine X0 1 rfl ?_
  have hs1:CellsAt w2 b1 0 [qv]:=fun j v hj=>(h.box 2 rfl) j v (by
   have hj0:j=0:=by have:=(List.getElem?_eq_some_iff.1 hj).1;simpa using this
   subst hj0
   rw [hq3];exact hj)
  refine qo3 qc 0 h rfl hs1 rfl rfl rfl rfl rfl rfl (by simp [Nat.min_def];omega) (by rw [hzl];simp;omega) (fun v hv=>by rw [List.mem_singleton.1 hv];exact hq2) rfl fun w3 h=>?_
  refine X0 2 rfl ?_
  have hlen1:(splice (cs.take k++Z) (0+k) [qv]).length=cap:=by rw [qb4 (by rw [hzl];simp;omega),hzl]
  refine rA [] [] h rfl fun w4 h=>M0 111 [0,1,2,3,5,6] (h.pick [] rfl) rfl ?_
  refine Aw 4 127 (fun w' _=>qdI (x:=.tmp 46) (lo:=some (.tmp 49)) (hi:=none) (t:=47) qc rfl hW3 rfl ⟨by omega,by omega,by omega,by omega⟩ (subP1 (b:=b2) (o:=0) (c:=cap) (l:=k+1) (by omega)) rfl rfl rfl rfl rfl rfl) (h.pick [] rfl) rfl ?_
  refine Aw 7 255 (fun w' _=>qdI (x:=.tmp 51) (lo:=some (.tmp 52)) (hi:=none) (t:=47) qc rfl rfl rfl ⟨by omega,by omega,by omega,by omega⟩ (subP1 (b:=b) (o:=0) (c:=c) (l:=k) (by omega)) rfl rfl rfl rfl rfl rfl) (h.pick [] rfl) rfl ?_
  have hb1:=hs2 w4 (h.mem (i:=1) rfl).1
  refine Ao 8 511 rfl (qo3 qc 0 h rfl hb1 rfl rfl rfl rfl rfl rfl (by rw [hvl];simp [Nat.min_def];omega) (by rw [hlen1,hvl];omega) (fun v hv=>?_) rfl fun w5 h=>?_)
  ·rw [List.mem_iff_getElem?] at hv
   obtain ⟨j,hj⟩:=hv
   rw [jB] at hj
   exact hcut _ _ hj
  refine Ag (h.pick [] rfl) (Ad ?_)
  refine X0 5 rfl ?_
  replace h:=h.pickT 5 [0,3,4] rfl
  have hlen2:(splice (splice (cs.take k++Z) (0+k) [qv]) (0+(k+1)) ((cs.take xs.length).drop k)).length=cap:=by rw [qb4 (by rw [hlen1,hvl];omega),hlen1]
  have hrl:(rs.take k++q::rs.drop k).length=k+(xs.length+1-k):=by simp;omega
  replace h:=SH.ofBox (α:=List Int) rfl (rs:=rs.take k++q::rs.drop k) h hlen2 (by rw [hrl];omega) hcm (insCells hrs hkn hcs hq1 hq2 (fun j hj=>?_) ?_ fun j h1 h2=>?_)
  ·rw [hrl] at h
   obtain ⟨S3,h⟩:=SH.insFin k hk rfl h
   exact qla qc h ⟨rfl,trivial⟩
  ·rw [getElem?_splice (by rw [hlen1,hvl];omega),if_pos (by omega),getElem?_splice (by rw [hzl];simp;omega),if_pos (by omega),jq (by simp;omega),jr,if_pos hj]
  ·rw [getElem?_splice (by rw [hlen1,hvl];omega),if_pos (by omega),getElem?_splice (by rw [hzl];simp;omega),if_neg (by omega),if_pos (by simp)]
   simp
  ·rw [getElem?_splice (by rw [hlen1,hvl];omega),if_neg (by omega),if_pos (by rw [hvl];omega),jB,jr,if_pos (by omega)]
   congr 1;omega
 refine X0 7 rfl ?_
 have hcap:xs.length+1≤c:=by
  have hf2:decide (W64 ((xs.length:Int)+([t].length:Int)) > (c:Int))=false:=hf2
  have:=of_decide_eq_false hf2
  rw [hW1] at this;omega
 refine r_v (qvD qc rfl rfl (congrArg some hW1) ⟨by omega,by omega,by omega⟩ (subP1 (b:=b) (o:=0) (c:=c) (l:=0) (by omega)) rfl rfl rfl rfl rfl rfl) rfl ?_
 refine X0 10 rfl ?_
 refine r_v (qdI qc rfl hW3 rfl ⟨by omega,by omega,by omega,by omega⟩ (subP1 (b:=b) (o:=0+0) (c:=c) (l:=k+1) (by omega)) rfl rfl rfl rfl rfl rfl) rfl ?_
 have hne:b1 ≠ b:=fun hab=>(List.pairwise_cons.1 h.apart).1 (Ch.box b1 cs1 tb1) (jn ..) b rfl hab.symm
 have hov:∀ lb cb,(callFunc 199 [Value.slice (some ⟨b1,0,none⟩) [t].length c1,.slice (some ⟨b,0+0+(k+1),none⟩) lb cb].toArray).run Tryz.prog w=.ok (.value (.bool false)) w:=fun lb cb=>by
  rw [run_callFunc_extern Tryz.func199 (by kernel_rfl) (by kernel_rfl) (by kernel_rfl) (e:=Extern.SlicesOverlaps.overlaps #[47,47] #[4]) (by kernel_rfl)]
  show ((Extern.SlicesOverlaps.overlaps #[47,47] #[4] #[.slice (some ⟨b1,0,none⟩) 1 c1,.slice (some ⟨b,0+0+(k+1),none⟩) lb cb]).run Tryz.prog w).andThen _=_
  rw [Lib.run_overlaps_apart w 47 4 36 Tryz.underlying47 1 (fun w=>qgs (qc 36 _ rfl) w) ⟨b1,0,none⟩ ⟨b,0+0+(k+1),none⟩ 1 c1 lb cb hne tb1 tb cs1.length cs.length (qqC (h.boxAt (i:=1) rfl)) (qqC (h.boxAt (i:=0) rfl)) (by omega) (qps (h.boxAt (i:=1) rfl) _) (qps (h.boxAt (i:=1) rfl) _)]
  rfl
 refine qxJ rfl rfl (hov _ _) rfl ?_
 refine X0 2 rfl ?_
 refine qes rfl rfl ?_
 refine X0 1 rfl ?_
 have hlen1:(splice cs (0+0+(k+1)) ((cs.take xs.length).drop k)).length=c:=by rw [qb4 (by rw [hvl];omega),hcl]
 refine rA [] [] h rfl fun w4 h=>M0 111 [0,1,2,3,5,6] (h.pick [] rfl) rfl ?_
 refine Aw 4 127 (fun w' _=>qdI (x:=.tmp 69) (lo:=some (.tmp 72)) (hi:=none) (t:=47) qc rfl hW3 rfl ⟨by omega,by omega,by omega,by omega⟩ (subP1 (b:=b) (o:=0+0) (c:=c) (l:=k+1) (by omega)) rfl rfl rfl rfl rfl rfl) (h.pick [] rfl) rfl ?_
 refine Aw 7 255 (fun w' _=>qdI (x:=.tmp 74) (lo:=some (.tmp 75)) (hi:=none) (t:=47) qc rfl rfl rfl ⟨by omega,by omega,by omega,by omega⟩ (subP1 (b:=b) (o:=0+0) (c:=c) (l:=k) (by omega)) rfl rfl rfl rfl rfl rfl) (h.pick [] rfl) rfl ?_
 have hb1:=hs2 w4 (h.mem (i:=0) rfl).1
 refine Ao 8 511 rfl (qo3 qc 0 h rfl hb1 rfl rfl rfl rfl rfl rfl (by rw [hvl];simp [Nat.min_def];omega) (by rw [hvl];omega) (fun v hv=>?_) rfl fun w5 h=>?_)
 ·rw [List.mem_iff_getElem?] at hv
  obtain ⟨j,hj⟩:=hv
  rw [jB] at hj
  exact hcut _ _ hj
 refine Ag (h.pick [] rfl) (Ad ?_)
 refine X0 4 rfl ?_
 refine r_v (qdI qc rfl rfl rfl ⟨by omega,by omega,by omega,by omega⟩ (subP1 (b:=b) (o:=0+0) (c:=c) (l:=k) (by omega)) rfl rfl rfl rfl rfl rfl) rfl ?_
 refine X0 1 rfl ?_
 have hs1:CellsAt w5 b1 0 [qv]:=fun j v hj=>(h.box 1 rfl) j v (by
  have hj0:j=0:=by have:=(List.getElem?_eq_some_iff.1 hj).1;simpa using this
  subst hj0
  rw [hq3];exact hj)
 refine qo3 qc 0 h rfl hs1 rfl rfl rfl rfl rfl rfl (by simp [Nat.min_def];omega) (by rw [hlen1];simp;omega) (fun v hv=>by rw [List.mem_singleton.1 hv];exact hq2) rfl fun w6 h=>?_
 refine X0 6 rfl ?_
 replace h:=h.pickT 4 [0,2,3] rfl
 have hlen2:(splice (splice cs (0+0+(k+1)) ((cs.take xs.length).drop k)) (0+0+k) [qv]).length=c:=by rw [qb4 (by rw [hlen1];simp;omega),hlen1]
 have hrl:(rs.take k++q::rs.drop k).length=xs.length+1:=by simp;omega
 replace h:=SH.ofBox (α:=List Int) rfl (rs:=rs.take k++q::rs.drop k) h hlen2 (by rw [hrl];omega) hc.2 (insCells hrs hkn hcs hq1 hq2 (fun j hj=>?_) ?_ fun j h1 h2=>?_)
 ·rw [hrl] at h
  obtain ⟨S3,h⟩:=SH.insFin k hk rfl h
  exact qla qc h ⟨rfl,trivial⟩
 ·rw [getElem?_splice (by rw [hlen1];simp;omega),if_pos (by omega),getElem?_splice (by rw [hvl];omega),if_pos (by omega)]
 ·rw [getElem?_splice (by rw [hlen1];simp;omega),if_neg (by omega),if_pos (by simp)]
  simp
 ·rw [getElem?_splice (by rw [hlen1];simp;omega),if_neg (by omega),if_neg (by simp;omega),getElem?_splice (by rw [hvl];omega),if_neg (by omega),if_pos (by rw [hvl];omega),jB,jr,if_pos (by omega)]
  congr 1;omega
end Go.Fw


namespace Go.Fw
open Go Go.Proofs
open Go.RowKit (Below)
set_option maxRecDepth 100000
set_option maxHeartbeats 6400000
variable {n:Nat} {w:World} {cs1 cs2 cs3 cs4 cs5 cs6 cs7 cs8 cs9:List Value}
def qhh (n:Nat) (l:qn) (d:qf) (place:Int):Option (Tl05Place × Bool) :=
 (qg3 n l d).bind fun r1 =>
 bif (!r1) then some ((⟨0,0,0,false⟩:Tl05Place),false) else
 (qdd n d).bind fun r2 =>
 (qan n place 0 (W64 ((r2.length:Int)-1))).bind fun r3 =>
 bif (!r3) then some ((⟨0,0,0,false⟩:Tl05Place),false) else
 (idx r2 place).bind fun y1 =>
 some (y1,true)
theorem qiv {l:qn} {d:qf} {place:Int} (ha1:GoT.R w (old w) l cs1) (ha2:GoT.R w (old w) d cs2) {r:(Tl05Place × Bool)} (hF:qhh n l d place=some r):RetV Tryz.prog 98 [GoT.v qn cs1,GoT.v qf cs2,.int .i64 place] w r:=by
 obtain ⟨p1,k1,rfl,s1⟩:=qa7 ha1
 obtain ⟨p2,k2,p3,k3,p4,k4,rfl,s2,s3,s4⟩:=qag ha2
 refine zV 27 Tryz.func98 rfl fun h=>zSR (qu h rfl rfl fun w1 bb1 h=>qu h rfl rfl fun w2 bb2 h=>qA qc h rfl rfl rfl fun w3 bb3 h=>X2 7 2 1 h rfl (zcB h hF (qkM (h.old ha1) (h.old ha2)) rfl fun r1 w4 h hF=>X0 2 rfl (qi rfl hF ?_ ?_)))<;>intro hF
 ·refine zSR (r_v (qgI qc [] [] rfl rfl rfl rfl rfl rfl rfl rfl) rfl (zs 0 h rfl fun w5 h=>X0 2 rfl ?_))
  obtain rfl:=qb hF
  exact qak qc (ρ:=(Tl05Place × Bool)) [GoT.v Tl05Place [.int .i64 0,.int .i64 0,.int .i64 0,.bool false],GoT.v Bool [.bool false]] h ⟨⟨_,_,_,rfl,rfl,h.box 0 rfl,rfl⟩,rfl,trivial⟩ (PV.done h (qbn h (qy (S:=fun _=>False) (qgZ (⟨0,0,0,false⟩:Tl05Place))) (qat (qy (S:=fun _=>False) rfl)) (by rfl)))
 refine X1 4 1 h rfl (zcL h hF (qeT (h.old ha2)) rfl fun r2 w6 S1 p5 k5 h hF=>X0 9 rfl (zcB h hF qV rfl fun r3 w7 h hF=>X0 2 rfl (qi rfl hF ?_ ?_)))<;>intro hF
 ·refine zSR (r_v (qgI qc [] [] rfl rfl rfl rfl rfl rfl rfl rfl) rfl (zs 1 h rfl fun w8 h=>X0 2 rfl ?_))
  obtain rfl:=qb hF
  exact qak qc (ρ:=(Tl05Place × Bool)) [GoT.v Tl05Place [.int .i64 0,.int .i64 0,.int .i64 0,.bool false],GoT.v Bool [.bool false]] h ⟨⟨_,_,_,rfl,rfl,h.box 1 rfl,rfl⟩,rfl,trivial⟩ (PV.done h (qbn h (qy (S:=fun _=>False) (qgZ (⟨0,0,0,false⟩:Tl05Place))) (qat (qy (S:=fun _=>False) rfl)) (by rfl)))
 refine X0 5 rfl ?_
 obtain ⟨y1,hy1,hF,he1,b1,_,q1,cs3,hp1,hq1,hr4,hc3⟩:=(h.sl 0 rfl).1.ix hF
 obtain rfl:=qbG hr4
 refine zx hp1 hq1 ⟨he1.1,qx he1.2.1 (h.sl 0 rfl).2⟩ rfl (zc 0 hc3 rfl (zs 1 h rfl fun w9 h=>X0 2 rfl ?_))
 obtain rfl:=qb hF
 exact qak qc (ρ:=(Tl05Place × Bool)) [GoT.v Tl05Place (qi2 y1),GoT.v Bool [.bool true]] h ⟨⟨_,_,_,rfl,rfl,h.box 1 rfl,rfl⟩,rfl,trivial⟩ (PV.done h (qbn h (qy (S:=fun _=>False) (qgZ y1)) (qat (qy (S:=fun _=>False) rfl)) (by rfl)))
def qgD (_:Nat) (b:qg) (a_instance:Int):Option qp :=
 (idx b.Ab.Aa a_instance).bind fun y1 =>
 (idx b.Ai.Ah y1.Ba).bind fun y2 =>
 some y2
theorem qls {A:Nat→Prop} (hA:∀ b,A b→old w b) {b:qg} {a_instance:Int} (ha1:GoT.R w A b cs1) {r:qp} (hF:qgD n b a_instance=some r):RetG Tryz.prog 153 [GoT.v qg cs1,.int .i64 a_instance] w A r:=by
 obtain ⟨p1,k1,p2,k2,p3,k3,p4,k4,p5,k5,rfl,s1,s2,s3,s4,s5⟩:=qK ha1
 have hg:=Rg.start hA
 refine qiZ Tryz.func153 rfl (m:=17) rfl rfl (fun h=>?_)
 refine zSR (qu h rfl rfl fun w1 bb1 h=>qA qc h rfl rfl rfl fun w2 bb2 h=>zNS (rA [] [1] h rfl fun w3 h=>M2 127 [0,1,2,3,4,5,6] 0 0 (h.pick [1] rfl) rfl ?_))
 obtain ⟨y1,hy1,hF,he1,b1,_,q1,cs2,hp1,hq1,hr1,hc1⟩:=s2.ix hF
 obtain ⟨p6,k6,rfl,s6⟩:=qM hr1
 refine Ae 7 255 hp1 hq1 he1 (h.pick [1] rfl) rfl (M0 511 [8] (h.pick [1] rfl) rfl (Al 9 1023 1 hc1 (h.pick [1] rfl) rfl ?_))
 obtain ⟨y2,hy2,hF,he2,b2,_,q2,cs3,hp2,hq2,hr2,hc2⟩:=s1.ix hF
 obtain ⟨p7,k7,p8,k8,p9,k9,rfl,s7,s8,s9⟩:=qJ hr2
 refine Ae 10 2047 hp2 hq2 he2 (h.pick [1] rfl) rfl (Al 11 4095 0 hc2 (h.pick [1] rfl) rfl (Ao 12 8191 rfl (zs 0 h rfl fun w4 h=>Ag (h.pick [1] rfl) (Ad ?_))))
 obtain rfl:=qb hF
 have hv1:GoRs.Rs (ρ:=qp) h.wc (reg A w h.wc) y2 [GoT.v qp (qbV y2 p7 p8 p9 k7 k8 k9)]:=⟨_,rfl,(hg.outR h (qhv y2 (hg.inS h s7) (hg.inS h s8) (hg.inS h s9)))⟩
 exact qkw qc (ρ:=qp) (r:=y2) [GoT.v qp (qbV y2 p7 p8 p9 k7 k8 k9)] h ⟨⟨_,_,_,rfl,rfl,h.box 0 rfl,rfl⟩,trivial⟩ hv1
def qf6 (n:Nat) (b:qg) (place:Int):Option Bool :=
 (qhh n (⟨b.Ai.Ah⟩:qn) (⟨b.Ab.Aa,b.Ab.Af,b.Ab.Ac⟩:qf) place).bind fun o=>match o with
  | (r2,_) =>
   bif decide (r2.instance_ ≥ 0) then
    (qgD n b r2.instance_).bind fun r4 =>
    (idx r4.Am r2.pin).bind fun y1 =>
    some y1.Be
   else
    some false
theorem qic {b:qg} {place:Int} (ha1:GoT.R w (old w) b cs1) {r:Bool} (hF:qf6 n b place=some r):RetV Tryz.prog 99 [GoT.v qg cs1,.int .i64 place] w r:=by
 obtain ⟨p1,k1,p2,k2,p3,k3,p4,k4,p5,k5,rfl,s1,s2,s3,s4,s5⟩:=qK ha1
 refine zV 31 Tryz.func99 rfl fun h=>zSR (qu h rfl rfl fun w1 bb1 h=>X2 9 0 0 h rfl ?_)
 obtain ⟨r1,hr1,hF⟩:=qd hF
 obtain ⟨r2,r3⟩:=r1
 refine qdj (r2,r3) h (cB 98 rfl) (qiv (qb9 _ (h.oldS s1)) (qaz _ (h.oldS s2) (h.oldS s3) (h.oldS s4)) hr1) rfl rfl rfl rfl fun w2 S1 us1 hv1 hr2=>?_
 obtain ⟨S2,S3,cs2,us2,rfl,hv2,hr3⟩:=hv1.cons hr2
 obtain rfl:=qbG (hv2.sh.own 0 rfl)
 obtain ⟨rfl,h⟩:=hv2.lastB hr3
 refine zp3 rfl (qA qc h rfl rfl rfl fun w3 bb2 h=>zs 0 h rfl fun w4 h=>X0 3 rfl (rA [] [0,2] h rfl fun w5 h=>M1 15 [0,1,2,3] 0 (h.pick [0,2] rfl) rfl (qtP (t:=19) hF rfl ?_ ?_)))<;>intro hF
 ·refine qdQ 4 rfl (by kernel_rfl) (bits 16 31) (by kernel_rfl) (by kernel_rfl) (fun w' hw=>qim qc (hw.box 1 rfl) (j:=0) rfl rfl rfl) (h.pick [0,2] rfl) rfl (qdQ 5 rfl (by kernel_rfl) (bits 16 63) (by kernel_rfl) (by kernel_rfl) (fun w' hw=>v_p qc rfl w') (h.pick [0,2] rfl) rfl (qdQ 6 rfl (by kernel_rfl) (bits 16 127) (by kernel_rfl) (by kernel_rfl) (fun w' hw=>qim qc (hw.box 0 rfl) (j:=0) rfl rfl rfl) (h.pick [0,2] rfl) rfl (qdQ 9 rfl (by kernel_rfl) (bits 16 639) (by kernel_rfl) (by kernel_rfl) (fun w' hw=>v_p qc rfl w') (h.pick [0,2] rfl) rfl (qdQ 10 rfl (by kernel_rfl) (bits 16 1663) (by kernel_rfl) (by kernel_rfl) (fun w' hw=>qim qc (hw.box 0 rfl) (j:=1) rfl rfl rfl) (h.pick [0,2] rfl) rfl (Ao 7 1791 rfl (X0 1 rfl ?_))))))
  have hg1:Rg (old w) w (old w) w:=.start (fun _ h=>h)
  obtain ⟨r4,hr5,hF⟩:=qd hF
  refine qoZ r4 hg1 h (cB 153 rfl) (qls (hg1.atB h) (hg1.inBR h ha1) hr5) rfl rfl rfl rfl fun w6 us3 S5 h hv4=>?_
  obtain ⟨cs3,rfl,hr6⟩:=qmQ hv4
  have hr7:=hr6
  obtain ⟨p6,k6,p7,k7,p8,k8,rfl,s6,s7,s8⟩:=qJ hr6
  replace h:=h.grpAdd 0 rfl hr7
  refine Ag (h.pick [1,3] rfl) (qdQ 8 rfl (by kernel_rfl) (bits 16 2047) (by kernel_rfl) (by kernel_rfl) (fun w' hw=>v_p qc rfl w') (h.pick [1,3] rfl) rfl ?_)
  obtain ⟨y1,hy1,hF,he1,b1,_,q1,cs4,hp1,hq1,hr8,hc1⟩:=(qin (h.grp 0 0 rfl rfl)).1.1.ix hF
  obtain rfl:=qaF hr8
  refine qdQ 11 rfl (by kernel_rfl) (bits 16 4095) (by kernel_rfl) (by kernel_rfl) (fun w' hw=>qng qc hp1 hq1 ⟨he1.1,qx he1.2.1 (qin (h.grp 0 0 rfl rfl)).1.2⟩ rfl rfl rfl rfl rfl rfl) (h.pick [1,3] rfl) rfl (qdQ 12 rfl (by kernel_rfl) (bits 16 8191) (by kernel_rfl) (by kernel_rfl) (fun w' hw=>v_p qc rfl w') (h.pick [1,3] rfl) rfl (Ao 13 16383 rfl (X0 1 rfl (zc 3 hc1 rfl (G0 65535 [14,15] (h.pick [1,3] rfl) rfl (Ad ?_))))))
  replace h:=h.pick [1,2,3] rfl
  exact rb h hF rfl
 exact qg0 4 rfl (by kernel_rfl) rfl (bits 16 31) (by kernel_rfl) (by kernel_rfl) (h.pick [0,2] rfl) rfl (qg0 5 rfl (by kernel_rfl) rfl (bits 16 63) (by kernel_rfl) (by kernel_rfl) (h.pick [0,2] rfl) rfl (qg0 6 rfl (by kernel_rfl) rfl (bits 16 127) (by kernel_rfl) (by kernel_rfl) (h.pick [0,2] rfl) rfl (qg0 7 rfl (by kernel_rfl) rfl (bits 16 255) (by kernel_rfl) (by kernel_rfl) (h.pick [0,2] rfl) rfl (qg0 8 rfl (by kernel_rfl) rfl (bits 16 511) (by kernel_rfl) (by kernel_rfl) (h.pick [0,2] rfl) rfl (qg0 9 rfl (by kernel_rfl) rfl (bits 16 1023) (by kernel_rfl) (by kernel_rfl) (h.pick [0,2] rfl) rfl (qg0 10 rfl (by kernel_rfl) rfl (bits 16 2047) (by kernel_rfl) (by kernel_rfl) (h.pick [0,2] rfl) rfl (qg0 11 rfl (by kernel_rfl) rfl (bits 16 4095) (by kernel_rfl) (by kernel_rfl) (h.pick [0,2] rfl) rfl (qg0 12 rfl (by kernel_rfl) rfl (bits 16 8191) (by kernel_rfl) (by kernel_rfl) (h.pick [0,2] rfl) rfl (qg0 13 rfl (by kernel_rfl) rfl (bits 16 16383) (by kernel_rfl) (by kernel_rfl) (h.pick [0,2] rfl) rfl (M0 65535 [14,15] (h.pick [0,2] rfl) rfl (Ad (rb h hF rfl))))))))))))
def qhb (n:Nat) (l:qn) (d:qf) (place:Int):Option Int :=
 (qhh n l d place).bind fun o=>match o with
  | (r2,r3) =>
   bif (!r3) then some (-1) else
   some r2.net
theorem qmW {l:qn} {d:qf} {place:Int} (ha1:GoT.R w (old w) l cs1) (ha2:GoT.R w (old w) d cs2) {r:Int} (hF:qhb n l d place=some r):RetV Tryz.prog 151 [GoT.v qn cs1,GoT.v qf cs2,.int .i64 place] w r:=by
 obtain ⟨p1,k1,rfl,s1⟩:=qa7 ha1
 obtain ⟨p2,k2,p3,k3,p4,k4,rfl,s2,s3,s4⟩:=qag ha2
 refine zV 20 Tryz.func151 rfl fun h=>zSR (qu h rfl rfl fun w1 bb1 h=>qu h rfl rfl fun w2 bb2 h=>X2 7 1 0 h rfl ?_)
 obtain ⟨r1,hr1,hF⟩:=qd hF
 obtain ⟨r2,r3⟩:=r1
 refine qdj (r2,r3) h (cB 98 rfl) (qiv (h.old ha1) (h.old ha2) hr1) rfl rfl rfl rfl fun w3 S1 us1 hv1 hr2=>?_
 obtain ⟨S2,S3,cs3,us2,rfl,hv2,hr3⟩:=hv1.cons hr2
 obtain rfl:=qbG (hv2.sh.own 0 rfl)
 obtain ⟨rfl,h⟩:=hv2.lastB hr3
 refine zp3 rfl (qA qc h rfl rfl rfl fun w4 bb3 h=>zs 0 h rfl fun w5 h=>X0 8 rfl (qi rfl hF ?_ ?_))<;>intro hF
 ·exact X0 4 rfl (ri h hF rfl)
 exact X1 7 0 h rfl (ri h hF rfl)
def qcz (net:Int) (r1:(List Tl05Place)):Nat→Int→Option (Flow Int Int)
 | 0,_=>none
 | n+1,i1 =>
  bif decide (i1<(r1.length:Int)) then
   (idx r1 i1).bind fun y1 =>
   bif (y1.net==net) then
    (idx r1 i1).bind fun y2 =>
    bif y2.drives then some (.ret i1) else
    qcz net r1 n (W64 (i1+1))
   else
    qcz net r1 n (W64 (i1+1))
  else
   some (.nxt i1)
def qhX (n:Nat) (d:qf) (net:Int):Option Int :=
 (qdd n d).bind fun r1 =>
 (qcz net r1 n 0).bind fun o=>match o with
 | .ret r=>some r
 | .nxt _ =>
  some (-1)
theorem qnp {d:qf} {net:Int} (ha1:GoT.R w (old w) d cs1) {r:Int} (hF:qhX n d net=some r):RetV Tryz.prog 152 [GoT.v qf cs1,.int .i64 net] w r:=by
 obtain ⟨p1,k1,p2,k2,p3,k3,rfl,s1,s2,s3⟩:=qag ha1
 refine zV 30 Tryz.func152 rfl fun h=>zSR (qu h rfl rfl fun w1 bb1 h=>X1 5 0 h rfl (zcL h hF (qeT (h.old ha1)) rfl fun r1 w2 S1 p4 k4 h hF=>X0 7 rfl ?_))
 obtain ⟨o1,hF,hK1⟩:=qd hF
 refine qk ?_
 replace h:=h.pick [0] rfl
 refine rL (fun m e w'=>∃ (i1:Int),qcz net r1 m i1=some o1∧e=[(1,.int .i64 net),(5,.slice p4 r1.length k4),(6,.int .i64 i1)]∧SH w w' [Ch.own S1 (r1:List Tl05Place) [.slice p4 r1.length k4]]) n ⟨_,hF,rfl,h⟩ rfl ?_
 rintro m1 e1 w3 ⟨i1,hF,rfl,h⟩
 rcases m1 with _|m1
 ·cases hF
 refine X0 8 rfl (qi rfl hF ?_ ?_)<;>intro hF
 ·refine X0 7 rfl ?_
  obtain ⟨y1,hy1,hF,he1,b1,_,q1,cs2,hp1,hq1,hr2,hc2⟩:=(h.sl 0 rfl).1.ix hF
  obtain rfl:=qbG hr2
  refine zx hp1 hq1 ⟨he1.1,qx he1.2.1 (h.sl 0 rfl).2⟩ rfl (zp1 rfl (zc 2 hc2 rfl (zp3 rfl (ql (t:=22) hF rfl ?_ ?_))))<;>intro hF
  ·refine X0 5 rfl ?_
   obtain ⟨y2,hy2,hF,he2,b2,_,q2,cs3,hp2,hq2,hr3,hc3⟩:=(h.sl 0 rfl).1.ix hF
   obtain rfl:=qbG hr3
   refine zx hp2 hq2 ⟨he2.1,qx he2.2.1 (h.sl 0 rfl).2⟩ rfl (X0 3 rfl (zc 3 hc3 rfl (X0 2 rfl (qi rfl hF ?_ ?_))))<;>intro hF
   ·refine X0 5 rfl ?_
    obtain rfl:=qb hF;replace hF:=hK1
    exact ri h hF rfl
   exact X0 7 rfl (rK ⟨_,hF,rfl,h⟩ rfl)
  exact X0 7 rfl (qbK rfl rfl (X0 7 rfl (rK ⟨_,hF,rfl,h⟩ rfl)))
 refine qm rfl ?_
 obtain rfl:=qb hF;replace hF:=hK1
 exact X0 4 rfl (ri h hF rfl)
def qdw (a_instance:Int) (pin:Int) (r1:(List Tl05Place)):Nat→Int→Option (Flow Int Int)
 | 0,_=>none
 | n+1,i1 =>
  bif decide (i1<(r1.length:Int)) then
   (idx r1 i1).bind fun y1 =>
   bif (y1.instance_==a_instance) then
    (idx r1 i1).bind fun y2 =>
    bif (y2.pin==pin) then some (.ret i1) else
    qdw a_instance pin r1 n (W64 (i1+1))
   else
    qdw a_instance pin r1 n (W64 (i1+1))
  else
   some (.nxt i1)
def qhR (n:Nat) (d:qf) (a_instance:Int) (pin:Int):Option Int :=
 (qdd n d).bind fun r1 =>
 (qdw a_instance pin r1 n 0).bind fun o=>match o with
 | .ret r=>some r
 | .nxt _ =>
  some (-1)
theorem qot {d:qf} {a_instance:Int} {pin:Int} (ha1:GoT.R w (old w) d cs1) {r:Int} (hF:qhR n d a_instance pin=some r):RetV Tryz.prog 154 [GoT.v qf cs1,.int .i64 a_instance,.int .i64 pin] w r:=by
 obtain ⟨p1,k1,p2,k2,p3,k3,rfl,s1,s2,s3⟩:=qag ha1
 refine zV 34 Tryz.func154 rfl fun h=>zSR (qu h rfl rfl fun w1 bb1 h=>X1 5 0 h rfl (zcL h hF (qeT (h.old ha1)) rfl fun r1 w2 S1 p4 k4 h hF=>X0 7 rfl ?_))
 obtain ⟨o1,hF,hK1⟩:=qd hF
 refine qk ?_
 replace h:=h.pick [0] rfl
 refine rL (fun m e w'=>∃ (i1:Int),qdw a_instance pin r1 m i1=some o1∧e=[(1,.int .i64 a_instance),(2,.int .i64 pin),(7,.slice p4 r1.length k4),(8,.int .i64 i1)]∧SH w w' [Ch.own S1 (r1:List Tl05Place) [.slice p4 r1.length k4]]) n ⟨_,hF,rfl,h⟩ rfl ?_
 rintro m1 e1 w3 ⟨i1,hF,rfl,h⟩
 rcases m1 with _|m1
 ·cases hF
 refine X0 8 rfl (qi rfl hF ?_ ?_)<;>intro hF
 ·refine X0 7 rfl ?_
  obtain ⟨y1,hy1,hF,he1,b1,_,q1,cs2,hp1,hq1,hr2,hc2⟩:=(h.sl 0 rfl).1.ix hF
  obtain rfl:=qbG hr2
  refine zx hp1 hq1 ⟨he1.1,qx he1.2.1 (h.sl 0 rfl).2⟩ rfl (zp1 rfl (zc 0 hc2 rfl (zp3 rfl (ql (t:=24) hF rfl ?_ ?_))))<;>intro hF
  ·refine X0 5 rfl ?_
   obtain ⟨y2,hy2,hF,he2,b2,_,q2,cs3,hp2,hq2,hr3,hc3⟩:=(h.sl 0 rfl).1.ix hF
   obtain rfl:=qbG hr3
   refine zx hp2 hq2 ⟨he2.1,qx he2.2.1 (h.sl 0 rfl).2⟩ rfl (X0 3 rfl (zc 1 hc3 rfl (X0 6 rfl (qi rfl hF ?_ ?_))))<;>intro hF
   ·refine X0 5 rfl ?_
    obtain rfl:=qb hF;replace hF:=hK1
    exact ri h hF rfl
   exact X0 7 rfl (rK ⟨_,hF,rfl,h⟩ rfl)
  exact X0 9 rfl (qbK rfl rfl (X0 7 rfl (rK ⟨_,hF,rfl,h⟩ rfl)))
 refine qm rfl ?_
 obtain rfl:=qb hF;replace hF:=hK1
 exact X0 4 rfl (ri h hF rfl)
def qch (a_0:qg) (r6:(List Int)):Nat→(List Int)→Int→Option ((List Int) × Int)
 | 0,_,_=>none
 | n+1,x1,i1 =>
  bif decide (i1<(r6.length:Int)) then
   (idx r6 i1).bind fun y1 =>
   (qf6 n a_0 y1).bind fun r7 =>
   bif (!r7) then
    (idx r6 i1).bind fun y2 =>
    (appS x1 ([y2]:List Int)).bind fun x2 =>
    qch a_0 r6 n x2 (W64 (i1+1))
   else
    qch a_0 r6 n x1 (W64 (i1+1))
  else
   some (x1,i1)
def qd3 (a_0:qg) (r2:Tl05Place) (r8:qp):Nat→Int→Option (Flow (List Int) Int)
 | 0,_=>none
 | n+1,i2 =>
  bif decide (i2<(r8.Ap.length:Int)) then
   (
    (idx r8.Ap i2).bind fun y3 =>
    bif (y3.Au==r2.pin) then
     (idx r8.Ap i2).bind fun y4 =>
     some (decide (y4.Ar≤3))
    else
     some false).bind fun b3 =>
   bif b3 then
    (qhR n (⟨a_0.Ab.Aa,a_0.Ab.Af,a_0.Ab.Ac⟩:qf) r2.instance_ (W64 ((r8.Am.length:Int)-1))).bind fun r9 =>
    some (.ret ([r9]:List Int))
   else
    qd3 a_0 r2 r8 n (W64 (i2+1))
  else
   some (.nxt i2)
def qga (n:Nat) (a_0:qg) (a_1:Int):Option (List Int) :=
 (qhh n (⟨a_0.Ai.Ah⟩:qn) (⟨a_0.Ab.Aa,a_0.Ab.Af,a_0.Ab.Ac⟩:qf) a_1).bind fun o=>match o with
  | (r2,_) =>
   (qhb n (⟨a_0.Ai.Ah⟩:qn) (⟨a_0.Ab.Aa,a_0.Ab.Af,a_0.Ab.Ac⟩:qf) a_1).bind fun r4 =>
   (qhX n (⟨a_0.Ab.Aa,a_0.Ab.Af,a_0.Ab.Ac⟩:qf) r4).bind fun r5 =>
   bif (r5==a_1) then
    (qg1 n (⟨a_0.Ab.Aa,a_0.Ab.Af,a_0.Ab.Ac⟩:qf) r4).bind fun r6 =>
    (qch a_0 r6 n ([]:List Int) 0).bind fun o=>match o with
    | (x1,_) =>
     some x1
   else
    bif decide (r2.instance_<0) then some ([]:List Int) else
    (qgD n a_0 r2.instance_).bind fun r8 =>
    (qd3 a_0 r2 r8 n 0).bind fun o=>match o with
    | .ret r=>some r
    | .nxt _ =>
     some ([]:List Int)
theorem qie {a_0:qg} {a_1:Int} (ha1:GoT.R w (old w) a_0 cs1) {r:(List Int)} (hF:qga n a_0 a_1=some r):RetV Tryz.prog 90 [GoT.v qg cs1,.int .i64 a_1] w r:=by
 obtain ⟨p1,k1,p2,k2,p3,k3,p4,k4,p5,k5,rfl,s1,s2,s3,s4,s5⟩:=qK ha1
 refine zV 104 Tryz.func90 rfl fun h=>zSR (qu h rfl rfl fun w1 bb1 h=>X0 4 rfl (qG qc [] _ ([]:List Int) h rfl rfl rfl rfl rfl rfl rfl rfl rfl trivial rfl fun w2 p6 S1 h=>X2 9 1 1 h rfl ?_))
 obtain ⟨r1,hr1,hF⟩:=qd hF
 obtain ⟨r2,r3⟩:=r1
 refine qdj (r2,r3) h (cB 98 rfl) (qiv (qb9 _ (h.oldS s1)) (qaz _ (h.oldS s2) (h.oldS s3) (h.oldS s4)) hr1) rfl rfl rfl rfl fun w3 S2 us1 hv1 hr2=>?_
 obtain ⟨S3,S4,cs2,us2,rfl,hv2,hr3⟩:=hv1.cons hr2
 obtain rfl:=qbG (hv2.sh.own 0 rfl)
 obtain ⟨rfl,h⟩:=hv2.lastB hr3
 refine zp3 rfl (qA qc h rfl rfl rfl fun w4 bb2 h=>zs 0 h rfl fun w5 h=>X2 9 3 3 h rfl (zcI h hF (qmW (qb9 _ (h.oldS s1)) (qaz _ (h.oldS s2) (h.oldS s3) (h.oldS s4))) rfl fun r4 w6 h hF=>X1 8 3 h rfl (zcI h hF (qnp (qaz _ (h.oldS s2) (h.oldS s3) (h.oldS s4))) rfl fun r5 w7 h hF=>X0 3 rfl (qi rfl hF ?_ ?_))))<;>intro hF
 ·refine X1 5 3 h rfl (zcL h hF (qkP (qaz _ (h.oldS s2) (h.oldS s3) (h.oldS s4))) rfl fun r6 w8 S6 p7 k6 h hF=>X0 7 rfl ?_)
  obtain ⟨o1,hF,hK1⟩:=qd hF
  refine qk ?_
  replace h:=h.pick [0,3,4] rfl
  refine rL (fun m e w'=>∃ (S7:Nat→Prop) (p8:Option Addr) (ln1:Nat) (k7:Nat) (x1:(List Int)) (i1:Int),qch a_0 r6 m x1 i1=some o1∧e=[(2,.pointer (some ⟨bb1,0,none⟩)),(5,.slice p8 ln1 k7),(9,.slice p7 r6.length k6),(10,.int .i64 i1)]∧SH w w' [Ch.own S6 (r6:List Int) [.slice p7 r6.length k6],Ch.own S7 (x1:List Int) [.slice p8 ln1 k7],Ch.box bb1 (qal a_0 p1 p2 p3 p4 p5 k1 k2 k3 k4 k5) 34]) n ⟨_,_,_,_,_,_,hF,rfl,h⟩ rfl ?_
  rintro m1 e1 w9 ⟨S7,p8,ln1,k7,x1,i1,hF,rfl,h⟩
  obtain rfl:=(h.sl 1 rfl).2
  rcases m1 with _|m1
  ·cases hF
  refine X0 8 rfl (qi rfl hF ?_ ?_)<;>intro hF
  ·refine X0 4 rfl (rD (Y1 1 2 h rfl ?_))
   refine zd2 rfl ?_
   obtain ⟨y1,hy1,hF,he1,b1,_,q1,cs3,hp1,hq1,rfl,hc3⟩:=(h.sl 0 rfl).1.ix hF
   refine zdx hp1 hq1 ⟨he1.1,qx he1.2.1 (h.sl 0 rfl).2⟩ rfl (zdc 0 hc3 rfl ?_)
   obtain ⟨r7,hr9,hF⟩:=qd hF
   refine qbR r7 (vsB _) (cB 99 rfl) (fun _ hb=>qic ((h.ext hb).old ha1) hr9) rfl rfl rfl rfl (zd1 rfl (dN h fun w10 h=>qi rfl hF ?_ ?_))<;>intro hF
   ·refine X0 4 rfl ?_
    obtain ⟨y2,hy2,hF,he2,b2,_,q2,cs4,hp2,hq2,rfl,hc5⟩:=(h.sl 0 rfl).1.ix hF
    refine zx hp2 hq2 ⟨he2.1,qx he2.2.1 (h.sl 0 rfl).2⟩ rfl (zc 0 hc5 rfl (qG qc [.tmp 56] _ ([y2]:List Int) h rfl rfl rfl rfl rfl rfl rfl rfl rfl ⟨rfl,trivial⟩ rfl fun w11 p9 S8 h=>?_))
    obtain ⟨x2,hx1,hF⟩:=qd hF
    obtain ⟨g1,hx1⟩:=qae hx1
    refine qcg qc 2 h rfl (h.sl 0 rfl).1 (h.sl 0 rfl).2 rfl rfl rfl rfl rfl rfl rfl rfl rfl g1 hx1 rfl fun w12 p10 k8 S9 h=>X0 8 rfl ?_
    replace h:=h.pick [1,2,3] rfl
    exact rK ⟨_,_,_,_,_,_,hF,rfl,h⟩ rfl
   exact X0 7 rfl (rK ⟨_,_,_,_,_,_,hF,rfl,h⟩ rfl)
  refine qm rfl ?_
  obtain rfl:=qb hF;replace hF:=hK1
  refine X0 5 rfl ?_
  obtain rfl:=qb hF
  exact rO 1 h rfl ⟨rfl,trivial⟩
 refine X1 8 0 h rfl (qi rfl hF ?_ ?_)<;>intro hF
 ·refine X0 5 rfl ?_
  obtain rfl:=qb hF
  exact rO 2 h rfl ⟨rfl,trivial⟩
 refine X2 6 3 0 h rfl ?_
 have hg1:Rg (old w) w (old w) w:=.start (fun _ h=>h)
 obtain ⟨r8,hr11,hF⟩:=qd hF
 refine qoZ r8 hg1 h (cB 153 rfl) (qls (hg1.atB h) (hg1.inBR h ha1) hr11) rfl rfl rfl rfl fun w13 us3 S10 h hv4=>?_
 obtain ⟨cs5,rfl,hr12⟩:=qmQ hv4
 have hr13:=hr12
 obtain ⟨p11,k9,p12,k10,p13,k11,rfl,s6,s7,s8⟩:=qJ hr12
 replace h:=h.grpAdd 0 rfl hr13
 refine qA qc h rfl rfl rfl fun w14 bb3 h=>zs 0 h rfl fun w15 h=>X0 6 rfl ?_
 obtain ⟨o2,hF,hK2⟩:=qd hF
 refine qk ?_
 replace h:=h.pick [0,1,2,4,5] rfl
 refine rL (fun m e w'=>∃ (i2:Int),qd3 a_0 r2 r8 m i2=some o2∧e=[(2,.pointer (some ⟨bb1,0,none⟩)),(5,.slice p6 0 0),(6,.pointer (some ⟨bb2,0,none⟩)),(11,.pointer (some ⟨bb3,0,none⟩)),(12,.int .i64 i2)]∧SH w w' [Ch.box bb3 (qbV r8 p11 p12 p13 k9 k10 k11) 201,Ch.grp (old w) S10 [fct (r8:qp) [.string r8.As,.int .i64 r8.Ar,.slice p11 r8.Am.length k9,.slice p12 r8.Ap.length k10,.slice p13 r8.Ay.length k11,.int .i64 r8.Bo,.int .i64 r8.Bg]],Ch.box bb2 (qi2 r2) 151,Ch.own S1 (([]:List Int):List Int) [.slice p6 0 0],Ch.box bb1 (qal a_0 p1 p2 p3 p4 p5 k1 k2 k3 k4 k5) 34]) n ⟨_,hF,rfl,h⟩ rfl ?_
 rintro m2 e2 w16 ⟨i2,hF,rfl,h⟩
 rcases m2 with _|m2
 ·cases hF
 refine X1 9 0 h rfl (qi rfl hF ?_ ?_)<;>intro hF
 ·refine X0 4 rfl ?_
  obtain ⟨KF1,hKF1,o3,hF,hK3⟩:=bindE hF
  refine qcB (fun e w'=>∃ (b3:Bool),KF1 b3=some o2∧e=[(2,.pointer (some ⟨bb1,0,none⟩)),(5,.slice p6 0 0),(6,.pointer (some ⟨bb2,0,none⟩)),(11,.pointer (some ⟨bb3,0,none⟩)),(12,.int .i64 i2),(92,.bool b3)]∧SH w w' [Ch.box bb3 (qbV r8 p11 p12 p13 k9 k10 k11) 201,Ch.grp (old w) S10 [fct (r8:qp) [.string r8.As,.int .i64 r8.Ar,.slice p11 r8.Am.length k9,.slice p12 r8.Ap.length k10,.slice p13 r8.Ay.length k11,.int .i64 r8.Bo,.int .i64 r8.Bg]],Ch.box bb2 (qi2 r2) 151,Ch.own S1 (([]:List Int):List Int) [.slice p6 0 0],Ch.box bb1 (qal a_0 p1 p2 p3 p4 p5 k1 k2 k3 k4 k5) 34]) ?_ ?_
  ·refine rD (Y1 2 0 h rfl ?_)
   refine zd1 rfl ?_
   obtain ⟨y3,hy3,hF,he3,b4,_,q3,cs6,hp3,hq3,hr15,hc9⟩:=(qin (h.grpS 1 0 rfl rfl)).2.1.1.ix hF
   have hr16:=hr15
   obtain ⟨p15,k12,p16,k13,rfl,s9,s10⟩:=qaj hr15
   replace h:=h.grpAdd 1 rfl hr16
   refine zdx hp3 hq3 ⟨he3.1,qx he3.2.1 (qin (h.grpS 1 1 rfl rfl)).2.1.2⟩ rfl (zd1 rfl (zdc 1 hc9 rfl (Y1 2 2 h rfl ?_)))
   refine zd2 rfl (qbx (t:=84) hF rfl ?_ ?_)<;>intro hF
   ·refine Y1 4 0 h rfl ?_
    refine Y0 3 rfl ?_
    obtain ⟨y4,hy4,hF,he4,b5,_,q4,cs7,hp4,hq4,hr17,hc10⟩:=(qin (h.grpS 1 1 rfl rfl)).2.1.1.ix hF
    have hr18:=hr17
    obtain ⟨p17,k14,p18,k15,rfl,s11,s12⟩:=qaj hr17
    replace h:=h.grpAdd 1 rfl hr18
    refine zdx hp4 hq4 ⟨he4.1,qx he4.2.1 (qin (h.grpS 1 2 rfl rfl)).2.1.2⟩ rfl (Y0 3 rfl (zdc 0 hc10 rfl (Y0 3 rfl (dN h fun w19 h=>?_))))
    replace h:=h.grpKeep [2] 1 rfl
    obtain rfl:=qb hF
    exact rG ⟨_,hK3,rfl,h⟩ rfl
   refine Y0 8 rfl (dN h fun w20 h=>?_)
   replace h:=h.grpKeep [1] 1 rfl
   obtain rfl:=qb hF
   exact rG ⟨_,hK3,rfl,h⟩ rfl
  rintro e3 w21 ⟨b3,hF,rfl,h⟩
  subst hKF1
  refine qi rfl hF ?_ ?_<;>intro hF
  ·refine X3 10 4 2 0 h rfl (zcI h hF (qot (qaz _ (h.oldS (s2.mono hg1.old)) (h.oldS (s3.mono hg1.old)) (h.oldS (s4.mono hg1.old)))) rfl fun r9 w17 h hF=>qG qc [.tmp 101] _ ([r9]:List Int) h rfl rfl rfl rfl rfl rfl rfl rfl rfl ⟨rfl,trivial⟩ rfl fun w18 p14 S11 h=>X0 2 rfl ?_)
   replace h:=h.pick [0,1,3,4,5] rfl
   obtain rfl:=qb hF;replace hF:=hK2
   obtain rfl:=qb hF
   exact rO 0 h rfl ⟨rfl,trivial⟩
  exact X0 7 rfl (rK ⟨_,hF,rfl,h⟩ rfl)
 refine qm rfl ?_
 obtain rfl:=qb hF;replace hF:=hK2
 refine X0 5 rfl ?_
 replace h:=h.pick [0,2,3,4] rfl
 obtain rfl:=qb hF
 exact rO 2 h rfl ⟨rfl,trivial⟩
def qeV (_:Nat) (a:qF):Option (List qO) :=
 bif (a.Ar==2) then some ([(⟨0,0⟩:qO),(⟨0,1⟩:qO)]:List qO) else
 bif (a.Ar==3) then some ([(⟨1,0⟩:qO),(⟨1,1⟩:qO)]:List qO) else
 bif (a.Ar != 1) then some [] else
 bif (a.Bh==1) then some ([(⟨0,0⟩:qO),(⟨1,1⟩:qO)]:List qO) else
 bif (a.Bh==2) then some ([(⟨0,1⟩:qO),(⟨1,0⟩:qO)]:List qO) else
 some ([(⟨0,0⟩:qO),(⟨0,1⟩:qO),(⟨1,0⟩:qO),(⟨1,1⟩:qO)]:List qO)
theorem qkO {a:qF} (ha1:GoT.R w (old w) a cs1) {r:(List qO)} (hF:qeV n a=some r):RetV Tryz.prog 189 [GoT.v qF cs1] w r:=by
 obtain ⟨p1,k1,p2,k2,rfl,s1,s2⟩:=qaj ha1
 refine zV 44 Tryz.func189 rfl fun h=>zSR (qu h rfl rfl fun w1 bb1 h=>X0 4 rfl (r_v (qf3 qc [0,1] [.const (.int .i64 (0)),.const (.int .i64 (0))] rfl rfl rfl rfl rfl rfl rfl rfl rfl) rfl (r_v (qf3 qc [0,1] [.const (.int .i64 (1)),.const (.int .i64 (1))] rfl rfl rfl rfl rfl rfl rfl rfl rfl) rfl (qG qc [.tmp 5,.tmp 6] _ ([(⟨0,0⟩:qO),(⟨1,1⟩:qO)]:List qO) h rfl rfl rfl rfl rfl rfl rfl rfl rfl ⟨(qcO (⟨0,0⟩:qO)),(qcO (⟨1,1⟩:qO)),trivial⟩ rfl fun w2 p3 S1 h=>X0 4 rfl (r_v (qf3 qc [0,1] [.const (.int .i64 (0)),.const (.int .i64 (1))] rfl rfl rfl rfl rfl rfl rfl rfl rfl) rfl (r_v (qf3 qc [0,1] [.const (.int .i64 (1)),.const (.int .i64 (0))] rfl rfl rfl rfl rfl rfl rfl rfl rfl) rfl (qG qc [.tmp 8,.tmp 9] _ ([(⟨0,1⟩:qO),(⟨1,0⟩:qO)]:List qO) h rfl rfl rfl rfl rfl rfl rfl rfl rfl ⟨(qcO (⟨0,1⟩:qO)),(qcO (⟨1,0⟩:qO)),trivial⟩ rfl fun w3 p4 S2 h=>X1 11 2 h rfl (qi rfl hF ?_ ?_))))))))<;>intro hF
 ·refine zSR (r_v (qf3 qc [0,1] [.const (.int .i64 (0)),.const (.int .i64 (0))] rfl rfl rfl rfl rfl rfl rfl rfl rfl) rfl (r_v (qf3 qc [0,1] [.const (.int .i64 (0)),.const (.int .i64 (1))] rfl rfl rfl rfl rfl rfl rfl rfl rfl) rfl (qG qc [.tmp 15,.tmp 16] _ ([(⟨0,0⟩:qO),(⟨0,1⟩:qO)]:List qO) h rfl rfl rfl rfl rfl rfl rfl rfl rfl ⟨(qcO (⟨0,0⟩:qO)),(qcO (⟨0,1⟩:qO)),trivial⟩ rfl fun w4 p5 S3 h=>X0 2 rfl ?_)))
  obtain rfl:=qb hF
  exact rO 0 h rfl ⟨rfl,trivial⟩
 refine X1 7 2 h rfl (qi rfl hF ?_ ?_)<;>intro hF
 ·refine zSR (r_v (qf3 qc [0,1] [.const (.int .i64 (1)),.const (.int .i64 (0))] rfl rfl rfl rfl rfl rfl rfl rfl rfl) rfl (r_v (qf3 qc [0,1] [.const (.int .i64 (1)),.const (.int .i64 (1))] rfl rfl rfl rfl rfl rfl rfl rfl rfl) rfl (qG qc [.tmp 22,.tmp 23] _ ([(⟨1,0⟩:qO),(⟨1,1⟩:qO)]:List qO) h rfl rfl rfl rfl rfl rfl rfl rfl rfl ⟨(qcO (⟨1,0⟩:qO)),(qcO (⟨1,1⟩:qO)),trivial⟩ rfl fun w5 p6 S4 h=>X0 2 rfl ?_)))
  obtain rfl:=qb hF
  exact rO 0 h rfl ⟨rfl,trivial⟩
 refine X1 7 2 h rfl (qi rfl hF ?_ ?_)<;>intro hF
 ·refine X0 4 rfl ?_
  obtain rfl:=qb hF
  exact qak qc (ρ:=(List qO)) [GoT.v (List qO) [.slice none 0 0]] h ⟨rfl,trivial⟩ (PV.done h (qat qhH))
 refine X1 7 2 h rfl (qi rfl hF ?_ ?_)<;>intro hF
 ·refine X0 5 rfl ?_
  obtain rfl:=qb hF
  exact rO 1 h rfl ⟨rfl,trivial⟩
 refine X1 7 2 h rfl (qi rfl hF ?_ ?_)<;>intro hF
 ·refine X0 5 rfl ?_
  obtain rfl:=qb hF
  exact rO 0 h rfl ⟨rfl,trivial⟩
 refine X0 4 rfl (r_v (qf3 qc [0,1] [.const (.int .i64 (0)),.const (.int .i64 (0))] rfl rfl rfl rfl rfl rfl rfl rfl rfl) rfl (r_v (qf3 qc [0,1] [.const (.int .i64 (0)),.const (.int .i64 (1))] rfl rfl rfl rfl rfl rfl rfl rfl rfl) rfl (r_v (qf3 qc [0,1] [.const (.int .i64 (1)),.const (.int .i64 (0))] rfl rfl rfl rfl rfl rfl rfl rfl rfl) rfl (r_v (qf3 qc [0,1] [.const (.int .i64 (1)),.const (.int .i64 (1))] rfl rfl rfl rfl rfl rfl rfl rfl rfl) rfl (qG qc [.tmp 39,.tmp 40,.tmp 41,.tmp 42] _ ([(⟨0,0⟩:qO),(⟨0,1⟩:qO),(⟨1,0⟩:qO),(⟨1,1⟩:qO)]:List qO) h rfl rfl rfl rfl rfl rfl rfl rfl rfl ⟨(qcO (⟨0,0⟩:qO)),(qcO (⟨0,1⟩:qO)),(qcO (⟨1,0⟩:qO)),(qcO (⟨1,1⟩:qO)),trivial⟩ rfl fun w6 p7 S5 h=>X0 2 rfl ?_)))))
 obtain rfl:=qb hF
 exact rO 0 h rfl ⟨rfl,trivial⟩
def qbz (first:Int) (i1:Int) (y2:qF) (r1:(List qO)):Nat→(List qa6)→Int→Option ((List qa6) × Int)
 | 0,_,_=>none
 | n+1,x2,i2 =>
  bif decide (i2<(r1.length:Int)) then
   (idx r1 i2).bind fun y3 =>
   (appS x2 ([(⟨W64 ((W64 (2*(W64 (first+y2.Au))))+y3.e0),W64 ((W64 (2*(W64 (first+y2.To))))+y3.e1),1,i1⟩:qa6)]:List qa6)).bind fun x3 =>
   qbz first i1 y2 r1 n x3 (W64 (i2+1))
  else
   some (x2,i2)
def qbA (first:Int) (y1:qp):Nat→(List qa6)→Int→Option ((List qa6) × Int)
 | 0,_,_=>none
 | n+1,x1,i1 =>
  bif decide (i1<(y1.Ap.length:Int)) then
   (idx y1.Ap i1).bind fun y2 =>
   (qeV n y2).bind fun r1 =>
   (qbz first i1 y2 r1 n x1 0).bind fun o=>match o with
   | (x2,_) =>
    qbA first y1 n x2 (W64 (i1+1))
  else
   some (x1,i1)
def qeL (n:Nat) (b:qg) (x:qj) (first:Int):Option (List qa6) :=
 (idx b.Ai.Ah x.Ba).bind fun y1 =>
 (qbA first y1 n ([]:List qa6) 0).bind fun o=>match o with
 | (x1,_) =>
  some x1
theorem qkZ {b:qg} {x:qj} {first:Int} (ha1:GoT.R w (old w) b cs1) (ha2:GoT.R w (old w) x cs2) {r:(List qa6)} (hF:qeL n b x first=some r):RetV Tryz.prog 135 [GoT.v qg cs1,GoT.v qj cs2,.int .i64 first] w r:=by
 obtain ⟨p1,k1,p2,k2,p3,k3,p4,k4,p5,k5,rfl,s1,s2,s3,s4,s5⟩:=qK ha1
 obtain ⟨p6,k6,rfl,s6⟩:=qM ha2
 refine zV 57 Tryz.func135 rfl fun h=>zSR (qu h rfl rfl fun w1 bb1 h=>qu h rfl rfl fun w2 bb2 h=>X2 14 1 0 h rfl ?_)
 obtain ⟨y1,hy1,hF,he1,b1,_,q1,cs3,hp1,hq1,hr1,hc1⟩:=s1.ix hF
 obtain ⟨p7,k7,p8,k8,p9,k9,rfl,s7,s8,s9⟩:=qJ hr1
 refine zxe hp1 hq1 he1 rfl (zp1 rfl (zc 3 (hc1.below h.below) rfl (X0 3 rfl ?_)))
 replace h:=h.nil (α:=qa6)
 obtain ⟨o1,hF,hK1⟩:=qd hF
 refine qk ?_
 replace h:=h.pick [0] rfl
 refine rL (fun m e w'=>∃ (S1:Nat→Prop) (p10:Option Addr) (ln1:Nat) (k10:Nat) (x1:(List qa6)) (i1:Int),qbA first y1 m x1 i1=some o1∧e=[(2,.int .i64 first),(7,.slice p10 ln1 k10),(19,.slice p8 y1.Ap.length k8),(20,.int .i64 (y1.Ap.length:Int)),(21,.int .i64 i1)]∧SH w w' [Ch.own S1 (x1:List qa6) [.slice p10 ln1 k10]]) n ⟨_,_,_,_,_,_,hF,rfl,h⟩ rfl ?_
 rintro m1 e1 w3 ⟨S1,p10,ln1,k10,x1,i1,hF,rfl,h⟩
 obtain rfl:=(h.sl 0 rfl).2
 rcases m1 with _|m1
 ·cases hF
 refine X0 5 rfl (qi rfl hF ?_ ?_)<;>intro hF
 ·refine X0 6 rfl ?_
  obtain ⟨y2,hy2,hF,he2,b2,_,q2,cs4,hp2,hq2,hr2,hc3⟩:=s8.ix hF
  obtain ⟨p11,k11,p12,k12,rfl,s10,s11⟩:=qaj hr2
  refine zxe hp2 hq2 he2 rfl (zc 0 (hc3.below h.below) rfl (qA qc h rfl rfl rfl fun w4 bb3 h=>zp1 rfl (zs 0 h rfl fun w5 h=>X1 4 0 h rfl (zcL h hF (qkO (qgx y2 (h.oldS s10) (h.oldS s11))) rfl fun r1 w6 S2 p13 k13 h hF=>X0 3 rfl ?_))))
  obtain ⟨o2,hF,hK2⟩:=qd hF
  refine qk (rL (fun m e w'=>∃ (S3:Nat→Prop) (p14:Option Addr) (ln2:Nat) (k14:Nat) (x2:(List qa6)) (i2:Int),qbz first i1 y2 r1 m x2 i2=some o2∧e=[(2,.int .i64 first),(7,.slice p14 ln2 k14),(8,.int .i64 i1),(9,.pointer (some ⟨bb3,0,none⟩)),(19,.slice p8 y1.Ap.length k8),(20,.int .i64 (y1.Ap.length:Int)),(21,.int .i64 i1),(27,.slice p13 r1.length k13),(28,.int .i64 (r1.length:Int)),(29,.int .i64 i2)]∧SH w w' [Ch.own S2 (r1:List qO) [.slice p13 r1.length k13],Ch.box bb3 (qlm y2 p11 p12 k11 k12) 206,Ch.own S3 (x2:List qa6) [.slice p14 ln2 k14]]) m1 ⟨_,_,_,_,_,_,hF,rfl,h⟩ rfl ?_)
  rintro m2 e2 w7 ⟨S3,p14,ln2,k14,x2,i2,hF,rfl,h⟩
  obtain rfl:=(h.sl 2 rfl).2
  rcases m2 with _|m2
  ·cases hF
  refine X0 5 rfl (qi rfl hF ?_ ?_)<;>intro hF
  ·refine zKSBSR ?_
   obtain ⟨y3,hy3,hF,he3,b3,_,q3,cs5,hp3,hq3,hr4,hc5⟩:=(h.sl 0 rfl).1.ix hF
   obtain rfl:=qrm hr4
   refine zx hp3 hq3 ⟨he3.1,qx he3.2.1 (h.sl 0 rfl).2⟩ rfl (zc 0 hc5 rfl (qA qc h rfl rfl rfl fun w8 bb4 h=>zs 0 h rfl fun w9 h=>X1 8 2 h rfl (r_v (qw4 (iv:=0) qc rfl rfl (by decide) ⟨rfl,rfl⟩ rfl rfl) rfl (X2 7 0 2 h rfl (r_v (qw4 (iv:=1) qc rfl rfl (by decide) ⟨rfl,rfl⟩ rfl rfl) rfl (X1 3 0 h rfl (r_v (qgI qc [0,1,2,3] [.tmp 41,.tmp 49,.const (.int .i64 (1)),.tmp 50] rfl rfl rfl rfl rfl rfl rfl rfl) rfl (qG qc [.tmp 51] _ ([(⟨W64 ((W64 (2*(W64 (first+y2.Au))))+y3.e0),W64 ((W64 (2*(W64 (first+y2.To))))+y3.e1),1,i1⟩:qa6)]:List qa6) h rfl rfl rfl rfl rfl rfl rfl rfl rfl ⟨(qqG (⟨W64 ((W64 (2*(W64 (first+y2.Au))))+y3.e0),W64 ((W64 (2*(W64 (first+y2.To))))+y3.e1),1,i1⟩:qa6)),trivial⟩ rfl fun w10 p15 S4 h=>?_))))))))
   obtain ⟨x3,hx1,hF⟩:=qd hF
   obtain ⟨g1,hx1⟩:=qae hx1
   refine qcg qc 4 h rfl (h.sl 0 rfl).1 (h.sl 0 rfl).2 rfl rfl rfl rfl rfl rfl rfl rfl rfl g1 hx1 rfl fun w11 p16 k15 S5 h=>X0 7 rfl ?_
   replace h:=h.pick [2,3,4] rfl
   exact rK ⟨_,_,_,_,_,_,hF,rfl,h⟩ rfl
  refine qm rfl ?_
  obtain rfl:=qb hF;replace hF:=hK2
  refine X0 5 rfl ?_
  replace h:=h.pick [2] rfl
  exact rK ⟨_,_,_,_,_,_,hF,rfl,h⟩ rfl
 refine qm rfl ?_
 obtain rfl:=qb hF;replace hF:=hK1
 refine X0 5 rfl ?_
 obtain rfl:=qb hF
 exact rO 0 h rfl ⟨rfl,trivial⟩
def qcX (_:Nat) (s:(List Int)):Option (List Int) :=
 appS ([]:List Int) s
theorem qia {s:(List Int)} (ha1:GoT.R w (old w) s cs1) {r:(List Int)} (hF:qcX n s=some r):RetV Tryz.prog 163 [GoT.v (List Int) cs1] w r:=by
 obtain ⟨p,k,rfl,s1⟩:=ha1
 obtain ⟨g1,hx⟩:=qae (show appS ([]:List Int) s=some r from hF)
 cases p with
 | none =>
  obtain rfl:=qrH s1
  obtain rfl:[]=r:=hx
  exact zV 8 Tryz.func163 rfl fun h=>X0 8 rfl (r_v (qrw qc rfl rfl rfl rfl rfl) rfl (qcw (qes rfl rfl (X0 4 rfl (qak qc (ρ:=(List Int)) [GoT.v (List Int) [.slice none 0 0]] h ⟨rfl,trivial⟩ (PV.done h (qat qhH)))))))
 | some a =>
  refine zV 8 Tryz.func163 rfl fun h=>X0 8 rfl (r_v (qrw qc rfl rfl rfl rfl rfl) rfl (qcw (qbK rfl rfl (zKSR (qG qc [] _ ([]:List Int) h rfl rfl rfl rfl rfl rfl rfl rfl rfl trivial rfl fun w1 p1 S1 h=>zp1 rfl (qok qc 0 h rfl (h.oldS s1) rfl rfl rfl rfl rfl rfl rfl rfl rfl rfl g1 rfl fun w2 p2 k2 S2 h=>?_))))))
  rw [hx] at h
  exact X0 2 rfl (qak qc (ρ:=(List Int)) [GoT.v (List Int) [.slice p2 (([]:List Int).length+s.length) k2]] h ⟨rfl,trivial⟩ (PV.done h (qat (qay 0 h rfl))))
def qaQ (net:Int) (r1:(List Tplace)):Nat→(List Int)→Int→Option ((List Int) × Int)
 | 0,_,_=>none
 | n+1,x1,i1 =>
  bif decide (i1<(r1.length:Int)) then
   (idx r1 i1).bind fun y1 =>
   bif (y1.net==net) then
    bif (!y1.drives) then
     (appS x1 ([i1]:List Int)).bind fun x2 =>
     qaQ net r1 n x2 (W64 (i1+1))
    else
     qaQ net r1 n x1 (W64 (i1+1))
   else
    qaQ net r1 n x1 (W64 (i1+1))
  else
   some (x1,i1)
def qgf (n:Nat) (d:qf) (net:Int):Option (List Int) :=
 (qce n d).bind fun r1 =>
 (qaQ net r1 n ([]:List Int) 0).bind fun o=>match o with
 | (x1,_) =>
  some x1
theorem qlC {d:qf} {net:Int} (ha1:GoT.R w (old w) d cs1) {r:(List Int)} (hF:qgf n d net=some r):RetV Tryz.prog 190 [GoT.v qf cs1,.int .i64 net] w r:=by
 obtain ⟨p1,k1,p2,k2,p3,k3,rfl,s1,s2,s3⟩:=qag ha1
 refine zV 31 Tryz.func190 rfl fun h=>zSR (qu h rfl rfl fun w1 bb1 h=>X1 10 0 h rfl (zcL h hF (qet (h.old ha1)) rfl fun r1 w2 S1 p4 k4 h hF=>X0 3 rfl ?_))
 replace h:=h.nil (α:=Int)
 obtain ⟨o1,hF,hK1⟩:=qd hF
 refine qk ?_
 replace h:=h.pick [0,1] rfl
 refine rL (fun m e w'=>∃ (S2:Nat→Prop) (p5:Option Addr) (ln1:Nat) (k5:Nat) (x1:(List Int)) (i1:Int),qaQ net r1 m x1 i1=some o1∧e=[(1,.int .i64 net),(5,.slice p5 ln1 k5),(9,.slice p4 r1.length k4),(10,.int .i64 (r1.length:Int)),(11,.int .i64 i1)]∧SH w w' [Ch.own S2 (x1:List Int) [.slice p5 ln1 k5],Ch.own S1 (r1:List Tplace) [.slice p4 r1.length k4]]) n ⟨_,_,_,_,_,_,hF,rfl,h⟩ rfl ?_
 rintro m1 e1 w3 ⟨S2,p5,ln1,k5,x1,i1,hF,rfl,h⟩
 obtain rfl:=(h.sl 0 rfl).2
 rcases m1 with _|m1
 ·cases hF
 refine X0 5 rfl (qi rfl hF ?_ ?_)<;>intro hF
 ·refine X0 6 rfl ?_
  obtain ⟨y1,hy1,hF,he1,b1,_,q1,cs2,hp1,hq1,hr2,hc2⟩:=(h.sl 1 rfl).1.ix hF
  obtain rfl:=qcs hr2
  refine zx hp1 hq1 ⟨he1.1,qx he1.2.1 (h.sl 1 rfl).2⟩ rfl (zc 0 hc2 rfl (qA qc h rfl rfl rfl fun w4 bb2 h=>zp1 rfl (zs 0 h rfl fun w5 h=>X1 8 0 h rfl (ql (t:=20) hF rfl ?_ ?_))))<;>intro hF
  ·refine X1 8 0 h rfl (qi rfl hF ?_ ?_)<;>intro hF
   ·refine X0 3 rfl (qG qc [.tmp 26] _ ([i1]:List Int) h rfl rfl rfl rfl rfl rfl rfl rfl rfl ⟨rfl,trivial⟩ rfl fun w6 p6 S3 h=>?_)
    obtain ⟨x2,hx1,hF⟩:=qd hF
    obtain ⟨g1,hx1⟩:=qae hx1
    refine qcg qc 2 h rfl (h.sl 0 rfl).1 (h.sl 0 rfl).2 rfl rfl rfl rfl rfl rfl rfl rfl rfl g1 hx1 rfl fun w7 p7 k6 S4 h=>X0 7 rfl ?_
    replace h:=h.pick [2,3] rfl
    exact rK ⟨_,_,_,_,_,_,hF,rfl,h⟩ rfl
   refine X0 6 rfl ?_
   replace h:=h.pick [1,2] rfl
   exact rK ⟨_,_,_,_,_,_,hF,rfl,h⟩ rfl
  refine X0 5 rfl (qbK rfl rfl (X0 6 rfl ?_))
  replace h:=h.pick [1,2] rfl
  exact rK ⟨_,_,_,_,_,_,hF,rfl,h⟩ rfl
 refine qm rfl ?_
 obtain rfl:=qb hF;replace hF:=hK1
 refine X0 5 rfl ?_
 obtain rfl:=qb hF
 exact rO 0 h rfl ⟨rfl,trivial⟩
def qgk (_:Nat) (d:qf) (l:qn) (p:Tplace):Option Int :=
 bif decide (p.instance_<0) then some 0 else
 (idx d.Aa p.instance_).bind fun y1 =>
 (idx l.Ah y1.Ba).bind fun y2 =>
 (idx y2.Am p.pin).bind fun y3 =>
 some y3.Bk
theorem qlL {d:qf} {l:qn} {p:Tplace} (ha1:GoT.R w (old w) d cs1) (ha2:GoT.R w (old w) l cs2) (ha3:GoT.R w (old w) p cs3) {r:Int} (hF:qgk n d l p=some r):RetV Tryz.prog 191 [GoT.v qf cs1,GoT.v qn cs2,GoT.v Tplace cs3] w r:=by
 obtain ⟨p1,k1,p2,k2,p3,k3,rfl,s1,s2,s3⟩:=qag ha1
 obtain ⟨p4,k4,rfl,s4⟩:=qa7 ha2
 obtain rfl:=qcs ha3
 refine zV 27 Tryz.func191 rfl fun h=>zSR (qu h rfl rfl fun w1 bb1 h=>qu h rfl rfl fun w2 bb2 h=>qu h rfl rfl fun w3 bb3 h=>X1 9 0 h rfl (qi rfl hF ?_ ?_))<;>intro hF
 ·exact X0 4 rfl (ri h hF rfl)
 refine zKS (rD (Y1 2 1 h rfl ?_))
 refine Y1 2 2 h rfl ?_
 refine Y1 2 0 h rfl ?_
 obtain ⟨y1,hy1,hF,he1,b1,_,q1,cs4,hp1,hq1,hr1,hc2⟩:=s1.ix hF
 obtain ⟨p5,k5,rfl,s5⟩:=qM hr1
 refine zdxe hp1 hq1 he1 rfl (zd1 rfl (zdc 1 (hc2.below h.below) rfl ?_))
 obtain ⟨y2,hy2,hF,he2,b2,_,q2,cs5,hp2,hq2,hr2,hc3⟩:=s4.ix hF
 obtain ⟨p6,k6,p7,k7,p8,k8,rfl,s6,s7,s8⟩:=qJ hr2
 refine zdxe hp2 hq2 he2 rfl (zd1 rfl (zdc 2 (hc3.below h.below) rfl (Y1 2 0 h rfl ?_)))
 obtain ⟨y3,hy3,hF,he3,b3,_,q3,cs6,hp3,hq3,hr3,hc4⟩:=s6.ix hF
 obtain rfl:=qaF hr3
 exact zdxe hp3 hq3 he3 rfl (zd1 rfl (zdc 2 (hc4.below h.below) rfl (zd1 rfl (dN h fun w4 h=>ri h hF rfl))))
def qbC (y1:qB):Nat→(List Int)→Int→Option ((List Int) × Int)
 | 0,_,_=>none
 | n+1,x2,i2 =>
  bif decide (i2 > 0) then
   (idx y1.Ak i2).bind fun y7 =>
   (idx x2 y7).bind fun y8 =>
   (idx x2 i2).bind fun y9 =>
   (idx x2 y7).bind fun _ =>
   qbC y1 n (setS x2 y7 (W64 (y8+y9))) (W64 (i2-1))
  else
   some (x2,i2)
def qbB (a_0:qg) (y1:qB) (r2:(List Tplace)) (r3:(List Int)):Nat→(List Int)→Int→Option ((List Int) × Int)
 | 0,_,_=>none
 | n+1,x1,i1 =>
  bif decide (i1<(r3.length:Int)) then
   (idx r3 i1).bind fun y2 =>
   (idx y1.Bf i1).bind fun y3 =>
   (idx x1 y3).bind fun y4 =>
   (idx r2 y2).bind fun y5 =>
   (qgk n (⟨a_0.Ab.Aa,a_0.Ab.Af,a_0.Ab.Ac⟩:qf) (⟨a_0.Ai.Ah⟩:qn) y5).bind fun r4 =>
   (idx x1 y3).bind fun _ =>
   qbB a_0 y1 r2 r3 n (setS x1 y3 (W64 (y4+r4))) (W64 (i1+1))
  else
   some (x1,i1)
def qde (n:Nat) (a_0:qg) (a_1:Int):Option (List Int) :=
 (idx a_0.Aj a_1).bind fun y1 =>
 (qcX n y1.Bk).bind fun r1 =>
 (qce n (⟨a_0.Ab.Aa,a_0.Ab.Af,a_0.Ab.Ac⟩:qf)).bind fun r2 =>
 (qgf n (⟨a_0.Ab.Aa,a_0.Ab.Af,a_0.Ab.Ac⟩:qf) a_1).bind fun r3 =>
 (qbB a_0 y1 r2 r3 n r1 0).bind fun o=>match o with
 | (x1,_) =>
  (qbC y1 n x1 (W64 ((r1.length:Int)-1))).bind fun o=>match o with
  | (x2,_) =>
   some x2
theorem qfC {a_0:qg} {a_1:Int} (ha1:GoT.R w (old w) a_0 cs1) {r:(List Int)} (hF:qde n a_0 a_1=some r):RetV Tryz.prog 136 [GoT.v qg cs1,.int .i64 a_1] w r:=by
 obtain ⟨p1,k1,p2,k2,p3,k3,p4,k4,p5,k5,rfl,s1,s2,s3,s4,s5⟩:=qK ha1
 refine zV 74 Tryz.func136 rfl fun h=>zSR (qu h rfl rfl fun w1 bb1 h=>X1 7 0 h rfl ?_)
 obtain ⟨y1,hy1,hF,he1,b1,_,q1,cs2,hp1,hq1,hr1,hc1⟩:=s5.ix hF
 obtain ⟨p6,k6,p7,k7,p8,k8,p9,k9,rfl,s6,s7,s8,s9⟩:=qbe hr1
 refine zxe hp1 hq1 he1 rfl (zc 0 (hc1.below h.below) rfl (qA qc h rfl rfl rfl fun w2 bb2 h=>zs 0 h rfl fun w3 h=>X1 5 0 h rfl (zcL h hF (qia ⟨_,_,rfl,(h.oldS s8)⟩) rfl fun r1 w4 S1 p10 k10 h hF=>X1 6 2 h rfl (zcL h hF (qet (qaz _ (h.oldS s2) (h.oldS s3) (h.oldS s4))) rfl fun r2 w5 S2 p11 k11 h hF=>X1 8 3 h rfl (zcL h hF (qlC (qaz _ (h.oldS s2) (h.oldS s3) (h.oldS s4))) rfl fun r3 w6 S3 p12 k12 h hF=>X0 3 rfl ?_)))))
 obtain ⟨o1,hF,hK1⟩:=qd hF
 refine qk (rL (fun m e w'=>∃ (x1:(List Int)) (i1:Int),qbB a_0 y1 r2 r3 m x1 i1=some o1∧e=[(2,.pointer (some ⟨bb1,0,none⟩)),(5,.pointer (some ⟨bb2,0,none⟩)),(6,.slice p10 r1.length k10),(7,.slice p11 r2.length k11),(25,.slice p12 r3.length k12),(26,.int .i64 (r3.length:Int)),(27,.int .i64 i1)]∧SH w w' [Ch.own S3 (r3:List Int) [.slice p12 r3.length k12],Ch.own S2 (r2:List Tplace) [.slice p11 r2.length k11],Ch.own S1 (x1:List Int) [.slice p10 r1.length k10],Ch.box bb2 (qh2 y1 p6 p7 p8 p9 k6 k7 k8 k9) 148,Ch.box bb1 (qal a_0 p1 p2 p3 p4 p5 k1 k2 k3 k4 k5) 34]) n ⟨_,_,hF,rfl,h⟩ rfl ?_)
 rintro m1 e1 w7 ⟨x1,i1,hF,rfl,h⟩
 rcases m1 with _|m1
 ·cases hF
 refine X0 5 rfl (qi rfl hF ?_ ?_)<;>intro hF
 ·refine X0 6 rfl ?_
  obtain ⟨y2,hy2,hF,he2,b2,_,q2,cs3,hp2,hq2,rfl,hc3⟩:=(h.sl 0 rfl).1.ix hF
  refine zx hp2 hq2 ⟨he2.1,qx he2.2.1 (h.sl 0 rfl).2⟩ rfl (zc 0 hc3 rfl (X0 3 rfl (rA [19] [1,2,3,4] h rfl fun w8 h=>M1 15 [0,1,2,3] 2 (h.pick [1,2,3,4] rfl) rfl ?_)))
  obtain ⟨y3,hy3,hF,he3,b3,_,q3,cs4,hp3,hq3,rfl,hc4⟩:=s9.ix hF
  refine Ae 4 31 hp3 hq3 he3 (h.pick [1,2,3,4] rfl) rfl (Al 5 63 0 hc4 (h.pick [1,2,3,4] rfl) rfl ?_)
  obtain ⟨y4,hy4,hF,he4,b4,_,q4,cs5,hp4,hq4,rfl,hc5⟩:=(h.sl 2 rfl).1.ix hF
  refine Ax 6 127 hp4 hq4 ⟨he4.1,qx he4.2.1 (h.sl 2 rfl).2⟩ (h.pick [1,2,3,4] rfl) rfl (Aw 7 255 (fun w' hw=>qim qc (qcJ (w1:=w) (S1:=fun _=>False) hw 1 rfl hy4 hp4 hq4 rfl) (j:=0) rfl rfl rfl) (h.pick [1,2,3,4] rfl) rfl ?_)
  refine M2 16383 [8,9,10,11,12,13] 3 3 (h.pick [1,2,3,4] rfl) rfl ?_
  obtain ⟨y5,hy5,hF,he5,b5,_,q5,cs6,hp5,hq5,hr8,hc6⟩:=(h.sl 1 rfl).1.ix hF
  obtain rfl:=qcs hr8
  refine Ax 14 32767 hp5 hq5 ⟨he5.1,qx he5.2.1 (h.sl 1 rfl).2⟩ (h.pick [1,2,3,4] rfl) rfl (Aw 15 65535 (fun w' hw=>qim qc (qcJ hw 0 rfl hy5 hp5 hq5 (qhl (w:=w) (S:=fun _=>False) y5)) (j:=0) rfl rfl rfl) (h.pick [1,2,3,4] rfl) rfl ?_)
  refine Ao 16 131071 rfl (zcI h hF (qlL (qaz _ (h.oldS s2) (h.oldS s3) (h.oldS s4)) (qb9 _ (h.oldS s1)) (qhl y5)) rfl fun r4 w9 h hF=>G0 262143 [17] (h.pick [1,2,3,4] rfl) rfl ?_)
  obtain ⟨y6,hy6,hF,he6,b6,_,q6,cs7,hp6,hq6,rfl,hc7⟩:=(h.sl 2 rfl).1.ix hF
  exact Ax 18 524287 hp6 hq6 ⟨he6.1,qx he6.2.1 (h.sl 2 rfl).2⟩ (h.pick [1,2,3,4] rfl) rfl (Ao 19 1048575 rfl (qaX qc 2 0 (W64 (y4+r4)) h rfl hy6 hp6 hq6 rfl hc7 rfl rfl rfl rfl rfl rfl rfl fun w10 h=>qh3 (fun hs=>absurd (hs 19 (by decide)) (by decide)) (Ad (X0 5 rfl (rK ⟨_,_,hF,rfl,h⟩ rfl)))))
 refine qm rfl ?_
 obtain rfl:=qb hF;replace hF:=hK1
 refine X0 8 rfl ?_
 obtain ⟨o2,hF,hK2⟩:=qd hF
 refine qk ?_
 replace h:=h.pick [2,3] rfl
 refine rL (fun m e w'=>∃ (x2:(List Int)) (i2:Int),qbC y1 m x2 i2=some o2∧e=[(5,.pointer (some ⟨bb2,0,none⟩)),(6,.slice p10 r1.length k10),(10,.int .i64 i2)]∧SH w w' [Ch.own S1 (x2:List Int) [.slice p10 r1.length k10],Ch.box bb2 (qh2 y1 p6 p7 p8 p9 k6 k7 k8 k9) 148]) n ⟨_,_,hF,rfl,h⟩ rfl ?_
 rintro m2 e2 w11 ⟨x2,i2,hF,rfl,h⟩
 rcases m2 with _|m2
 ·cases hF
 refine X0 6 rfl (qi rfl hF ?_ ?_)<;>intro hF
 ·refine zKSB (rA [14] [0,1] h rfl fun w12 h=>M1 15 [0,1,2,3] 1 (h.pick [0,1] rfl) rfl ?_)
  obtain ⟨y7,hy7,hF,he7,b7,_,q7,cs8,hp7,hq7,rfl,hc9⟩:=s6.ix hF
  refine Ae 4 31 hp7 hq7 he7 (h.pick [0,1] rfl) rfl (Al 5 63 0 hc9 (h.pick [0,1] rfl) rfl ?_)
  obtain ⟨y8,hy8,hF,he8,b8,_,q8,cs9,hp8,hq8,rfl,hc10⟩:=(h.sl 0 rfl).1.ix hF
  refine Ax 6 127 hp8 hq8 ⟨he8.1,qx he8.2.1 (h.sl 0 rfl).2⟩ (h.pick [0,1] rfl) rfl (Aw 7 255 (fun w' hw=>qim qc (qcJ (w1:=w) (S1:=fun _=>False) hw 0 rfl hy8 hp8 hq8 rfl) (j:=0) rfl rfl rfl) (h.pick [0,1] rfl) rfl ?_)
  refine M0 1023 [8,9] (h.pick [0,1] rfl) rfl ?_
  obtain ⟨y9,hy9,hF,he9,b9,_,q9,cs10,hp9,hq9,rfl,hc11⟩:=(h.sl 0 rfl).1.ix hF
  refine Ax 10 2047 hp9 hq9 ⟨he9.1,qx he9.2.1 (h.sl 0 rfl).2⟩ (h.pick [0,1] rfl) rfl (Aw 11 4095 (fun w' hw=>qim qc (qcJ (w1:=w) (S1:=fun _=>False) hw 0 rfl hy9 hp9 hq9 rfl) (j:=0) rfl rfl rfl) (h.pick [0,1] rfl) rfl ?_)
  refine M0 8191 [12] (h.pick [0,1] rfl) rfl ?_
  obtain ⟨y10,hy10,hF,he10,b10,_,q10,cs11,hp10,hq10,rfl,hc12⟩:=(h.sl 0 rfl).1.ix hF
  exact Ax 13 16383 hp10 hq10 ⟨he10.1,qx he10.2.1 (h.sl 0 rfl).2⟩ (h.pick [0,1] rfl) rfl (Ao 14 32767 rfl (qaX qc 0 0 (W64 (y8+y9)) h rfl hy10 hp10 hq10 rfl hc12 rfl rfl rfl rfl rfl rfl rfl fun w13 h=>qh3 (fun hs=>absurd (hs 14 (by decide)) (by decide)) (Ad (X0 6 rfl (rK ⟨_,_,hF,rfl,h⟩ rfl)))))
 refine qm rfl ?_
 obtain rfl:=qb hF;replace hF:=hK2
 refine X0 5 rfl ?_
 obtain rfl:=qb hF
 exact rO 0 h rfl ⟨rfl,trivial⟩
def qbo (y1:qB) (r1:(List Int)) (x1:(List Int)):Nat→(List Int)→Int→Option ((List Int) × Int)
 | 0,_,_=>none
 | n+1,x2,i1 =>
  bif decide (i1<(x1.length:Int)) then
   (idx y1.Ak i1).bind fun y2 =>
   (idx x2 y2).bind fun y3 =>
   (idx y1.Bn i1).bind fun y4 =>
   (idx r1 i1).bind fun y5 =>
   (idx x2 i1).bind fun _ =>
   qbo y1 r1 x1 n (setS x2 i1 (W64 (y3+(W64 (y4*y5))))) (W64 (i1+1))
  else
   some (x2,i1)
def qgc (n:Nat) (b:qg) (net:Int):Option (List Int) :=
 (idx b.Aj net).bind fun y1 =>
 (qde n b net).bind fun r1 =>
 (mkS (r1.length:Int) (0:Int)).bind fun x1 =>
 (qbo y1 r1 x1 n x1 1).bind fun o=>match o with
 | (x2,_) =>
  some x2
theorem qks {b:qg} {net:Int} (ha1:GoT.R w (old w) b cs1) {r:(List Int)} (hF:qgc n b net=some r):RetV Tryz.prog 192 [GoT.v qg cs1,.int .i64 net] w r:=by
 obtain ⟨p1,k1,p2,k2,p3,k3,p4,k4,p5,k5,rfl,s1,s2,s3,s4,s5⟩:=qK ha1
 refine zV 49 Tryz.func192 rfl fun h=>zSR (qu h rfl rfl fun w1 bb1 h=>X0 3 rfl (rA [] [0] h rfl fun w2 h=>M1 7 [0,1,2] 0 (h.pick [0] rfl) rfl ?_))
 obtain ⟨y1,hy1,hF,he1,b1,_,q1,cs2,hp1,hq1,hr1,hc1⟩:=s5.ix hF
 obtain ⟨p6,k6,p7,k7,p8,k8,p9,k9,rfl,s6,s7,s8,s9⟩:=qbe hr1
 refine Ae 3 15 hp1 hq1 he1 (h.pick [0] rfl) rfl (Al 4 31 0 hc1 (h.pick [0] rfl) rfl (M1 127 [5,6] 0 (h.pick [0] rfl) rfl ?_))
 obtain ⟨r1,hr2,hF⟩:=qd hF
 refine qtM (fun e w'=>∃ (bb6:Nat) (S5:Nat→Prop) (p14:Option Addr) (k14:Nat),e=[(5,.pointer (some ⟨bb6,0,none⟩)),(6,.slice p14 r1.length k14)]∧SH w w' [Ch.box bb6 (qh2 y1 p6 p7 p8 p9 k6 k7 k8 k9) 148,Ch.own S5 (r1:List Int) [.slice p14 r1.length k14],Ch.box bb1 (qal b p1 p2 p3 p4 p5 k1 k2 k3 k4 k5) 34]) 0 (bits 11 2047) ?_ ?_
 ·intro K
  refine At 7 8 255 383 rfl ?_ ?_
  ·exact qq7 r1 h (cB 136 rfl) (qfC (h.old ha1) hr2) rfl rfl rfl rfl fun w10 S4 p13 k13 h=>Ag (h.pick [1] rfl) (Ao 8 511 rfl (qA qc h rfl rfl rfl fun w11 bb5 h=>Ag (h.pick [2] rfl) (Ao 9 1023 rfl (zs 0 h rfl fun w12 h=>G0 2047 [10] (h.pick [2] rfl) rfl (qtE [(5,_),(6,_)] ⟨rfl,rfl,trivial⟩ (K _ _ ⟨_,_,_,_,rfl,h⟩))))))
  refine qA qc h rfl rfl rfl fun w10 bb5 h=>Ag (h.pick [1] rfl) (Ao 7 511 rfl (qq7 r1 h (cB 136 rfl) (qfC (h.old ha1) hr2) rfl rfl rfl rfl fun w11 S4 p13 k13 h=>Ag (h.pick [2] rfl) (Ao 9 1023 rfl (zs 1 h rfl fun w12 h=>G0 2047 [10] (h.pick [2] rfl) rfl ?_))))
  replace h:=h.pick [1,0,2] rfl
  exact qtE [(5,_),(6,_)] ⟨rfl,rfl,trivial⟩ (K _ _ ⟨_,_,_,_,rfl,h⟩)
 rintro e2 w13 ⟨bb6,S5,p14,k14,rfl,h⟩
 refine Ad (X0 4 rfl ?_)
 obtain ⟨x1,hx1,hF⟩:=qd hF
 obtain ⟨g1,g2,hx1⟩:=qb3 hx1
 refine qc9 qc Int h rfl rfl rfl rfl rfl rfl rfl rfl rfl g1 g2 hx1 rfl fun w14 S6 p15 h=>X0 7 rfl ?_
 obtain ⟨o1,hF,hK1⟩:=qd hF
 refine qk ?_
 replace h:=h.pick [0,1,2] rfl
 refine rL (fun m e w'=>∃ (x2:(List Int)) (i1:Int),qbo y1 r1 x1 m x2 i1=some o1∧e=[(5,.pointer (some ⟨bb6,0,none⟩)),(6,.slice p14 r1.length k14),(7,.slice p15 x1.length x1.length),(8,.int .i64 i1)]∧SH w w' [Ch.own S6 (x2:List Int) [.slice p15 x1.length x1.length],Ch.box bb6 (qh2 y1 p6 p7 p8 p9 k6 k7 k8 k9) 148,Ch.own S5 (r1:List Int) [.slice p14 r1.length k14]]) n ⟨_,_,hF,rfl,h⟩ rfl ?_
 rintro m1 e3 w15 ⟨x2,i1,hF,rfl,h⟩
 rcases m1 with _|m1
 ·cases hF
 refine X0 8 rfl (qi rfl hF ?_ ?_)<;>intro hF
 ·refine zKSB (rA [22] [0,1,2] h rfl fun w16 h=>M1 63 [0,1,2,3,4,5] 1 (h.pick [0,1,2] rfl) rfl ?_)
  obtain ⟨y2,hy2,hF,he2,b2,_,q2,cs3,hp2,hq2,rfl,hc3⟩:=s6.ix hF
  refine Ae 6 127 hp2 hq2 he2 (h.pick [0,1,2] rfl) rfl (Al 7 255 0 hc3 (h.pick [0,1,2] rfl) rfl ?_)
  obtain ⟨y3,hy3,hF,he3,b3,_,q3,cs4,hp3,hq3,rfl,hc4⟩:=(h.sl 0 rfl).1.ix hF
  refine Ax 8 511 hp3 hq3 ⟨he3.1,qx he3.2.1 (h.sl 0 rfl).2⟩ (h.pick [0,1,2] rfl) rfl (Aw 9 1023 (fun w' hw=>qim qc (qcJ (w1:=w) (S1:=fun _=>False) hw 0 rfl hy3 hp3 hq3 rfl) (j:=0) rfl rfl rfl) (h.pick [0,1,2] rfl) rfl ?_)
  refine M1 8191 [10,11,12] 1 (h.pick [0,1,2] rfl) rfl ?_
  obtain ⟨y4,hy4,hF,he4,b4,_,q4,cs5,hp4,hq4,rfl,hc5⟩:=s7.ix hF
  refine Ae 13 16383 hp4 hq4 he4 (h.pick [0,1,2] rfl) rfl (Al 14 32767 0 hc5 (h.pick [0,1,2] rfl) rfl (M0 131071 [15,16] (h.pick [0,1,2] rfl) rfl ?_))
  obtain ⟨y5,hy5,hF,he5,b5,_,q5,cs6,hp5,hq5,rfl,hc6⟩:=(h.sl 2 rfl).1.ix hF
  refine Ax 17 262143 hp5 hq5 ⟨he5.1,qx he5.2.1 (h.sl 2 rfl).2⟩ (h.pick [0,1,2] rfl) rfl (Aw 18 524287 (fun w' hw=>qim qc (qcJ (w1:=w) (S1:=fun _=>False) hw 2 rfl hy5 hp5 hq5 rfl) (j:=0) rfl rfl rfl) (h.pick [0,1,2] rfl) rfl ?_)
  refine M0 2097151 [19,20] (h.pick [0,1,2] rfl) rfl ?_
  obtain ⟨y6,hy6,hF,he6,b6,_,q6,cs7,hp6,hq6,rfl,hc7⟩:=(h.sl 0 rfl).1.ix hF
  exact Ax 21 4194303 hp6 hq6 ⟨he6.1,qx he6.2.1 (h.sl 0 rfl).2⟩ (h.pick [0,1,2] rfl) rfl (Ao 22 8388607 rfl (qaX qc 0 0 (W64 (y3+(W64 (y4*y5)))) h rfl hy6 hp6 hq6 rfl hc7 rfl rfl rfl rfl rfl rfl rfl fun w17 h=>qh3 (fun hs=>absurd (hs 22 (by decide)) (by decide)) (Ad (X0 6 rfl (rK ⟨_,_,hF,rfl,h⟩ rfl)))))
 refine qm rfl ?_
 obtain rfl:=qb hF;replace hF:=hK1
 refine X0 5 rfl ?_
 obtain rfl:=qb hF
 exact rO 0 h rfl ⟨rfl,trivial⟩
def qbd (r1:(List Int)) (y1:qB):Nat→(List Int)→Int→Option ((List Int) × Int)
 | 0,_,_=>none
 | n+1,x1,i1 =>
  bif decide (i1<(y1.Bf.length:Int)) then
   (idx y1.Bf i1).bind fun y2 =>
   (idx r1 y2).bind fun y3 =>
   (appS x1 ([y3]:List Int)).bind fun x2 =>
   qbd r1 y1 n x2 (W64 (i1+1))
  else
   some (x1,i1)
def qdS (n:Nat) (b:qg) (net:Int):Option (List Int) :=
 (qgc n b net).bind fun r1 =>
 (idx b.Aj net).bind fun y1 =>
 (qbd r1 y1 n ([]:List Int) 0).bind fun o=>match o with
 | (x1,_) =>
  some x1
theorem qj7 {b:qg} {net:Int} (ha1:GoT.R w (old w) b cs1) {r:(List Int)} (hF:qdS n b net=some r):RetV Tryz.prog 137 [GoT.v qg cs1,.int .i64 net] w r:=by
 obtain ⟨p1,k1,p2,k2,p3,k3,p4,k4,p5,k5,rfl,s1,s2,s3,s4,s5⟩:=qK ha1
 refine zV 32 Tryz.func137 rfl fun h=>zSR (qu h rfl rfl fun w1 bb1 h=>X1 6 0 h rfl (zcL h hF (qks (h.old ha1)) rfl fun r1 w2 S1 p6 k6 h hF=>X1 12 1 h rfl ?_))
 obtain ⟨y1,hy1,hF,he1,b1,_,q1,cs2,hp1,hq1,hr2,hc1⟩:=s5.ix hF
 obtain ⟨p7,k7,p8,k8,p9,k9,p10,k10,rfl,s6,s7,s8,s9⟩:=qbe hr2
 refine zxe hp1 hq1 he1 rfl (zp1 rfl (zc 3 (hc1.below h.below) rfl (X0 3 rfl ?_)))
 replace h:=h.nil (α:=Int)
 obtain ⟨o1,hF,hK1⟩:=qd hF
 refine qk ?_
 replace h:=h.pick [0,1] rfl
 refine rL (fun m e w'=>∃ (S2:Nat→Prop) (p11:Option Addr) (ln1:Nat) (k11:Nat) (x1:(List Int)) (i1:Int),qbd r1 y1 m x1 i1=some o1∧e=[(5,.slice p6 r1.length k6),(6,.slice p11 ln1 k11),(17,.slice p10 y1.Bf.length k10),(18,.int .i64 (y1.Bf.length:Int)),(19,.int .i64 i1)]∧SH w w' [Ch.own S2 (x1:List Int) [.slice p11 ln1 k11],Ch.own S1 (r1:List Int) [.slice p6 r1.length k6]]) n ⟨_,_,_,_,_,_,hF,rfl,h⟩ rfl ?_
 rintro m1 e1 w3 ⟨S2,p11,ln1,k11,x1,i1,hF,rfl,h⟩
 obtain rfl:=(h.sl 0 rfl).2
 rcases m1 with _|m1
 ·cases hF
 refine X0 5 rfl (qi rfl hF ?_ ?_)<;>intro hF
 ·refine zKSBSR ?_
  obtain ⟨y2,hy2,hF,he2,b2,_,q2,cs3,hp2,hq2,rfl,hc3⟩:=s9.ix hF
  refine zxe hp2 hq2 he2 rfl (zc 0 (hc3.below h.below) rfl (X0 6 rfl ?_))
  obtain ⟨y3,hy3,hF,he3,b3,_,q3,cs4,hp3,hq3,rfl,hc4⟩:=(h.sl 1 rfl).1.ix hF
  refine zx hp3 hq3 ⟨he3.1,qx he3.2.1 (h.sl 1 rfl).2⟩ rfl (zc 0 hc4 rfl (qG qc [.tmp 27] _ ([y3]:List Int) h rfl rfl rfl rfl rfl rfl rfl rfl rfl ⟨rfl,trivial⟩ rfl fun w4 p12 S3 h=>?_))
  obtain ⟨x2,hx1,hF⟩:=qd hF
  obtain ⟨g1,hx1⟩:=qae hx1
  refine qcg qc 1 h rfl (h.sl 0 rfl).1 (h.sl 0 rfl).2 rfl rfl rfl rfl rfl rfl rfl rfl rfl g1 hx1 rfl fun w5 p13 k12 S4 h=>X0 7 rfl ?_
  replace h:=h.pick [1,2] rfl
  exact rK ⟨_,_,_,_,_,_,hF,rfl,h⟩ rfl
 refine qm rfl ?_
 obtain rfl:=qb hF;replace hF:=hK1
 refine X0 5 rfl ?_
 obtain rfl:=qb hF
 exact rO 0 h rfl ⟨rfl,trivial⟩
def qdv (x6:(List Int)) (i4:Int) (i5:Int) (y7:Int):Nat→(List qa6)→Int→Option ((List qa6) × Int)
 | 0,_,_=>none
 | n+1,x14,i6 =>
  bif decide (i6<2) then
   (idx x6 i4).bind fun y8 =>
   (appS x14 ([(⟨W64 ((W64 (2*y8))+i6),W64 ((W64 (2*y7))+i6),2,i5⟩:qa6)]:List qa6)).bind fun x15 =>
   qdv x6 i4 i5 y7 n x15 (W64 (i6+1))
  else
   some (x14,i6)
def qdB (x6:(List Int)) (i4:Int) (y6:(List Int)):Nat→(List qa6)→Int→Option ((List qa6) × Int)
 | 0,_,_=>none
 | n+1,x13,i5 =>
  bif decide (i5<(y6.length:Int)) then
   (idx y6 i5).bind fun y7 =>
   (qdv x6 i4 i5 y7 n x13 0).bind fun o=>match o with
   | (x14,_) =>
    qdB x6 i4 y6 n x14 (W64 (i5+1))
  else
   some (x13,i5)
def qeA (a_0:qg) (x5:(List (List Int))) (x6:(List Int)):Nat→(List (List Int))→(List Int)→(List qa6)→Int→Option ((List (List Int)) × (List Int) × (List qa6) × Int)
 | 0,_,_,_,_=>none
 | n+1,x8,x9,x10,i4 =>
  bif decide (i4<(a_0.Aj.length:Int)) then
   (qde n a_0 i4).bind fun r4 =>
   (idx r4 0).bind fun y5 =>
   (appS x9 ([y5]:List Int)).bind fun x11 =>
   (qdS n a_0 i4).bind fun r5 =>
   (appS x8 ([r5]:List (List Int))).bind fun x12 =>
   (idx x5 i4).bind fun y6 =>
   (qdB x6 i4 y6 n x10 0).bind fun o=>match o with
   | (x13,_) =>
    qeA a_0 x5 x6 n x12 x11 x13 (W64 (i4+1))
  else
   some (x8,x9,x10,i4)
def qcN (r1:(List Tplace)):Nat→(List (List Int))→(List Int)→Int→Option ((List (List Int)) × (List Int) × Int)
 | 0,_,_,_=>none
 | n+1,x5,x6,i3 =>
  bif decide (i3<(r1.length:Int)) then
   (idx r1 i3).bind fun y2 =>
   bif y2.drives then
    (idx x6 y2.net).bind fun _ =>
    qcN r1 n x5 (setS x6 y2.net i3) (W64 (i3+1))
   else
    (idx x5 y2.net).bind fun y4 =>
    (appS y4 ([i3]:List Int)).bind fun x7 =>
    qcN r1 n (setS x5 y2.net x7) x6 (W64 (i3+1))
  else
   some (x5,x6,i3)
def qeF (a_0:qg):Nat→(List qa6)→Int→Int→Option ((List qa6) × Int × Int)
 | 0,_,_,_=>none
 | n+1,x1,i1,i2 =>
  bif decide (i2<(a_0.Ab.Aa.length:Int)) then
   (idx a_0.Ab.Aa i2).bind fun y1 =>
   (qeL n a_0 y1 i1).bind fun r2 =>
   (appS x1 r2).bind fun x2 =>
   (qas n y1.Af).bind fun r3 =>
   qeF a_0 n x2 (W64 (i1+r3)) (W64 (i2+1))
  else
   some (x1,i1,i2)
def qji (n:Nat) (a_0:qg):Option (Option Tview) :=
 (qce n (⟨a_0.Ab.Aa,a_0.Ab.Af,a_0.Ab.Ac⟩:qf)).bind fun r1 =>
 (qeF a_0 n ([]:List qa6) 0 0).bind fun o=>match o with
 | (x1,_,_) =>
  (mkS (a_0.Aj.length:Int) (0:Int)).bind fun x3 =>
  (mkS (a_0.Aj.length:Int) ([]:(List Int))).bind fun x4 =>
  (qcN r1 n x4 x3 0).bind fun o=>match o with
  | (x5,x6,_) =>
   (qeA a_0 x5 x6 n ([]:List (List Int)) ([]:List Int) x1 0).bind fun o=>match o with
   | (x8,x9,x10,_) =>
    some (some (⟨(⟨(⟨a_0.Ai.Ah⟩:qn),(⟨a_0.Ab.Aa,a_0.Ab.Af,a_0.Ab.Ac⟩:qf),a_0.Aj⟩:qg),r1,x10,x9,x8,[]⟩:Tview))
theorem qoq {A:Nat→Prop} (hA:∀ b,A b→old w b) {a_0:qg} (ha1:GoT.R w A a_0 cs1) {r:(Option Tview)} (hF:qji n a_0=some r):RetG Tryz.prog 75 [GoT.v qg cs1] w A r:=by
 obtain ⟨p1,k1,p2,k2,p3,k3,p4,k4,p5,k5,rfl,s1,s2,s3,s4,s5⟩:=qK ha1
 have hg:=Rg.start hA
 refine qiZ Tryz.func75 rfl (m:=156) rfl rfl (fun h=>?_)
 refine zSR (qu h rfl rfl fun w1 bb1 h=>X0 3 rfl (rA [] [0] h rfl fun w2 h=>M2 7 [0,1,2] 0 0 (h.pick [0] rfl) rfl (Ao 3 15 rfl (zcL h hF (qet (qaz _ (h.oldS (s2.mono hg.old)) (h.oldS (s3.mono hg.old)) (h.oldS (s4.mono hg.old)))) rfl fun r1 w3 S1 p6 k6 h hF=>Ag (h.pick [1] rfl) (Aw 4 31 (fun w' hw=>qgI qc [0,1] [.tmp 15,.tmp 18] rfl rfl rfl rfl rfl rfl rfl rfl) (h.pick [1] rfl) rfl ?_)))))
 refine Ao 5 63 rfl (qu h rfl rfl fun w4 bb2 h=>G0 127 [6] (h.pick [2] rfl) rfl (Ad (X1 13 2 h rfl ?_)))
 replace h:=h.nil (α:=qa6)
 obtain ⟨o1,hF,hK1⟩:=qd hF
 refine qk (rL (fun m e w'=>∃ (S2:Nat→Prop) (p7:Option Addr) (ln1:Nat) (k7:Nat) (x1:(List qa6)) (i1:Int) (i2:Int),qeF a_0 m x1 i1 i2=some o1∧e=[(1,.pointer (some ⟨bb1,0,none⟩)),(3,.pointer (some ⟨bb2,0,none⟩)),(4,.int .i64 i1),(23,.slice p2 a_0.Ab.Aa.length k2),(24,.int .i64 (a_0.Ab.Aa.length:Int)),(25,.int .i64 i2)]∧SH w w' [Ch.own S2 (x1:List qa6) [.slice p7 ln1 k7],Ch.box bb2 [.slice p1 a_0.Ai.Ah.length k1,.slice p2 a_0.Ab.Aa.length k2,.slice p3 a_0.Ab.Af.length k3,.slice p4 a_0.Ab.Ac.length k4,.slice p5 a_0.Aj.length k5,.slice p6 r1.length k6,.slice p7 ln1 k7,.slice none 0 0,.slice none 0 0,.slice none 0 0] 135,Ch.own S1 (r1:List Tplace) [.slice p6 r1.length k6],Ch.box bb1 (qal a_0 p1 p2 p3 p4 p5 k1 k2 k3 k4 k5) 34]) n ⟨_,_,_,_,_,_,_,hF,rfl,h⟩ rfl ?_)
 rintro m1 e1 w5 ⟨S2,p7,ln1,k7,x1,i1,i2,hF,rfl,h⟩
 obtain rfl:=(h.sl 0 rfl).2
 rcases m1 with _|m1
 ·cases hF
 refine X0 5 rfl (qi rfl hF ?_ ?_)<;>intro hF
 ·refine zKSBSR ?_
  obtain ⟨y1,hy1,hF,he1,b1,_,q1,cs2,hp1,hq1,hr2,hc2⟩:=s2.ix hF
  obtain ⟨p8,k8,rfl,s6⟩:=qM hr2
  refine zxe hp1 hq1 he1 rfl (zc 0 (hc2.below h.below) rfl (qA qc h rfl rfl rfl fun w6 bb3 h=>zs 0 h rfl fun w7 h=>zNS (rA [12] [0,2,4] h rfl fun w8 h=>M3 255 [0,1,2,3,4,5,6,7] 1 2 0 (h.pick [0,2,4] rfl) rfl (Ao 8 511 rfl (zcL h hF (qkZ (h.old (GoT.mono ha1 hg.old)) (qf7 y1 (h.oldS (s6.mono hg.old)))) rfl fun r2 w9 S3 p9 k9 h hF=>Ag (h.pick [1,3,5] rfl) (Ao 9 1023 rfl ?_))))))
  obtain ⟨x2,hx1,hF⟩:=qd hF
  obtain ⟨g1,hx1⟩:=qae hx1
  refine qcg qc 2 h rfl (h.sl 0 rfl).1 (h.sl 0 rfl).2 rfl rfl rfl rfl rfl rfl rfl rfl rfl g1 hx1 rfl fun w10 p10 k10 S4 h=>Ag (h.pick [1,3,5] rfl) (Ao 10 2047 rfl (zp1 rfl (G0 4095 [11] (h.pick [1,3,5] rfl) rfl (Ao 12 8191 rfl (zs 3 h rfl fun w11 h=>qh3 (fun hs=>absurd (hs 12 (by decide)) (by decide)) (Ad (X1 4 1 h rfl (zcI h hF (qbb ⟨_,_,rfl,(h.oldS (s6.mono hg.old))⟩) rfl fun r3 w12 h hF=>X0 8 rfl ?_))))))))
  replace h:=h.pick [2,3,4,5] rfl
  exact rK ⟨_,_,_,_,_,_,_,hF,rfl,h⟩ rfl
 refine qm rfl ?_
 obtain rfl:=qb hF;replace hF:=hK1
 refine X1 5 3 h rfl ?_
 obtain ⟨x3,hx2,hF⟩:=qd hF
 obtain ⟨g2,g3,hx2⟩:=qb3 hx2
 refine qc9 qc Int h rfl rfl rfl rfl rfl rfl rfl rfl rfl g2 g3 hx2 rfl fun w13 S5 p11 h=>X1 7 4 h rfl ?_
 obtain ⟨x4,hx3,hF⟩:=qd hF
 obtain ⟨g4,g5,hx3⟩:=qb3 hx3
 refine qc9 qc (List Int) h rfl rfl rfl rfl rfl rfl rfl rfl rfl g4 g5 hx3 rfl fun w14 S6 p12 h=>X1 12 3 h rfl ?_
 obtain ⟨o2,hF,hK2⟩:=qd hF
 refine qk (rL (fun m e w'=>∃ (S7:Nat→Prop) (x5:(List (List Int))) (x6:(List Int)) (i3:Int),qcN r1 m x5 x6 i3=some o2∧e=[(1,.pointer (some ⟨bb1,0,none⟩)),(3,.pointer (some ⟨bb2,0,none⟩)),(7,.slice p11 x3.length x3.length),(8,.slice p12 x4.length x4.length),(58,.slice p6 r1.length k6),(59,.int .i64 (r1.length:Int)),(60,.int .i64 i3)]∧SH w w' [Ch.own S7 (x5:List (List Int)) [.slice p12 x4.length x4.length],Ch.own S5 (x6:List Int) [.slice p11 x3.length x3.length],Ch.own S2 (x1:List qa6) [.slice p7 x1.length k7],Ch.box bb2 [.slice p1 a_0.Ai.Ah.length k1,.slice p2 a_0.Ab.Aa.length k2,.slice p3 a_0.Ab.Af.length k3,.slice p4 a_0.Ab.Ac.length k4,.slice p5 a_0.Aj.length k5,.slice p6 r1.length k6,.slice p7 x1.length k7,.slice none 0 0,.slice none 0 0,.slice none 0 0] 135,Ch.own S1 (r1:List Tplace) [.slice p6 r1.length k6],Ch.box bb1 (qal a_0 p1 p2 p3 p4 p5 k1 k2 k3 k4 k5) 34]) n ⟨_,_,_,_,hF,rfl,h⟩ rfl ?_)
 rintro m2 e2 w15 ⟨S7,x5,x6,i3,hF,rfl,h⟩
 rcases m2 with _|m2
 ·cases hF
 refine X0 5 rfl (qi rfl hF ?_ ?_)<;>intro hF
 ·refine X0 6 rfl ?_
  obtain ⟨y2,hy2,hF,he2,b2,_,q2,cs3,hp2,hq2,hr5,hc4⟩:=(h.sl 4 rfl).1.ix hF
  obtain rfl:=qcs hr5
  refine zx hp2 hq2 ⟨he2.1,qx he2.2.1 (h.sl 4 rfl).2⟩ rfl (zc 0 hc4 rfl (qA qc h rfl rfl rfl fun w16 bb4 h=>zp1 rfl (zs 0 h rfl fun w17 h=>X1 6 0 h rfl (qi rfl hF ?_ ?_))))<;>intro hF
  ·refine X1 5 0 h rfl ?_
   obtain ⟨y3,hy3,hF,he3,b3,_,q3,cs4,hp3,hq3,rfl,hc6⟩:=(h.sl 2 rfl).1.ix hF
   refine zx hp3 hq3 ⟨he3.1,qx he3.2.1 (h.sl 2 rfl).2⟩ rfl (qaX qc 2 0 i3 h rfl hy3 hp3 hq3 rfl hc6 rfl rfl rfl rfl rfl rfl rfl fun w18 h=>X0 6 rfl ?_)
   replace h:=h.pick [1,2,3,4,5,6] rfl
   exact rK ⟨_,_,_,_,hF,rfl,h⟩ rfl
  obtain ⟨y4,hy4,hF⟩:=qd hF
  have he4:=qax hy4
  replace h:=h.pick [1,0,2,3,4,5,6] rfl
  obtain ⟨S8,S9,cs5,h⟩:=h.take hy4
  obtain ⟨p13,k11,rfl,-⟩:=h.own 0 rfl
  refine rA [12] [1,2] h rfl fun w19 h=>M2 63 [0,1,2,3,4,5] 1 1 (h.pick [1,2] rfl) rfl ?_
  obtain ⟨b4,hp4,-,-,hl2⟩:=h.holeAt 1 rfl
  obtain ⟨q4,hq4⟩:∃ q,q=0+(y2.net).toNat*GoT.k (List Int):=⟨_,rfl⟩
  refine Ax 6 127 hp4 hq4 ⟨he4.1,qx he4.2.1 hl2⟩ (h.pick [1,2] rfl) rfl (Aw 7 255 (fun w' hw=>qim qc (qa5 hw 0 rfl hp4 hq4) (j:=0) rfl rfl rfl) (h.pick [1,2] rfl) rfl ?_)
  refine M0 511 [8] (h.pick [1,2] rfl) rfl (Ao 9 1023 rfl (qG qc [.tmp 80] _ ([i3]:List Int) h rfl rfl rfl rfl rfl rfl rfl rfl rfl ⟨rfl,trivial⟩ rfl fun w20 p14 S10 h=>Ag (h.pick [2,3] rfl) (Ao 10 2047 rfl ?_)))
  obtain ⟨x7,hx4,hF⟩:=qd hF
  obtain ⟨g6,hx4⟩:=qae hx4
  refine qcg qc 1 h rfl (h.sl 0 rfl).1 (h.sl 0 rfl).2 rfl rfl rfl rfl rfl rfl rfl rfl rfl g6 hx4 rfl fun w21 p15 k12 S11 h=>Ag (h.pick [2,3] rfl) ?_
  obtain ⟨b5,hp5,-,-,hl4⟩:=h.holeAt 2 rfl
  obtain ⟨q5,hq5⟩:∃ q,q=0+(y2.net).toNat*GoT.k (List Int):=⟨_,rfl⟩
  refine Ax 11 4095 hp5 hq5 ⟨he4.1,qx he4.2.1 hl4⟩ (h.pick [2,3] rfl) rfl (Ao 12 8191 rfl (qfc qc 2 0 h rfl hp5 hq5 rfl rfl rfl rfl rfl rfl fun w22 h=>?_))
  replace h:SH _ _ [Ch.own S10 (([i3]:List Int):List Int) [.slice p14 1 1],Ch.own S11 (x7:List Int) [.slice p15 x7.length k12],Ch.hole S9 (x5:List (List Int)) p12 x4.length x4.length (y2.net).toNat [.slice p15 x7.length k12],Ch.box bb4 (ql7 y2) 131,Ch.own S5 (x6:List Int) [.slice p11 x3.length x3.length],Ch.own S2 (x1:List qa6) [.slice p7 x1.length k7],Ch.box bb2 [.slice p1 a_0.Ai.Ah.length k1,.slice p2 a_0.Ab.Aa.length k2,.slice p3 a_0.Ab.Af.length k3,.slice p4 a_0.Ab.Ac.length k4,.slice p5 a_0.Aj.length k5,.slice p6 r1.length k6,.slice p7 x1.length k7,.slice none 0 0,.slice none 0 0,.slice none 0 0] 135,Ch.own S1 (r1:List Tplace) [.slice p6 r1.length k6],Ch.box bb1 (qal a_0 p1 p2 p3 p4 p5 k1 k2 k3 k4 k5) 34]:=h
  refine qh3 (fun hs=>absurd (hs 12 (by decide)) (by decide)) (Ad (X0 5 rfl ?_))
  replace h:=h.pick [1,2,0,3,4,5,6,7,8] rfl
  replace h:=h.put
  obtain ⟨S12,h⟩:=ql9 (S:=_) h
  replace h:=h.pick [0,3,4,5,6,7] rfl
  exact rK ⟨_,_,_,_,hF,rfl,h⟩ rfl
 refine qm rfl ?_
 obtain rfl:=qb hF;replace hF:=hK2
 refine X1 8 5 h rfl ?_
 replace h:=h.nil (α:=Int)
 replace h:=h.nil (α:=(List Int))
 obtain ⟨o3,hF,hK3⟩:=qd hF
 refine qk (rL (fun m e w'=>∃ (S13:Nat→Prop) (p16:Option Addr) (ln2:Nat) (k13:Nat) (x8:(List (List Int))) (S14:Nat→Prop) (p17:Option Addr) (ln3:Nat) (k14:Nat) (x9:(List Int)) (S15:Nat→Prop) (p18:Option Addr) (ln4:Nat) (k15:Nat) (x10:(List qa6)) (i4:Int),qeA a_0 x5 x6 m x8 x9 x10 i4=some o3∧e=[(1,.pointer (some ⟨bb1,0,none⟩)),(3,.pointer (some ⟨bb2,0,none⟩)),(7,.slice p11 x3.length x3.length),(8,.slice p12 x4.length x4.length),(87,.int .i64 (a_0.Aj.length:Int)),(88,.int .i64 i4)]∧SH w w' [Ch.own S13 (x8:List (List Int)) [.slice p16 ln2 k13],Ch.own S14 (x9:List Int) [.slice p17 ln3 k14],Ch.own S7 (x5:List (List Int)) [.slice p12 x4.length x4.length],Ch.own S5 (x6:List Int) [.slice p11 x3.length x3.length],Ch.own S15 (x10:List qa6) [.slice p18 ln4 k15],Ch.box bb2 [.slice p1 a_0.Ai.Ah.length k1,.slice p2 a_0.Ab.Aa.length k2,.slice p3 a_0.Ab.Af.length k3,.slice p4 a_0.Ab.Ac.length k4,.slice p5 a_0.Aj.length k5,.slice p6 r1.length k6,.slice p18 ln4 k15,.slice p17 ln3 k14,.slice p16 ln2 k13,.slice none 0 0] 135,Ch.own S1 (r1:List Tplace) [.slice p6 r1.length k6],Ch.box bb1 (qal a_0 p1 p2 p3 p4 p5 k1 k2 k3 k4 k5) 34]) n ⟨_,_,_,_,_,_,_,_,_,_,_,_,_,_,_,_,hF,rfl,h⟩ rfl ?_)
 rintro m3 e3 w23 ⟨S13,p16,ln2,k13,x8,S14,p17,ln3,k14,x9,S15,p18,ln4,k15,x10,i4,hF,rfl,h⟩
 obtain rfl:=(h.sl 0 rfl).2
 obtain rfl:=(h.sl 1 rfl).2
 obtain rfl:=(h.sl 4 rfl).2
 rcases m3 with _|m3
 ·cases hF
 refine X0 5 rfl (qi rfl hF ?_ ?_)<;>intro hF
 ·refine X0 9 rfl (rA [14] [5,7] h rfl fun w24 h=>M2 127 [0,1,2,3,4,5,6] 0 1 (h.pick [5,7] rfl) rfl (Ao 7 255 rfl (zcL h hF (qfC (h.old (GoT.mono ha1 hg.old))) rfl fun r4 w25 S16 p19 k16 h hF=>Ag (h.pick [6,8] rfl) ?_)))
  obtain ⟨y5,hy5,hF,he5,b6,_,q6,cs6,hp6,hq6,rfl,hc8⟩:=(h.sl 0 rfl).1.ix hF
  refine Ax 8 511 hp6 hq6 ⟨he5.1,qx he5.2.1 (h.sl 0 rfl).2⟩ (h.pick [6,8] rfl) rfl (Ao 9 1023 rfl (zc 0 hc8 rfl (Ag (h.pick [6,8] rfl) (Ao 10 2047 rfl (qG qc [.tmp 100] _ ([y5]:List Int) h rfl rfl rfl rfl rfl rfl rfl rfl rfl ⟨rfl,trivial⟩ rfl fun w26 p20 S17 h=>Ag (h.pick [7,9] rfl) (Ao 11 4095 rfl ?_))))))
  obtain ⟨x11,hx5,hF⟩:=qd hF
  obtain ⟨g7,hx5⟩:=qae hx5
  refine qcg qc 3 h rfl (h.sl 0 rfl).1 (h.sl 0 rfl).2 rfl rfl rfl rfl rfl rfl rfl rfl rfl g7 hx5 rfl fun w27 p21 k17 S18 h=>Ag (h.pick [7,9] rfl) (Ao 12 8191 rfl (zp1 rfl (G0 16383 [13] (h.pick [7,9] rfl) rfl (Ao 14 32767 rfl (zs 7 h rfl fun w28 h=>qh3 (fun hs=>absurd (hs 14 (by decide)) (by decide)) (Ad (qgT (rA [12] [7,9] h rfl fun w29 h=>M2 127 [0,1,2,3,4,5,6] 0 1 (h.pick [7,9] rfl) rfl (Ao 7 255 rfl (zcL h hF (qj7 (h.old (GoT.mono ha1 hg.old))) rfl fun r5 w30 S19 p22 k18 h hF=>Ag (h.pick [8,10] rfl) (Ao 8 511 rfl (quv qc [.tmp 112] _ ([r5]:List (List Int)) [1,2,3,4,5,6,7,8,9,10] h rfl rfl rfl rfl rfl rfl rfl rfl rfl (qu6 (qay 0 h rfl) qwW rfl) rfl rfl fun w31 p23 S20 h=>Ag (h.pick [8,10] rfl) (Ao 9 1023 rfl ?_)))))))))))))
  obtain ⟨x12,hx6,hF⟩:=qd hF
  obtain ⟨g8,hx6⟩:=qae hx6
  replace h:=h.pick [0,3,1,2,4,5,6,7,8,9,10] rfl
  refine qwI qc h rfl rfl rfl rfl rfl rfl rfl rfl rfl g8 hx6 rfl fun w32 p24 k19 S21 h=>Ag (h.pick [7,9] rfl) (Ao 10 2047 rfl (zp1 rfl (G0 4095 [11] (h.pick [7,9] rfl) rfl (Ao 12 8191 rfl (zs 7 h rfl fun w33 h=>qh3 (fun hs=>absurd (hs 12 (by decide)) (by decide)) (Ad (X0 4 rfl ?_)))))))
  obtain ⟨y6,hy6,hF⟩:=qd hF
  have he6:=qax hy6
  replace h:=h.lrn0 4 rfl
  obtain ⟨b7,o_5,q7,cs7,hp7,hq7,-,hr10,hc9⟩:=(qib (h.lrnO 4 rfl)).1.at hy6
  have hr11:=hr10
  obtain ⟨p25,k20,rfl,s7⟩:=hr10
  replace h:=h.lrnAdd 4 rfl hr11
  refine zx hp7 hq7 ⟨he6.1,qx he6.2.1 (qib (h.lrnO 4 rfl)).2⟩ rfl (zc 0 hc9 rfl (X0 3 rfl ?_))
  obtain ⟨o4,hF,hK4⟩:=qd hF
  refine qk ?_
  replace h:=h.pick [0,3,4,5,6,7,8,9] rfl
  refine rL (fun m e w'=>∃ (S22:Nat→Prop) (p26:Option Addr) (ln5:Nat) (k21:Nat) (x13:(List qa6)) (i5:Int),qdB x6 i4 y6 m x13 i5=some o4∧e=[(1,.pointer (some ⟨bb1,0,none⟩)),(3,.pointer (some ⟨bb2,0,none⟩)),(7,.slice p11 x3.length x3.length),(8,.slice p12 x4.length x4.length),(11,.int .i64 i4),(87,.int .i64 (a_0.Aj.length:Int)),(88,.int .i64 i4),(120,.slice p25 y6.length k20),(121,.int .i64 (y6.length:Int)),(122,.int .i64 i5)]∧SH w w' [Ch.own S21 (x12:List (List Int)) [.slice p24 x12.length k19],Ch.own S18 (x11:List Int) [.slice p21 x11.length k17],Ch.lrn S7 (x5:List (List Int)) [.slice p12 x4.length x4.length] [fct (y6:(List Int)) [.slice p25 y6.length k20]],Ch.own S5 (x6:List Int) [.slice p11 x3.length x3.length],Ch.own S22 (x13:List qa6) [.slice p26 ln5 k21],Ch.box bb2 [.slice p1 a_0.Ai.Ah.length k1,.slice p2 a_0.Ab.Aa.length k2,.slice p3 a_0.Ab.Af.length k3,.slice p4 a_0.Ab.Ac.length k4,.slice p5 a_0.Aj.length k5,.slice p6 r1.length k6,.slice p26 ln5 k21,.slice p21 x11.length k17,.slice p24 x12.length k19,.slice none 0 0] 135,Ch.own S1 (r1:List Tplace) [.slice p6 r1.length k6],Ch.box bb1 (qal a_0 p1 p2 p3 p4 p5 k1 k2 k3 k4 k5) 34]) m3 ⟨_,_,_,_,_,_,hF,rfl,h⟩ rfl ?_
  rintro m4 e4 w34 ⟨S22,p26,ln5,k21,x13,i5,hF,rfl,h⟩
  obtain rfl:=(h.sl 4 rfl).2
  rcases m4 with _|m4
  ·cases hF
  refine X0 5 rfl (qi rfl hF ?_ ?_)<;>intro hF
  ·refine X0 6 rfl ?_
   obtain ⟨y7,hy7,hF,he7,b8,_,q8,cs8,hp8,hq8,rfl,hc11⟩:=(qib (GoT.mono (h.lrnS 2 0 rfl rfl) (h.lrnB 2 rfl))).1.ix hF
   refine zx hp8 hq8 ⟨he7.1,qx he7.2.1 (qib (GoT.mono (h.lrnS 2 0 rfl rfl) (h.lrnB 2 rfl))).2⟩ rfl (zc 0 hc11 rfl (X0 7 rfl ?_))
   obtain ⟨o5,hF,hK5⟩:=qd hF
   refine qk (rL (fun m e w'=>∃ (S23:Nat→Prop) (p27:Option Addr) (ln6:Nat) (k22:Nat) (x14:(List qa6)) (i6:Int),qdv x6 i4 i5 y7 m x14 i6=some o5∧e=[(1,.pointer (some ⟨bb1,0,none⟩)),(3,.pointer (some ⟨bb2,0,none⟩)),(7,.slice p11 x3.length x3.length),(8,.slice p12 x4.length x4.length),(11,.int .i64 i4),(12,.int .i64 i5),(13,.int .i64 y7),(87,.int .i64 (a_0.Aj.length:Int)),(88,.int .i64 i4),(120,.slice p25 y6.length k20),(121,.int .i64 (y6.length:Int)),(122,.int .i64 i5),(127,.int .i64 i6)]∧SH w w' [Ch.own S21 (x12:List (List Int)) [.slice p24 x12.length k19],Ch.own S18 (x11:List Int) [.slice p21 x11.length k17],Ch.lrn S7 (x5:List (List Int)) [.slice p12 x4.length x4.length] [fct (y6:(List Int)) [.slice p25 y6.length k20]],Ch.own S5 (x6:List Int) [.slice p11 x3.length x3.length],Ch.own S23 (x14:List qa6) [.slice p27 ln6 k22],Ch.box bb2 [.slice p1 a_0.Ai.Ah.length k1,.slice p2 a_0.Ab.Aa.length k2,.slice p3 a_0.Ab.Af.length k3,.slice p4 a_0.Ab.Ac.length k4,.slice p5 a_0.Aj.length k5,.slice p6 r1.length k6,.slice p27 ln6 k22,.slice p21 x11.length k17,.slice p24 x12.length k19,.slice none 0 0] 135,Ch.own S1 (r1:List Tplace) [.slice p6 r1.length k6],Ch.box bb1 (qal a_0 p1 p2 p3 p4 p5 k1 k2 k3 k4 k5) 34]) m4 ⟨_,_,_,_,_,_,hF,rfl,h⟩ rfl ?_)
   rintro m5 e5 w35 ⟨S23,p27,ln6,k22,x14,i6,hF,rfl,h⟩
   obtain rfl:=(h.sl 4 rfl).2
   rcases m5 with _|m5
   ·cases hF
   refine X0 5 rfl (qi rfl hF ?_ ?_)<;>intro hF
   ·refine X0 8 rfl (rA [22] [3,5] h rfl fun w36 h=>M1 127 [0,1,2,3,4,5,6] 1 (h.pick [3,5] rfl) rfl ?_)
    obtain ⟨y8,hy8,hF,he8,b9,_,q9,cs9,hp9,hq9,rfl,hc13⟩:=(h.sl 3 rfl).1.ix hF
    refine Ax 7 255 hp9 hq9 ⟨he8.1,qx he8.2.1 (h.sl 3 rfl).2⟩ (h.pick [3,5] rfl) rfl (Aw 8 511 (fun w' hw=>qim qc (qcJ (w1:=w) (S1:=fun _=>False) hw 0 rfl hy8 hp9 hq9 rfl) (j:=0) rfl rfl rfl) (h.pick [3,5] rfl) rfl ?_)
    refine M0 131071 [9,10,11,12,13,14,15,16] (h.pick [3,5] rfl) rfl (Aw 17 262143 (fun w' hw=>qgI qc [0,1,2,3] [.tmp 141,.tmp 145,.const (.int .i64 (2)),.tmp 146] rfl rfl rfl rfl rfl rfl rfl rfl) (h.pick [3,5] rfl) rfl ?_)
    refine Ao 18 524287 rfl (qG qc [.tmp 147] _ ([(⟨W64 ((W64 (2*y8))+i6),W64 ((W64 (2*y7))+i6),2,i5⟩:qa6)]:List qa6) h rfl rfl rfl rfl rfl rfl rfl rfl rfl ⟨(qqG (⟨W64 ((W64 (2*y8))+i6),W64 ((W64 (2*y7))+i6),2,i5⟩:qa6)),trivial⟩ rfl fun w37 p28 S24 h=>Ag (h.pick [4,6] rfl) (Ao 19 1048575 rfl ?_))
    obtain ⟨x15,hx7,hF⟩:=qd hF
    obtain ⟨g9,hx7⟩:=qae hx7
    refine qcg qc 5 h rfl (h.sl 0 rfl).1 (h.sl 0 rfl).2 rfl rfl rfl rfl rfl rfl rfl rfl rfl g9 hx7 rfl fun w38 p29 k23 S25 h=>Ag (h.pick [4,6] rfl) (Ao 20 2097151 rfl (zp1 rfl (G0 4194303 [21] (h.pick [4,6] rfl) rfl (Ao 22 8388607 rfl (zs 6 h rfl fun w39 h=>qh3 (fun hs=>absurd (hs 22 (by decide)) (by decide)) (Ad (X0 5 rfl ?_)))))))
    replace h:=h.pick [1,2,3,4,5,6,7,8] rfl
    exact rK ⟨_,_,_,_,_,_,hF,rfl,h⟩ rfl
   refine qm rfl ?_
   obtain rfl:=qb hF;replace hF:=hK5
   exact X0 5 rfl (rK ⟨_,_,_,_,_,_,hF,rfl,h⟩ rfl)
  refine qm rfl ?_
  obtain rfl:=qb hF;replace hF:=hK4
  refine X0 5 rfl ?_
  replace h:=h.unlrn 2 rfl
  exact rK ⟨_,_,_,_,_,_,_,_,_,_,_,_,_,_,_,_,hF,rfl,h⟩ rfl
 refine qm rfl ?_
 obtain rfl:=qb hF;replace hF:=hK3
 refine X0 5 rfl ?_
 obtain rfl:=qb hF
 have hv1:GoRs.Rs (ρ:=(Option Tview)) h.wc (reg A w h.wc) (some (⟨(⟨(⟨a_0.Ai.Ah⟩:qn),(⟨a_0.Ab.Aa,a_0.Ab.Af,a_0.Ab.Ac⟩:qf),a_0.Aj⟩:qg),r1,x10,x9,x8,[]⟩:Tview)) [GoT.v (Option Tview) [.pointer (some ⟨bb2,0,none⟩)]]:=⟨_,rfl,(hg.outR h (Rg.boxR (x:=(⟨(⟨(⟨a_0.Ai.Ah⟩:qn),(⟨a_0.Ab.Aa,a_0.Ab.Af,a_0.Ab.Ac⟩:qf),a_0.Aj⟩:qg),r1,x10,x9,x8,[]⟩:Tview)) 5 h rfl (show GoT.R _ _ ((⟨(⟨(⟨a_0.Ai.Ah⟩:qn),(⟨a_0.Ab.Aa,a_0.Ab.Af,a_0.Ab.Ac⟩:qf),a_0.Aj⟩:qg),r1,x10,x9,x8,[]⟩:Tview):Tview) _ from ⟨[.slice p1 a_0.Ai.Ah.length k1,.slice p2 a_0.Ab.Aa.length k2,.slice p3 a_0.Ab.Af.length k3,.slice p4 a_0.Ab.Ac.length k4,.slice p5 a_0.Aj.length k5],[.slice p6 r1.length k6,.slice p18 x10.length k15,.slice p17 x9.length k14,.slice p16 x8.length k13,.slice none 0 0],rfl,⟨[.slice p1 a_0.Ai.Ah.length k1],[.slice p2 a_0.Ab.Aa.length k2,.slice p3 a_0.Ab.Af.length k3,.slice p4 a_0.Ab.Ac.length k4,.slice p5 a_0.Aj.length k5],rfl,⟨_,_,rfl,(hg.inS h s1)⟩,⟨[.slice p2 a_0.Ab.Aa.length k2,.slice p3 a_0.Ab.Af.length k3,.slice p4 a_0.Ab.Ac.length k4],[.slice p5 a_0.Aj.length k5],rfl,⟨[.slice p2 a_0.Ab.Aa.length k2],[.slice p3 a_0.Ab.Af.length k3,.slice p4 a_0.Ab.Ac.length k4],rfl,⟨_,_,rfl,(hg.inS h s2)⟩,⟨[.slice p3 a_0.Ab.Af.length k3],[.slice p4 a_0.Ab.Ac.length k4],rfl,⟨_,_,rfl,(hg.inS h s3)⟩,⟨_,_,rfl,(hg.inS h s4)⟩⟩⟩,⟨_,_,rfl,(hg.inS h s5)⟩⟩⟩,⟨[.slice p6 r1.length k6],[.slice p18 x10.length k15,.slice p17 x9.length k14,.slice p16 x8.length k13,.slice none 0 0],rfl,(Rg.ownR 6 h rfl),⟨[.slice p18 x10.length k15],[.slice p17 x9.length k14,.slice p16 x8.length k13,.slice none 0 0],rfl,(Rg.ownR 4 h rfl),⟨[.slice p17 x9.length k14],[.slice p16 x8.length k13,.slice none 0 0],rfl,(Rg.ownR 1 h rfl),⟨[.slice p16 x8.length k13],[.slice none 0 0],rfl,(Rg.ownR 0 h rfl),⟨_,_,rfl,qwp⟩⟩⟩⟩⟩⟩)))⟩
 exact qkw qc (ρ:=(Option Tview)) (r:=(some (⟨(⟨(⟨a_0.Ai.Ah⟩:qn),(⟨a_0.Ab.Aa,a_0.Ab.Af,a_0.Ab.Ac⟩:qf),a_0.Aj⟩:qg),r1,x10,x9,x8,[]⟩:Tview))) [GoT.v (Option Tview) [.pointer (some ⟨bb2,0,none⟩)]] h ⟨rfl,trivial⟩ hv1
def qck (_:Nat) (v:(Option Tview)) (p:Tplace):Option Bool :=
 bif decide (p.instance_ ≥ 0) then
  (v).bind fun y1 =>
  (idx y1.Bj.Ab.Aa p.instance_).bind fun y2 =>
  (idx y1.Bj.Ai.Ah y2.Ba).bind fun y3 =>
  (idx y3.Am p.pin).bind fun y4 =>
  some y4.Be
 else
  some false
theorem qfk {v:(Option Tview)} {p:Tplace} (ha1:GoT.R w (old w) v cs1) (ha2:GoT.R w (old w) p cs2) {r:Bool} (hF:qck n v p=some r):RetV Tryz.prog 144 [GoT.v (Option Tview) cs1,GoT.v Tplace cs2] w r:=by
 obtain ⟨p1,rfl,s1⟩:=qfs ha1
 obtain rfl:=qcs ha2
 refine zV 35 Tryz.func144 rfl fun h=>zSR (qu h rfl rfl fun w1 bb1 h=>X0 3 rfl (rD (Y1 2 0 h rfl ?_)))
 refine zd2 rfl (qbx (t:=8) hF rfl ?_ ?_)<;>intro hF
 ·refine Y0 3 rfl ?_
  obtain ⟨y1,hy1,hF⟩:=qd hF
  obtain ⟨b1,o_1,cs3,rfl,-,hr1,hc1⟩:=PtR.get s1 hy1
  obtain ⟨p2,k1,p3,k2,p4,k3,p5,k4,p6,k5,p7,k6,p8,k7,p9,k8,p10,k9,p11,k10,rfl,s2,s3,s4,s5,s6,s7,s8,s9,s10,s11⟩:=qir hr1
  refine Y0 8 rfl (zdc 0 (hc1.below h.below) rfl (Y0 11 rfl (zdc 1 (hc1.below h.below) rfl (Y1 4 0 h rfl ?_))))
  refine Y0 1 rfl ?_
  obtain ⟨y2,hy2,hF,he1,b2,_,q1,cs4,hp1,hq1,hr2,hc2⟩:=s3.ix hF
  obtain ⟨p12,k11,rfl,s12⟩:=qM hr2
  refine zdxe hp1 hq1 he1 rfl (Y0 3 rfl (zdc 1 (hc2.below h.below) rfl (Y0 1 rfl ?_)))
  obtain ⟨y3,hy3,hF,he2,b3,_,q2,cs5,hp2,hq2,hr3,hc3⟩:=s2.ix hF
  obtain ⟨p13,k12,p14,k13,p15,k14,rfl,s13,s14,s15⟩:=qJ hr3
  refine zdxe hp2 hq2 he2 rfl (Y0 3 rfl (zdc 2 (hc3.below h.below) rfl (Y1 4 0 h rfl ?_)))
  refine Y0 1 rfl ?_
  obtain ⟨y4,hy4,hF,he3,b4,_,q3,cs6,hp3,hq3,hr4,hc4⟩:=s13.ix hF
  obtain rfl:=qaF hr4
  exact zdxe hp3 hq3 he3 rfl (Y0 3 rfl (zdc 3 (hc4.below h.below) rfl (zd2 rfl (dN h fun w2 h=>rb h hF rfl))))
 exact Y0 27 rfl (dN h fun w3 h=>rb h hF rfl)
def qgj (_:Nat) (b:qg) (a_instance:Int):Option qp :=
 (idx b.Ab.Aa a_instance).bind fun y1 =>
 (idx b.Ai.Ah y1.Ba).bind fun y2 =>
 some y2
theorem qiV {A:Nat→Prop} (hA:∀ b,A b→old w b) {b:qg} {a_instance:Int} (ha1:GoT.R w A b cs1) {r:qp} (hF:qgj n b a_instance=some r):RetG Tryz.prog 145 [GoT.v qg cs1,.int .i64 a_instance] w A r:=by
 obtain ⟨p1,k1,p2,k2,p3,k3,p4,k4,p5,k5,rfl,s1,s2,s3,s4,s5⟩:=qK ha1
 have hg:=Rg.start hA
 refine qiZ Tryz.func145 rfl (m:=17) rfl rfl (fun h=>?_)
 refine zSR (qu h rfl rfl fun w1 bb1 h=>qA qc h rfl rfl rfl fun w2 bb2 h=>zNS (rA [] [1] h rfl fun w3 h=>M2 127 [0,1,2,3,4,5,6] 0 0 (h.pick [1] rfl) rfl ?_))
 obtain ⟨y1,hy1,hF,he1,b1,_,q1,cs2,hp1,hq1,hr1,hc1⟩:=s2.ix hF
 obtain ⟨p6,k6,rfl,s6⟩:=qM hr1
 refine Ae 7 255 hp1 hq1 he1 (h.pick [1] rfl) rfl (M0 511 [8] (h.pick [1] rfl) rfl (Al 9 1023 1 hc1 (h.pick [1] rfl) rfl ?_))
 obtain ⟨y2,hy2,hF,he2,b2,_,q2,cs3,hp2,hq2,hr2,hc2⟩:=s1.ix hF
 obtain ⟨p7,k7,p8,k8,p9,k9,rfl,s7,s8,s9⟩:=qJ hr2
 refine Ae 10 2047 hp2 hq2 he2 (h.pick [1] rfl) rfl (Al 11 4095 0 hc2 (h.pick [1] rfl) rfl (Ao 12 8191 rfl (zs 0 h rfl fun w4 h=>Ag (h.pick [1] rfl) (Ad ?_))))
 obtain rfl:=qb hF
 have hv1:GoRs.Rs (ρ:=qp) h.wc (reg A w h.wc) y2 [GoT.v qp (qbV y2 p7 p8 p9 k7 k8 k9)]:=⟨_,rfl,(hg.outR h (qhv y2 (hg.inS h s7) (hg.inS h s8) (hg.inS h s9)))⟩
 exact qkw qc (ρ:=qp) (r:=y2) [GoT.v qp (qbV y2 p7 p8 p9 k7 k8 k9)] h ⟨⟨_,_,_,rfl,rfl,h.box 0 rfl,rfl⟩,trivial⟩ hv1
def qjF (_:Nat) (a:qF):Option Bool :=
 bif (a.Ar==1) then some true else
 bif (a.Ar==2) then some true else
 some (a.Ar==3)
theorem qnu {a:qF} (ha1:GoT.R w (old w) a cs1) {r:Bool} (hF:qjF n a=some r):RetV Tryz.prog 148 [GoT.v qF cs1] w r:=by
 obtain ⟨p1,k1,p2,k2,rfl,s1,s2⟩:=qaj ha1
 refine zV 16 Tryz.func148 rfl fun h=>zSR (qu h rfl rfl fun w1 bb1 h=>X1 8 0 h rfl (ql (t:=6) hF rfl ?_ ?_))<;>intro hF
 ·exact X0 11 rfl (rb h hF rfl)
 refine X1 8 0 h rfl (ql (t:=11) hF rfl ?_ ?_)<;>intro hF
 ·exact X0 6 rfl (rb h hF rfl)
 exact X1 9 0 h rfl (rb h hF rfl)
def qdP (n:Nat) (a:qF) (v0:Tplace):Option Bool :=
 (qjF n a).bind fun r1 =>
 bif r1 then some (a.Au==v0.pin) else
 some false
theorem qj5 {a:qF} {v0:Tplace} (ha1:GoT.R w (old w) a cs1) {p3:Option Addr} (ha2:GoT.R w (old w) (some v0) [.pointer p3]) {r:Bool} (hF:qdP n a v0=some r):RetV Tryz.prog 147 [GoT.v qF cs1,.pointer p3] w r:=by
 obtain ⟨p1,k1,p2,k2,rfl,s1,s2⟩:=qaj ha1
 obtain ⟨b1,o_1,cs2,rfl,-,hr1,hc1⟩:=PtR.get ha2 rfl
 obtain rfl:=qcs hr1
 refine zV 13 Tryz.func147 rfl fun h=>zSR (qu h rfl rfl fun w1 bb1 h=>X1 5 0 h rfl (zcB h hF (qnu (h.old ha1)) rfl fun r1 w2 h hF=>zp1 rfl (ql (t:=6) hF rfl ?_ ?_)))<;>intro hF
 ·exact X1 7 0 h rfl (zc 1 (hc1.below h.below) rfl (X0 5 rfl (rb h hF rfl)))
 exact X0 8 rfl (rb h hF rfl)
def qC (s:(List qF)) (f_0:Tplace):Nat→Int→Option (Flow Int Int)
 | 0,_=>none
 | n+1,i1 =>
  bif decide (i1<(s.length:Int)) then
   (idx s i1).bind fun y1 =>
   (qdP n y1 f_0).bind fun r1 =>
   bif r1 then some (.ret i1) else
   qC s f_0 n (W64 (i1+1))
  else
   some (.nxt i1)
def qaM (n:Nat) (s:(List qF)) (f_0:Tplace):Option Int :=
 (qC s f_0 n 0).bind fun o=>match o with
 | .ret r=>some r
 | .nxt _ =>
  some (-1)
theorem qd6 {s:(List qF)} {f_0:Tplace} (ha1:GoT.R w (old w) s cs1) {p2:Option Addr} (ha2:GoT.R w (old w) (some f_0) [.pointer p2]) {r:Int} (hF:qaM n s f_0=some r):RetV Tryz.prog 194 [GoT.v (List qF) cs1,.func (.func 147) #[] #[.pointer p2]] w r:=by
 obtain ⟨p1,k1,rfl,s1⟩:=ha1
 obtain ⟨b1,o_1,cs2,rfl,-,hr1,hc1⟩:=PtR.get ha2 rfl
 obtain rfl:=qcs hr1
 refine zV 19 Tryz.func194 rfl fun h=>X0 11 rfl ?_
 obtain ⟨o1,hF,hK1⟩:=qd hF
 refine qk (rL (fun m e w'=>∃ (i1:Int),qC s f_0 m i1=some o1∧e=[(0,.slice p1 s.length k1),(1,.func (.func 147) #[] #[.pointer (some ⟨b1,o_1,none⟩)]),(7,.int .i64 (s.length:Int)),(8,.int .i64 i1)]∧SH w w' []) n ⟨_,hF,rfl,h⟩ rfl ?_)
 rintro m1 e1 w1 ⟨i1,hF,rfl,h⟩
 rcases m1 with _|m1
 ·cases hF
 refine X0 5 rfl (qi rfl hF ?_ ?_)<;>intro hF
 ·refine X0 13 rfl ?_
  obtain ⟨y1,hy1,hF,he1,b2,_,q1,cs3,hp1,hq1,hr2,hc3⟩:=s1.ix hF
  obtain ⟨p3,k2,p4,k3,rfl,s2,s3⟩:=qaj hr2
  refine zxe hp1 hq1 he1 rfl (zc 0 (hc3.below h.below) rfl (zcB h hF (qj5 (qgx y1 (h.oldS s2) (h.oldS s3)) (h.old ha2)) rfl fun r1 w2 h hF=>qcw (qi rfl hF ?_ ?_)))<;>intro hF
  ·refine X0 5 rfl ?_
   obtain rfl:=qb hF;replace hF:=hK1
   exact ri h hF rfl
  exact X0 6 rfl (rK ⟨_,hF,rfl,h⟩ rfl)
 refine qm rfl ?_
 obtain rfl:=qb hF;replace hF:=hK1
 exact X0 4 rfl (ri h hF rfl)
def qac (n:Nat) (s:(List qF)) (f_0:Tplace):Option Bool :=
 (qaM n s f_0).bind fun r1 =>
 some (decide (r1 ≥ 0))
theorem qdx {s:(List qF)} {f_0:Tplace} (ha1:GoT.R w (old w) s cs1) {p2:Option Addr} (ha2:GoT.R w (old w) (some f_0) [.pointer p2]) {r:Bool} (hF:qac n s f_0=some r):RetV Tryz.prog 146 [GoT.v (List qF) cs1,.func (.func 147) #[] #[.pointer p2]] w r:=by
 obtain ⟨p1,k1,rfl,s1⟩:=ha1
 obtain ⟨b1,o_1,cs2,rfl,-,hr1,hc1⟩:=PtR.get ha2 rfl
 obtain rfl:=qcs hr1
 exact zV 9 Tryz.func146 rfl fun h=>X0 8 rfl (zcI h hF (qd6 ⟨_,_,rfl,(h.oldS s1)⟩ (h.old ha2)) rfl fun r1 w1 h hF=>X0 3 rfl (rb h hF rfl))
def qao (a_0:(Option Tview)) (y1:Tview) (y2:Tplace):Nat→(List Int)→Int→Option ((List Int) × Int)
 | 0,_,_=>none
 | n+1,x1,i1 =>
  bif decide (i1<(y1.places.length:Int)) then
   (idx y1.places i1).bind fun y3 =>
   bif (y3.net==y2.net) then
    bif (!y3.drives) then
     (qck n a_0 y3).bind fun r1 =>
     bif (!r1) then
      (appS x1 ([i1]:List Int)).bind fun x2 =>
      qao a_0 y1 y2 n x2 (W64 (i1+1))
     else
      qao a_0 y1 y2 n x1 (W64 (i1+1))
    else
     qao a_0 y1 y2 n x1 (W64 (i1+1))
   else
    qao a_0 y1 y2 n x1 (W64 (i1+1))
  else
   some (x1,i1)
def qbH (n:Nat) (a_0:(Option Tview)) (a_1:Int):Option (List Int) :=
 (a_0).bind fun y1 =>
 (idx y1.places a_1).bind fun y2 =>
 bif y2.drives then
  (qao a_0 y1 y2 n ([]:List Int) 0).bind fun o=>match o with
  | (x1,_) =>
   some x1
 else
  bif decide (y2.instance_<0) then some [] else
  (qgj n (⟨(⟨y1.Bj.Ai.Ah⟩:qn),(⟨y1.Bj.Ab.Aa,y1.Bj.Ab.Af,y1.Bj.Ab.Ac⟩:qf),y1.Bj.Aj⟩:qg) y2.instance_).bind fun r2 =>
  (qac n r2.Ap y2).bind fun r3 =>
  bif r3 then
   (qcm n r2).bind fun r4 =>
   some ([W64 ((W64 (a_1-y2.pin))+r4)]:List Int)
  else
   some []
theorem qfe {a_0:(Option Tview)} {a_1:Int} (ha1:GoT.R w (old w) a_0 cs1) {r:(List Int)} (hF:qbH n a_0 a_1=some r):RetV Tryz.prog 84 [GoT.v (Option Tview) cs1,.int .i64 a_1] w r:=by
 obtain ⟨p1,rfl,s1⟩:=qfs ha1
 refine zV 73 Tryz.func84 rfl fun h=>X0 7 rfl ?_
 obtain ⟨y1,hy1,hF⟩:=qd hF
 obtain ⟨b1,o_1,cs2,rfl,-,hr1,hc1⟩:=PtR.get s1 hy1
 obtain ⟨p2,k1,p3,k2,p4,k3,p5,k4,p6,k5,p7,k6,p8,k7,p9,k8,p10,k9,p11,k10,rfl,s2,s3,s4,s5,s6,s7,s8,s9,s10,s11⟩:=qir hr1
 refine zp2 rfl (zc 5 (hc1.below h.below) rfl (zp1 rfl ?_))
 obtain ⟨y2,hy2,hF,he1,b2,_,q1,cs3,hp1,hq1,hr2,hc2⟩:=s7.ix hF
 obtain rfl:=qcs hr2
 refine zxe hp1 hq1 he1 rfl (zc 0 (hc2.below h.below) rfl (qA qc h rfl rfl rfl fun w1 bb1 h=>zs 0 h rfl fun w2 h=>X1 11 0 h rfl (qi rfl hF ?_ ?_)))<;>intro hF
 ·refine X0 6 rfl (zc 5 (hc1.below h.below) rfl (X0 3 rfl ?_))
  replace h:=h.nil (α:=Int)
  obtain ⟨o1,hF,hK1⟩:=qd hF
  refine qk (rL (fun m e w'=>∃ (S1:Nat→Prop) (p12:Option Addr) (ln1:Nat) (k11:Nat) (x1:(List Int)) (i1:Int),qao a_0 y1 y2 m x1 i1=some o1∧e=[(0,.pointer (some ⟨b1,o_1,none⟩)),(5,.pointer (some ⟨bb1,0,none⟩)),(6,.slice p12 ln1 k11),(22,.slice p7 y1.places.length k6),(23,.int .i64 (y1.places.length:Int)),(24,.int .i64 i1)]∧SH w w' [Ch.own S1 (x1:List Int) [.slice p12 ln1 k11],Ch.box bb1 (ql7 y2) 131]) n ⟨_,_,_,_,_,_,hF,rfl,h⟩ rfl ?_)
  rintro m1 e1 w3 ⟨S1,p12,ln1,k11,x1,i1,hF,rfl,h⟩
  obtain rfl:=(h.sl 0 rfl).2
  rcases m1 with _|m1
  ·cases hF
  refine X0 5 rfl (qi rfl hF ?_ ?_)<;>intro hF
  ·refine X0 6 rfl ?_
   obtain ⟨y3,hy3,hF,he2,b3,_,q2,cs4,hp2,hq2,hr3,hc5⟩:=s7.ix hF
   obtain rfl:=qcs hr3
   refine zxe hp2 hq2 he2 rfl (zc 0 (hc5.below h.below) rfl (qA qc h rfl rfl rfl fun w4 bb2 h=>zp1 rfl (zs 0 h rfl fun w5 h=>X2 9 0 2 h rfl (ql (t:=34) hF rfl ?_ ?_))))<;>intro hF
   ·refine X1 8 0 h rfl (ql (t:=39) hF rfl ?_ ?_)<;>intro hF
    ·refine X1 5 0 h rfl (zcB h hF (qfk (h.old s1) (qhl y3)) rfl fun r1 w6 h hF=>X0 4 rfl (qi rfl hF ?_ ?_))<;>intro hF
     ·refine X0 3 rfl (qG qc [.tmp 46] _ ([i1]:List Int) h rfl rfl rfl rfl rfl rfl rfl rfl rfl ⟨rfl,trivial⟩ rfl fun w7 p13 S2 h=>?_)
      obtain ⟨x2,hx1,hF⟩:=qd hF
      obtain ⟨g1,hx1⟩:=qae hx1
      refine qcg qc 2 h rfl (h.sl 0 rfl).1 (h.sl 0 rfl).2 rfl rfl rfl rfl rfl rfl rfl rfl rfl g1 hx1 rfl fun w8 p14 k12 S3 h=>X0 7 rfl ?_
      replace h:=h.pick [2,3] rfl
      exact rK ⟨_,_,_,_,_,_,hF,rfl,h⟩ rfl
     refine X0 6 rfl ?_
     replace h:=h.pick [1,2] rfl
     exact rK ⟨_,_,_,_,_,_,hF,rfl,h⟩ rfl
    refine X0 6 rfl (qbK rfl rfl (X0 6 rfl ?_))
    replace h:=h.pick [1,2] rfl
    exact rK ⟨_,_,_,_,_,_,hF,rfl,h⟩ rfl
   refine X0 11 rfl (qbK rfl rfl (X0 6 rfl ?_))
   replace h:=h.pick [1,2] rfl
   exact rK ⟨_,_,_,_,_,_,hF,rfl,h⟩ rfl
  refine qm rfl ?_
  obtain rfl:=qb hF;replace hF:=hK1
  refine X0 5 rfl ?_
  obtain rfl:=qb hF
  exact rO 0 h rfl ⟨rfl,trivial⟩
 refine X1 8 0 h rfl (qi rfl hF ?_ ?_)<;>intro hF
 ·refine X0 4 rfl ?_
  obtain rfl:=qb hF
  exact qak qc (ρ:=(List Int)) [GoT.v (List Int) [.slice none 0 0]] h ⟨rfl,trivial⟩ (PV.done h (qat qhH))
 refine zKS (rA [] [0] h rfl fun w9 h=>M0 7 [0,1,2] (h.pick [0] rfl) rfl (Al 3 15 0 hc1 (h.pick [0] rfl) rfl (M1 63 [4,5] 0 (h.pick [0] rfl) rfl ?_)))
 obtain ⟨r2,hr5,hF⟩:=qd hF
 refine qtM (fun e w'=>∃ (bb7:Nat) (p27:Option Addr) (k25:Nat) (p28:Option Addr) (k26:Nat) (p29:Option Addr) (k27:Nat) (S8:Nat→Prop),e=[(1,.int .i64 a_1),(5,.pointer (some ⟨bb1,0,none⟩)),(9,.pointer (some ⟨bb7,0,none⟩))]∧SH w w' [Ch.box bb7 (qbV r2 p27 p28 p29 k25 k26 k27) 201,Ch.grp (old w) S8 [fct (r2:qp) [.string r2.As,.int .i64 r2.Ar,.slice p27 r2.Am.length k25,.slice p28 r2.Ap.length k26,.slice p29 r2.Ay.length k27,.int .i64 r2.Bo,.int .i64 r2.Bg]],Ch.box bb1 (ql7 y2) 131]) 0 (bits 9 511) ?_ ?_
 ·intro K
  refine At 6 7 127 191 rfl ?_ ?_
  ·have hg3:Rg (old w) w (old w) w:=.start (fun _ h=>h)
   refine qoZ r2 hg3 h (cB 145 rfl) (qiV (hg3.atB h) (qm0 _ (hg3.inBS h s2) (hg3.inBS h s3) (hg3.inBS h s4) (hg3.inBS h s5) (hg3.inBS h s6)) hr5) rfl rfl rfl rfl fun w17 us3 S7 h hv3=>?_
   obtain ⟨cs7,rfl,hr10⟩:=qmQ hv3
   have hr11:=hr10
   obtain ⟨p24,k22,p25,k23,p26,k24,rfl,s18,s19,s20⟩:=qJ hr10
   replace h:=h.grpAdd 0 rfl hr11
   exact Ag (h.pick [1] rfl) (Ao 7 255 rfl (qA qc h rfl rfl rfl fun w18 bb6 h=>Ag (h.pick [2] rfl) (Ao 8 511 rfl (zs 0 h rfl fun w19 h=>Ag (h.pick [2] rfl) (qtE [(1,_),(5,_),(9,_)] ⟨rfl,rfl,rfl,trivial⟩ (K _ _ ⟨_,_,_,_,_,_,_,_,rfl,h⟩))))))
  refine qA qc h rfl rfl rfl fun w17 bb6 h=>Ag (h.pick [1] rfl) (Ao 6 255 rfl ?_)
  have hg3:Rg (old w) w (old w) w:=.start (fun _ h=>h)
  refine qoZ r2 hg3 h (cB 145 rfl) (qiV (hg3.atB h) (qm0 _ (hg3.inBS h s2) (hg3.inBS h s3) (hg3.inBS h s4) (hg3.inBS h s5) (hg3.inBS h s6)) hr5) rfl rfl rfl rfl fun w18 us3 S7 h hv3=>?_
  obtain ⟨cs7,rfl,hr10⟩:=qmQ hv3
  have hr11:=hr10
  obtain ⟨p24,k22,p25,k23,p26,k24,rfl,s18,s19,s20⟩:=qJ hr10
  replace h:=h.grpAdd 0 rfl hr11
  refine Ag (h.pick [2] rfl) (Ao 8 511 rfl (zs 1 h rfl fun w19 h=>Ag (h.pick [2] rfl) ?_))
  replace h:=h.pick [1,0,2] rfl
  exact qtE [(1,_),(5,_),(9,_)] ⟨rfl,rfl,rfl,trivial⟩ (K _ _ ⟨_,_,_,_,_,_,_,_,rfl,h⟩)
 rintro e3 w20 ⟨bb7,p27,k25,p28,k26,p29,k27,S8,rfl,h⟩
 refine Ad (X1 6 0 h rfl (zcB h hF (qdx ⟨_,_,rfl,(qin (h.grp 1 0 rfl rfl)).2.1.1⟩ (qiG (x:=y2) 2 h rfl (qhl y2))) rfl fun r3 w21 h hF=>qcw (qi rfl hF ?_ ?_)))<;>intro hF
 ·refine qgT (rA [] [0,2] h rfl fun w22 h=>M2 31 [0,1,2,3,4] 1 0 (h.pick [0,2] rfl) rfl (Ao 5 63 rfl (zcI h hF (qe6 (h.grp 1 0 rfl rfl)) rfl fun r4 w23 h hF=>G0 127 [6] (h.pick [0,2] rfl) rfl (Ao 7 255 rfl (qG qc [.tmp 71] _ ([W64 ((W64 (a_1-y2.pin))+r4)]:List Int) h rfl rfl rfl rfl rfl rfl rfl rfl rfl ⟨rfl,trivial⟩ rfl fun w24 p30 S9 h=>G0 511 [8] (h.pick [1,3] rfl) rfl (Ad ?_))))))
  replace h:=h.pick [0,1,3] rfl
  obtain rfl:=qb hF
  exact rO 0 h rfl ⟨rfl,trivial⟩
 refine X0 5 rfl ?_
 replace h:=h.pick [0,2] rfl
 obtain rfl:=qb hF
 exact qak qc (ρ:=(List Int)) [GoT.v (List Int) [.slice none 0 0]] h ⟨rfl,trivial⟩ (PV.done h (qat qhH))
end Go.Fw
