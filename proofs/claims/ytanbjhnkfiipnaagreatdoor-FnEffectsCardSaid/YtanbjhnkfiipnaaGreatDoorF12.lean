/- By a program of mine (gen.py): for each function a plain function and the proof that the code computes it. -/
import Derived.Test.YtanbjhnkfiipnaaGreatDoorG2
import Derived.Test.YtanbjhnkfiipnaaGreatDoorFw38
open Option renaming bind_some → je
open Nat renaming le_refl → jf, le_of_ble_eq_true → jr, lt_of_lt_of_le → js, mul_le_mul_right → jt, zero_le → jw, succ_mul → jE, le_trans → jR, zero_add → jS
open List renaming length_append → jg, length_singleton → jj, getElem?_eq_getElem → jm, mem_cons_of_mem → jo, mem_cons_self → jp, getElem_mem → jq, mem_of_getElem? → ju, eq_nil_of_length_eq_zero → jx, getD_eq_getElem?_getD → jy, not_mem_nil → jz, length_map → jB, getElem?_append_left → jC, getElem?_take → jF, getElem?_toArray → jG, getElem?_append_right → jH, mem_cons → jI, size_toArray → jJ, append_nil → jL, getElem_of_mem → jM, take_length → jN, append_assoc → jO, all_eq_true → jQ
open Bool renaming and_eq_true → jh, eq_iff_iff → jk, true_and → jv, not_eq_true' → jD, and_assoc → jP, not_true → jT
open Go.Result renaming andThen_ok → ji
open Go.Sem renaming run_bind → jl, run_pure → jn
open Int renaming toNat_natCast → jA
open Array renaming getElem?_append_left → jK

namespace Go.Fw
open Go Go.Proofs
open Go.RowKit (Below)
set_option maxRecDepth 100000
set_option maxHeartbeats 6400000
variable {n:Nat} {w:World} {cs1 cs2 cs3 cs4 cs5 cs6 cs7 cs8 cs9:List Value}
def qbG (b:qc) (list:(List Int)) (sorted:Bool):Nat→Int→Option (Flow Bool Int)
 | 0,_=>none
 | n+1,i1 =>
  bif decide (i1<(list.length:Int)) then
   (idx list i1).bind fun y1 =>
   (qaw n b).bind fun r1 =>
   (qaq n y1 0 (W64 (r1-1))).bind fun r2 =>
   bif (!r2) then some (.ret false) else
   bif sorted then
    bif decide (i1 > 0) then
     (idx list (W64 (i1-1))).bind fun y2 =>
     (idx list i1).bind fun y3 =>
     bif decide (y2 ≥ y3) then some (.ret false) else
     qbG b list sorted n (W64 (i1+1))
    else
     qbG b list sorted n (W64 (i1+1))
   else
    qbG b list sorted n (W64 (i1+1))
  else
   some (.nxt i1)
def qev (n:Nat) (b:qc) (list:(List Int)) (sorted:Bool):Option Bool :=
 (qbG b list sorted n 0).bind fun o=>match o with
 | .ret r=>some r
 | .nxt _ =>
  some (decide ((list.length:Int)≤4))
theorem qgf {b:qc} {list:(List Int)} {sorted:Bool} (ha1:GoT.R w (old w) b cs1) (ha2:GoT.R w (old w) list cs2) {r:Bool} (hF:qev n b list sorted=some r):RetV Tryz.prog 135 [GoT.v qc cs1,GoT.v (List Int) cs2,.bool sorted] w r:=by
 obtain ⟨p1,k1,p2,k2,p3,k3,p4,k4,p5,k5,rfl,s1,s2,s3,s4,s5⟩:=qJ ha1
 obtain ⟨p6,k6,rfl,s6⟩:=ha2
 refine zV 45 Tryz.func135 rfl fun h=>zSR (qS h rfl rfl fun w1 bb1 h=>X0 7 rfl ?_)
 obtain ⟨o1,hF,hK1⟩:=qe hF
 refine qu (rL (fun m e w'=>∃ (i1:Int),qbG b list sorted m i1=some o1∧e=[(1,.slice p6 list.length k6),(2,.bool sorted),(3,.pointer (some ⟨bb1,0,none⟩)),(7,.int .i64 i1)]∧SH w w' [Ch.box bb1 (qp b p1 p2 p3 p4 p5 k1 k2 k3 k4 k5) 34]) n ⟨_,hF,rfl,h⟩ rfl ?_)
 rintro m1 e1 w2 ⟨i1,hF,rfl,h⟩
 rcases m1 with _|m1
 ·cases hF
 refine X0 8 rfl (qm rfl hF ?_ ?_)<;>intro hF
 ·refine X0 4 rfl (rD (zd2 rfl ?_))
  obtain ⟨y1,hy1,hF,he1,b1,_,q1,cs3,hp1,hq1,rfl,hc2⟩:=s6.ix hF
  refine zdxe hp1 hq1 he1 rfl (zdc 0 (hc2.below h.below) rfl (Y1 1 0 h rfl ?_))
  obtain ⟨r1,hr2,hF⟩:=qe hF
  refine qcq r1 (vsI _) (cB 40 rfl) (fun _ hb=>qbh ((h.ext hb).old ha1) hr2) rfl rfl rfl rfl (zd1 rfl ?_)
  obtain ⟨r2,hr3,hF⟩:=qe hF
  refine qcq r2 (vsB _) (cB 39 rfl) (fun _ hb=>qaa  hr3) rfl rfl rfl rfl (zd2 rfl (qaJ (t:=23) hF rfl ?_ ?_))<;>intro hF
  ·refine Y0 18 rfl (dN h fun w3 h=>qdb rfl rfl (X0 4 rfl ?_))
   obtain rfl:=qd hF;replace hF:=hK1
   exact rb h hF rfl
  refine Y0 4 rfl (qaJ (t:=25) hF rfl ?_ ?_)<;>intro hF
  ·refine Y0 8 rfl (qaJ (t:=29) hF rfl ?_ ?_)<;>intro hF
   ·refine Y0 7 rfl ?_
    obtain ⟨y2,hy2,hF,he2,b2,_,q2,cs4,hp2,hq2,rfl,hc3⟩:=s6.ix hF
    refine zdxe hp2 hq2 he2 rfl (Y0 1 rfl (zdc 0 (hc3.below h.below) rfl (Y0 5 rfl ?_)))
    obtain ⟨y3,hy3,hF,he3,b3,_,q3,cs5,hp3,hq3,rfl,hc4⟩:=s6.ix hF
    refine zdxe hp3 hq3 he3 rfl (Y0 1 rfl (zdc 0 (hc4.below h.below) rfl (Y0 5 rfl (dN h fun w4 h=>qm rfl hF ?_ ?_))))<;>intro hF
    ·refine X0 4 rfl ?_
     obtain rfl:=qd hF;replace hF:=hK1
     exact rb h hF rfl
    exact X0 7 rfl (rK ⟨_,hF,rfl,h⟩ rfl)
   exact Y0 13 rfl (dN h fun w5 h=>qbO rfl rfl (X0 7 rfl (rK ⟨_,hF,rfl,h⟩ rfl)))
  exact Y0 19 rfl (dN h fun w6 h=>qbO rfl rfl (X0 7 rfl (rK ⟨_,hF,rfl,h⟩ rfl)))
 refine qA rfl ?_
 obtain rfl:=qd hF;replace hF:=hK1
 exact X0 7 rfl (rb h hF rfl)
def qfj (n:Nat) (b:qc) (a_e:qa):Option Bool :=
 (
  (qeH n b).bind fun r4 =>
  bif (!r4) then some true else
  (qev n b a_e.As true).bind fun r5 =>
  bif (!r5) then some true else
  (qev n b a_e.Am false).bind fun r6 =>
  bif (!r6) then some true else
  (qev n b a_e.To true).bind fun r7 =>
  some (!r7)).bind fun b1 =>
 bif b1 then some false else
 bif (a_e.Ar==1) then some (a_e.Ba==0) else
 bif (a_e.Ar==2) then
  (qaq n a_e.Ba 1 10).bind fun r1 =>
  some r1
 else
  bif (a_e.Ar==3) then
   bif (a_e.Ar==3) then
    (qaq n a_e.Ba 0 1000000000).bind fun r2 =>
    some r2
   else
    some false
  else
   bif (a_e.Ar==4) then
    (qaq n a_e.Ba 0 1000000000).bind fun r3 =>
    some r3
   else
    some false
theorem qju {b:qc} {a_e:qa} (ha1:GoT.R w (old w) b cs1) (ha2:GoT.R w (old w) a_e cs2) {r:Bool} (hF:qfj n b a_e=some r):RetV Tryz.prog 98 [GoT.v qc cs1,GoT.v qa cs2] w r:=by
 obtain ⟨p1,k1,p2,k2,p3,k3,p4,k4,p5,k5,rfl,s1,s2,s3,s4,s5⟩:=qJ ha1
 obtain ⟨p6,k6,p7,k7,p8,k8,rfl,s6,s7,s8⟩:=qB ha2
 refine zV 47 Tryz.func98 rfl fun h=>zSR (qS h rfl rfl fun w1 bb1 h=>qS h rfl rfl fun w2 bb2 h=>X0 4 rfl ?_)
 obtain ⟨KF1,hKF1,o1,hF,hK1⟩:=bindE hF
 refine qaV (fun e w'=>∃ (b1:Bool),KF1 b1=some r∧e=[(3,.pointer (some ⟨bb2,0,none⟩)),(28,.bool b1)]∧SH w w' [Ch.box bb2 (qdd a_e p6 p7 p8 k6 k7 k8) 59]) ?_ ?_
 ·refine X1 2 1 h rfl (zcB h hF (qfJ (h.old ha1)) rfl fun r4 w6 h hF=>zp2 rfl (qj (t:=8) hF rfl ?_ ?_))<;>intro hF
  ·refine X0 21 rfl ?_
   replace h:=h.pick [0] rfl
   obtain rfl:=qd hF
   exact rG ⟨_,hK1,rfl,h⟩ rfl
  refine X2 7 1 0 h rfl (zcB h hF (qgf (h.old ha1) ⟨_,_,rfl,(h.oldS s6)⟩) rfl fun r5 w7 h hF=>X0 4 rfl (qj (t:=15) hF rfl ?_ ?_))<;>intro hF
  ·refine X0 14 rfl ?_
   replace h:=h.pick [0] rfl
   obtain rfl:=qd hF
   exact rG ⟨_,hK1,rfl,h⟩ rfl
  refine X2 7 1 0 h rfl (zcB h hF (qgf (h.old ha1) ⟨_,_,rfl,(h.oldS s7)⟩) rfl fun r6 w8 h hF=>X0 4 rfl (qj (t:=22) hF rfl ?_ ?_))<;>intro hF
  ·refine X0 7 rfl ?_
   replace h:=h.pick [0] rfl
   obtain rfl:=qd hF
   exact rG ⟨_,hK1,rfl,h⟩ rfl
  refine X2 7 1 0 h rfl (zcB h hF (qgf (h.old ha1) ⟨_,_,rfl,(h.oldS s8)⟩) rfl fun r7 w9 h hF=>X0 4 rfl ?_)
  replace h:=h.pick [0] rfl
  obtain rfl:=qd hF
  exact rG ⟨_,hK1,rfl,h⟩ rfl
 rintro e1 w10 ⟨b1,hF,rfl,h⟩
 subst hKF1
 refine qm rfl hF ?_ ?_<;>intro hF
 ·exact X0 4 rfl (rb h hF rfl)
 refine X1 13 0 h rfl (qm rfl hF ?_ ?_)<;>intro hF
 ·exact X1 7 0 h rfl (rb h hF rfl)
 refine X0 5 rfl (qm rfl hF ?_ ?_)<;>intro hF
 ·exact X1 4 0 h rfl (zcB h hF qaa rfl fun r1 w3 h hF=>X0 2 rfl (rb h hF rfl))
 refine X0 6 rfl (qm rfl hF ?_ ?_)<;>intro hF
 ·refine qdy (qm rfl hF ?_ ?_)<;>intro hF
  ·exact X1 4 0 h rfl (zcB h hF qaa rfl fun r2 w4 h hF=>X0 2 rfl (rb h hF rfl))
  exact X0 6 rfl (rb h hF rfl)
 refine X0 4 rfl (qm rfl hF ?_ ?_)<;>intro hF
 ·exact X1 4 0 h rfl (zcB h hF qaa rfl fun r3 w5 h hF=>X0 2 rfl (rb h hF rfl))
 exact X0 6 rfl (rb h hF rfl)
def qhl (n:Nat) (kind:Int) (value:Int):Option Bool :=
 bif (kind==1) then some (value==0) else
 bif (kind==2) then
  (qaD n value 1 10).bind fun r1 =>
  some r1
 else
  bif (kind==3) then
   bif (kind==3) then
    (qaD n value 0 1000000000).bind fun r2 =>
    some r2
   else
    some false
  else
   bif (kind==4) then
    (qaD n value 0 1000000000).bind fun r3 =>
    some r3
   else
    some false
theorem qkV {kind:Int} {value:Int}  {r:Bool} (hF:qhl n kind value=some r):RetV Tryz.prog 112 [.int .i64 kind,.int .i64 value] w r:=by
 refine zV 19 Tryz.func112 rfl fun h=>X0 15 rfl (qm rfl hF ?_ ?_)<;>intro hF
 ·exact X0 6 rfl (rb h hF rfl)
 refine X0 5 rfl (qm rfl hF ?_ ?_)<;>intro hF
 ·exact X0 3 rfl (zcB h hF qat rfl fun r1 w1 h hF=>X0 2 rfl (rb h hF rfl))
 refine X0 6 rfl (qm rfl hF ?_ ?_)<;>intro hF
 ·refine qdy (qm rfl hF ?_ ?_)<;>intro hF
  ·exact X0 3 rfl (zcB h hF qat rfl fun r2 w2 h hF=>X0 2 rfl (rb h hF rfl))
  exact X0 6 rfl (rb h hF rfl)
 refine X0 4 rfl (qm rfl hF ?_ ?_)<;>intro hF
 ·exact X0 3 rfl (zcB h hF qat rfl fun r3 w3 h hF=>X0 2 rfl (rb h hF rfl))
 exact X0 6 rfl (rb h hF rfl)
def qak (v:(Option Tview)) (a_e:qa):Nat→Int→Option (Flow Bool Int)
 | 0,_=>none
 | n+1,i1 =>
  bif decide (i1<((3:Nat):Int)) then
   (idx ([a_e.As,a_e.Am,a_e.To]:List (List Int)) i1).bind fun y1 =>
   bif decide ((y1.length:Int) > 4) then some (.ret false) else
   (v).bind fun y2 =>
   (qba n y2.places).bind fun r1 =>
   (qbe n y1 0 (W64 (r1-1))).bind fun r2 =>
   bif (!r2) then some (.ret false) else
   qak v a_e n (W64 (i1+1))
  else
   some (.nxt i1)
def qcs (n:Nat) (v:(Option Tview)) (a_e:qa):Option Bool :=
 (qak v a_e n 0).bind fun o=>match o with
 | .ret r=>some r
 | .nxt _ =>
  (qhl n a_e.Ar a_e.Ba).bind fun r3 =>
  bif r3 then
   (qcN n a_e.As).bind fun r4 =>
   bif r4 then
    (qcN n a_e.To).bind fun r5 =>
    some r5
   else
    some false
  else
   some false
theorem qfD {v:(Option Tview)} {a_e:qa} (ha1:GoT.R w (old w) v cs1) (ha2:GoT.R w (old w) a_e cs2) {r:Bool} (hF:qcs n v a_e=some r):RetV Tryz.prog 65 [GoT.v (Option Tview) cs1,GoT.v qa cs2] w r:=by
 obtain ⟨p1,rfl,s1⟩:=qfE ha1
 obtain ⟨p2,k1,p3,k2,p4,k3,rfl,s2,s3,s4⟩:=qB ha2
 refine zV 49 Tryz.func65 rfl fun h=>zSR (qS h rfl rfl fun w1 bb1 h=>X3 11 0 0 0 h rfl (qdj qb [.tmp 8,.tmp 10,.tmp 12] _ ([a_e.As,a_e.Am,a_e.To]:List (List Int)) h rfl rfl rfl rfl rfl rfl rfl rfl rfl ⟨⟨_,_,rfl,s2⟩,⟨_,_,rfl,s3⟩,⟨_,_,rfl,s4⟩,trivial⟩ rfl fun w2 p5 S1 h=>X0 3 rfl ?_))
 obtain ⟨o1,hF,hK1⟩:=qe hF
 refine qu (rL (fun m e w'=>∃ (i1:Int),qak v a_e m i1=some o1∧e=[(0,.pointer p1),(3,.pointer (some ⟨bb1,0,none⟩)),(13,.slice p5 3 3),(14,.int .i64 ((3:Nat):Int)),(15,.int .i64 i1)]∧SH w w' [Ch.rowD w S1 (([a_e.As,a_e.Am,a_e.To]:List (List Int)):List (List Int)) p5 3,Ch.box bb1 (qdd a_e p2 p3 p4 k1 k2 k3) 59]) n ⟨_,hF,rfl,h⟩ rfl ?_)
 rintro m1 e1 w3 ⟨i1,hF,rfl,h⟩
 rcases m1 with _|m1
 ·cases hF
 refine X0 5 rfl (qm rfl hF ?_ ?_)<;>intro hF
 ·refine zKSBSR ?_
  obtain ⟨y1,hy1,hF⟩:=qe hF
  have he1:=qbd hy1
  obtain ⟨b1,o_1,q1,cs3,hp1,hq1,-,hr1,hc2⟩:=h.atD 0 rfl hy1
  obtain ⟨p6,k4,rfl,s5⟩:=hr1
  refine zxe hp1 hq1 he1 rfl (zc 0 hc2 rfl (X0 8 rfl (qj (t:=22) hF rfl ?_ ?_)))<;>intro hF
  ·refine X0 11 rfl (qdb rfl rfl (X0 4 rfl ?_))
   obtain rfl:=qd hF;replace hF:=hK1
   exact rb h hF rfl
  refine X0 5 rfl ?_
  obtain ⟨y2,hy2,hF⟩:=qe hF
  obtain ⟨b2,o_2,cs4,rfl,-,hr2,hc3⟩:=PtR.get s1 hy2
  obtain ⟨p7,k5,p8,k6,p9,k7,p10,k8,p11,k9,p12,k10,p13,k11,p14,k12,p15,k13,p16,k14,rfl,s6,s7,s8,s9,s10,s11,s12,s13,s14,s15⟩:=qil hr2
  refine X0 4 rfl (zc 5 (hc3.below h.below) rfl (X0 1 rfl (zcI h hF (qfw ⟨_,_,rfl,(h.oldS s11)⟩) rfl fun r1 w4 h hF=>X0 3 rfl (zcB h hF (qbH ⟨_,_,rfl,(h.oldS s5)⟩) rfl fun r2 w5 h hF=>X0 4 rfl (qm rfl hF ?_ ?_)))))<;>intro hF
  ·refine X0 4 rfl ?_
   obtain rfl:=qd hF;replace hF:=hK1
   exact rb h hF rfl
  exact X0 6 rfl (rK ⟨_,hF,rfl,h⟩ rfl)
 refine qA rfl ?_
 obtain rfl:=qd hF;replace hF:=hK1
 refine X2 6 1 1 h rfl (zcB h hF qkV rfl fun r3 w6 h hF=>zp1 rfl (qj (t:=39) hF rfl ?_ ?_))<;>intro hF
 ·refine X1 5 1 h rfl (zcB h hF (qfc ⟨_,_,rfl,(h.oldS s2)⟩) rfl fun r4 w7 h hF=>zp2 rfl (qj (t:=44) hF rfl ?_ ?_))<;>intro hF
  ·exact X1 5 1 h rfl (zcB h hF (qfc ⟨_,_,rfl,(h.oldS s4)⟩) rfl fun r5 w8 h hF=>X0 3 rfl (rb h hF rfl))
  exact X0 6 rfl (rb h hF rfl)
 exact X0 11 rfl (rb h hF rfl)
def qdB (a_0:qa) (a_1:(List Int)):Nat→Int→Int→Option (Int × Int)
 | 0,_,_=>none
 | n+1,i1,i2 =>
  bif decide (i2<(a_1.length:Int)) then
   bif decide (i1<(a_0.Am.length:Int)) then
    (idx a_0.Am i1).bind fun y1 =>
    (idx a_1 i2).bind fun y2 =>
    bif (y1==y2) then qdB a_0 a_1 n (W64 (i1+1)) (W64 (i2+1)) else
    qdB a_0 a_1 n i1 (W64 (i2+1))
   else
    qdB a_0 a_1 n i1 (W64 (i2+1))
  else
   some (i1,i2)
def qiD (n:Nat) (a_0:qa) (a_1:(List Int)):Option Bool :=
 (
  bif decide ((a_0.As.length:Int) > 0) then
   (idx a_1 0).bind fun y3 =>
   (qe5 n a_0.As y3).bind fun r1 =>
   bif decide (r1<0) then some true else
   bif decide ((a_0.To.length:Int) > 0) then
    (idx a_1 (W64 ((a_1.length:Int)-1))).bind fun y4 =>
    (qe5 n a_0.To y4).bind fun r2 =>
    some (decide (r2<0))
   else
    some false
  else
   bif decide ((a_0.To.length:Int) > 0) then
    (idx a_1 (W64 ((a_1.length:Int)-1))).bind fun y5 =>
    (qe5 n a_0.To y5).bind fun r3 =>
    some (decide (r3<0))
   else
    some false).bind fun b1 =>
 bif b1 then some false else
 (qdB a_0 a_1 n 0 0).bind fun o=>match o with
 | (i1,_) =>
  some (i1==(a_0.Am.length:Int))
theorem qjF {a_0:qa} {a_1:(List Int)} (ha1:GoT.R w (old w) a_0 cs1) (ha2:GoT.R w (old w) a_1 cs2) {r:Bool} (hF:qiD n a_0 a_1=some r):RetV Tryz.prog 63 [GoT.v qa cs1,GoT.v (List Int) cs2] w r:=by
 obtain ⟨p1,k1,p2,k2,p3,k3,rfl,s1,s2,s3⟩:=qB ha1
 obtain ⟨p4,k4,rfl,s4⟩:=ha2
 refine zV 68 Tryz.func63 rfl fun h=>zSR (qS h rfl rfl fun w1 bb1 h=>X0 4 rfl ?_)
 obtain ⟨KF1,hKF1,o2,hF,hK2⟩:=bindE hF
 refine qaV (fun e w'=>∃ (b1:Bool),KF1 b1=some r∧e=[(1,.slice p4 a_1.length k4),(2,.pointer (some ⟨bb1,0,none⟩)),(37,.bool b1)]∧SH w w' [Ch.box bb1 (qdd a_0 p1 p2 p3 k1 k2 k3) 59]) ?_ ?_
 ·refine rD (Y1 2 0 h rfl ?_)
  refine zd3 rfl (qaJ (t:=11) hF rfl ?_ ?_)<;>intro hF
  ·refine Y1 4 0 h rfl ?_
   refine Y0 3 rfl ?_
   obtain ⟨y3,hy3,hF,he3,b4,_,q3,cs5,hp3,hq3,rfl,hc6⟩:=s4.ix hF
   refine zdxe hp3 hq3 he3 rfl (Y0 1 rfl (zdc 0 (hc6.below h.below) rfl (Y0 1 rfl ?_)))
   obtain ⟨r1,hr4,hF⟩:=qe hF
   refine qcq r1 (vsI _) (cB 99 rfl) (fun _ hb=>qgg ⟨_,_,rfl,((h.ext hb).oldS s1)⟩ hr4) rfl rfl rfl rfl (Y0 4 rfl (qaJ (t:=20) hF rfl ?_ ?_))<;>intro hF
   ·refine Y0 17 rfl (dN h fun w5 h=>?_)
    obtain rfl:=qd hF
    exact rG ⟨_,hK2,rfl,h⟩ rfl
   refine Y1 4 0 h rfl ?_
   refine Y0 6 rfl (qaJ (t:=25) hF rfl ?_ ?_)<;>intro hF
   ·refine Y1 4 0 h rfl ?_
    refine Y0 9 rfl ?_
    obtain ⟨y4,hy4,hF,he4,b5,_,q4,cs6,hp4,hq4,rfl,hc7⟩:=s4.ix hF
    refine zdxe hp4 hq4 he4 rfl (Y0 1 rfl (zdc 0 (hc7.below h.below) rfl (Y0 1 rfl ?_)))
    obtain ⟨r2,hr6,hF⟩:=qe hF
    refine qcq r2 (vsI _) (cB 99 rfl) (fun _ hb=>qgg ⟨_,_,rfl,((h.ext hb).oldS s3)⟩ hr6) rfl rfl rfl rfl (Y0 5 rfl (dN h fun w6 h=>?_))
    obtain rfl:=qd hF
    exact rG ⟨_,hK2,rfl,h⟩ rfl
   refine Y0 13 rfl (dN h fun w7 h=>?_)
   obtain rfl:=qd hF
   exact rG ⟨_,hK2,rfl,h⟩ rfl
  refine Y1 13 0 h rfl ?_
  refine Y0 6 rfl (qaJ (t:=25) hF rfl ?_ ?_)<;>intro hF
  ·refine Y1 4 0 h rfl ?_
   refine Y0 9 rfl ?_
   obtain ⟨y5,hy5,hF,he5,b6,_,q5,cs7,hp5,hq5,rfl,hc8⟩:=s4.ix hF
   refine zdxe hp5 hq5 he5 rfl (Y0 1 rfl (zdc 0 (hc8.below h.below) rfl (Y0 1 rfl ?_)))
   obtain ⟨r3,hr8,hF⟩:=qe hF
   refine qcq r3 (vsI _) (cB 99 rfl) (fun _ hb=>qgg ⟨_,_,rfl,((h.ext hb).oldS s3)⟩ hr8) rfl rfl rfl rfl (Y0 5 rfl (dN h fun w8 h=>?_))
   obtain rfl:=qd hF
   exact rG ⟨_,hK2,rfl,h⟩ rfl
  refine Y0 13 rfl (dN h fun w9 h=>?_)
  obtain rfl:=qd hF
  exact rG ⟨_,hK2,rfl,h⟩ rfl
 rintro e2 w10 ⟨b1,hF,rfl,h⟩
 subst hKF1
 refine qm rfl hF ?_ ?_<;>intro hF
 ·exact X0 4 rfl (rb h hF rfl)
 refine X0 10 rfl ?_
 obtain ⟨o1,hF,hK1⟩:=qe hF
 refine qu (rL (fun m e w'=>∃ (i1:Int) (i2:Int),qdB a_0 a_1 m i1 i2=some o1∧e=[(1,.slice p4 a_1.length k4),(2,.pointer (some ⟨bb1,0,none⟩)),(5,.int .i64 i1),(6,.int .i64 i2)]∧SH w w' [Ch.box bb1 (qdd a_0 p1 p2 p3 k1 k2 k3) 59]) n ⟨_,_,hF,rfl,h⟩ rfl ?_)
 rintro m1 e1 w2 ⟨i1,i2,hF,rfl,h⟩
 rcases m1 with _|m1
 ·cases hF
 refine X0 8 rfl (qm rfl hF ?_ ?_)<;>intro hF
 ·refine X0 4 rfl (rD (Y1 3 0 h rfl ?_))
  refine zd3 rfl (qaJ (t:=49) hF rfl ?_ ?_)<;>intro hF
  ·refine Y1 4 0 h rfl ?_
   refine Y0 3 rfl ?_
   obtain ⟨y1,hy1,hF,he1,b2,_,q1,cs3,hp1,hq1,rfl,hc3⟩:=s2.ix hF
   refine zdxe hp1 hq1 he1 rfl (Y0 1 rfl (zdc 0 (hc3.below h.below) rfl (Y0 5 rfl ?_)))
   obtain ⟨y2,hy2,hF,he2,b3,_,q2,cs4,hp2,hq2,rfl,hc4⟩:=s4.ix hF
   refine zdxe hp2 hq2 he2 rfl (Y0 1 rfl (zdc 0 (hc4.below h.below) rfl (Y0 3 rfl (dN h fun w3 h=>qm rfl hF ?_ ?_))))<;>intro hF
   ·exact X0 11 rfl (rK ⟨_,_,hF,rfl,h⟩ rfl)
   exact X0 7 rfl (rK ⟨_,_,hF,rfl,h⟩ rfl)
  exact Y0 11 rfl (dN h fun w4 h=>qbO rfl rfl (X0 7 rfl (rK ⟨_,_,hF,rfl,h⟩ rfl)))
 refine qA rfl ?_
 obtain rfl:=qd hF;replace hF:=hK1
 exact X1 9 0 h rfl (rb h hF rfl)
def qcc (n:Nat) (a_e:qa) (found:Int) (place:Int):Option Int :=
 bif decide (found ≥ 0) then
  (qaf n a_e.Am).bind fun r1 =>
  bif decide (found<r1) then
   (idx a_e.Am found).bind fun y1 =>
   bif (y1==place) then some (W64 (found+1)) else
   some found
  else
   some found
 else
  some found
theorem qeG {a_e:qa} {found:Int} {place:Int} (ha1:GoT.R w (old w) a_e cs1) {r:Int} (hF:qcc n a_e found place=some r):RetV Tryz.prog 101 [GoT.v qa cs1,.int .i64 found,.int .i64 place] w r:=by
 obtain ⟨p1,k1,p2,k2,p3,k3,rfl,s1,s2,s3⟩:=qB ha1
 refine zV 28 Tryz.func101 rfl fun h=>zSR (qS h rfl rfl fun w1 bb1 h=>X0 8 rfl (qj (t:=9) hF rfl ?_ ?_))<;>intro hF
 ·refine X1 7 0 h rfl (zcI h hF (qaP ⟨_,_,rfl,(h.oldS s2)⟩) rfl fun r1 w2 h hF=>X0 4 rfl (qj (t:=16) hF rfl ?_ ?_))<;>intro hF
  ·refine X1 7 0 h rfl ?_
   obtain ⟨y1,hy1,hF,he1,b1,_,q1,cs2,hp1,hq1,rfl,hc1⟩:=s2.ix hF
   refine zxe hp1 hq1 he1 rfl (X0 1 rfl (zc 0 (hc1.below h.below) rfl (X0 6 rfl (qm rfl hF ?_ ?_))))<;>intro hF
   ·exact X0 6 rfl (ri h hF rfl)
   exact X0 6 rfl (ri h hF rfl)
  exact X0 9 rfl (qbO rfl rfl (X0 6 rfl (ri h hF rfl)))
 exact X0 16 rfl (qbO rfl rfl (X0 6 rfl (ri h hF rfl)))
def qd4 (n:Nat) (a_e:qa) (place:Int):Option Int :=
 bif decide ((a_e.As.length:Int) > 0) then
  (qbJ n a_e.As place).bind fun r1 =>
  bif (!r1) then some (-1) else
  (qcc n a_e 0 place).bind fun r2 =>
  some r2
 else
  (qcc n a_e 0 place).bind fun r3 =>
  some r3
theorem qh6 {a_e:qa} {place:Int} (ha1:GoT.R w (old w) a_e cs1) {r:Int} (hF:qd4 n a_e place=some r):RetV Tryz.prog 100 [GoT.v qa cs1,.int .i64 place] w r:=by
 obtain ⟨p1,k1,p2,k2,p3,k3,rfl,s1,s2,s3⟩:=qB ha1
 refine zV 19 Tryz.func100 rfl fun h=>zSR (qS h rfl rfl fun w1 bb1 h=>X1 10 0 h rfl (qj (t:=9) hF rfl ?_ ?_))<;>intro hF
 ·refine X1 7 0 h rfl (zcB h hF (qef ⟨_,_,rfl,(h.oldS s1)⟩) rfl fun r1 w2 h hF=>X0 4 rfl (qm rfl hF ?_ ?_))<;>intro hF
  ·exact X0 4 rfl (ri h hF rfl)
  exact X1 5 0 h rfl (zcI h hF (qeG (h.old ha1)) rfl fun r2 w3 h hF=>X0 2 rfl (ri h hF rfl))
 exact X0 7 rfl (qbO rfl rfl (X1 5 0 h rfl (zcI h hF (qeG (h.old ha1)) rfl fun r3 w4 h hF=>X0 2 rfl (ri h hF rfl))))
def qee (y1:qa) (x2:(List Int)):Nat→Int→Int→Option (Int × Int)
 | 0,_,_=>none
 | n+1,i2,i3 =>
  bif decide (i3<(x2.length:Int)) then
   (idx x2 i3).bind fun y3 =>
   (qcc n y1 i2 y3).bind fun r2 =>
   qee y1 x2 n r2 (W64 (i3+1))
  else
   some (i2,i3)
def qeb (list:(List qa)) (path:(List Int)):Nat→(List Int)→Int→Option ((List Int) × Int)
 | 0,_,_=>none
 | n+1,x1,i1 =>
  bif decide (i1<(list.length:Int)) then
   (idx list i1).bind fun y1 =>
   (idx path 0).bind fun y2 =>
   (qd4 n y1 y2).bind fun r1 =>
   (subS path 1 (path.length:Int)).bind fun x2 =>
   (qee y1 x2 n r1 0).bind fun o=>match o with
   | (i2,_) =>
    (appS x1 ([i2]:List Int)).bind fun x3 =>
    qeb list path n x3 (W64 (i1+1))
  else
   some (x1,i1)
def qhC (n:Nat) (list:(List qa)) (path:(List Int)):Option (List Int) :=
 (qeb list path n ([]:List Int) 0).bind fun o=>match o with
 | (x1,_) =>
  some x1
theorem qjC {list:(List qa)} {path:(List Int)} (ha1:GoT.R w (old w) list cs1) (ha2:GoT.R w (old w) path cs2) {r:(List Int)} (hF:qhC n list path=some r):RetV Tryz.prog 52 [GoT.v (List qa) cs1,GoT.v (List Int) cs2] w r:=by
 obtain ⟨p1,k1,rfl,s1⟩:=ha1
 obtain ⟨p2,k2,rfl,s2⟩:=ha2
 refine zV 40 Tryz.func52 rfl fun h=>X0 15 rfl ?_
 replace h:=h.nil (α:=Int)
 obtain ⟨o1,hF,hK1⟩:=qe hF
 refine qu (rL (fun m e w'=>∃ (S1:Nat→Prop) (p3:Option Addr) (ln1:Nat) (k3:Nat) (x1:(List Int)) (i1:Int),qeb list path m x1 i1=some o1∧e=[(1,.slice p2 path.length k2),(5,.slice p3 ln1 k3),(11,.slice p1 list.length k1),(12,.int .i64 (list.length:Int)),(13,.int .i64 i1)]∧SH w w' [Ch.own S1 (x1:List Int) [.slice p3 ln1 k3]]) n ⟨_,_,_,_,_,_,hF,rfl,h⟩ rfl ?_)
 rintro m1 e1 w1 ⟨S1,p3,ln1,k3,x1,i1,hF,rfl,h⟩
 obtain rfl:=(h.sl 0 rfl).2
 rcases m1 with _|m1
 ·cases hF
 refine X0 5 rfl (qm rfl hF ?_ ?_)<;>intro hF
 ·refine zKSBSR ?_
  obtain ⟨y1,hy1,hF,he1,b1,_,q1,cs3,hp1,hq1,hr1,hc2⟩:=s1.ix hF
  obtain ⟨p4,k4,p5,k5,p6,k6,rfl,s3,s4,s5⟩:=qB hr1
  refine zxe hp1 hq1 he1 rfl (zc 0 (hc2.below h.below) rfl (qx qb h rfl rfl rfl fun w2 bb1 h=>zs 0 h rfl fun w3 h=>zNS (rD (Y1 1 0 h rfl ?_))))
  refine zd1 rfl ?_
  obtain ⟨y2,hy2,hF,he2,b2,_,q2,cs4,hp2,hq2,rfl,hc3⟩:=s2.ix hF
  refine zdxe hp2 hq2 he2 rfl (zdc 0 (hc3.below h.below) rfl ?_)
  obtain ⟨r1,hr3,hF⟩:=qe hF
  refine qcq r1 (vsI _) (cB 100 rfl) (fun _ hb=>qh6 (qZ y1 ((h.ext hb).oldS s3) ((h.ext hb).oldS s4) ((h.ext hb).oldS s5)) hr3) rfl rfl rfl rfl (zd1 rfl (dN h fun w4 h=>X0 4 rfl ?_))
  obtain ⟨x2,hx1,hF⟩:=qe hF
  obtain ⟨p7,k7,hp3,hk1,hl1,g1⟩:=qkI (h.oldS s2) hx1
  refine r_v (qh0 qb rfl rfl rfl (qkk g1 rfl) hp3 hk1 hl1 rfl rfl rfl rfl) rfl ?_
  have s6:=qkD s2 hx1 hp3 hk1
  refine X0 3 rfl ?_
  obtain ⟨o2,hF,hK2⟩:=qe hF
  refine qu (rL (fun m e w'=>∃ (i2:Int) (i3:Int),qee y1 x2 m i2 i3=some o2∧e=[(1,.slice p2 path.length k2),(5,.slice p3 x1.length k3),(7,.pointer (some ⟨bb1,0,none⟩)),(8,.int .i64 i2),(11,.slice p1 list.length k1),(12,.int .i64 (list.length:Int)),(13,.int .i64 i1),(23,.slice p7 x2.length k7),(24,.int .i64 (x2.length:Int)),(25,.int .i64 i3)]∧SH w w' [Ch.box bb1 (qdd y1 p4 p5 p6 k4 k5 k6) 59,Ch.own S1 (x1:List Int) [.slice p3 x1.length k3]]) m1 ⟨_,_,hF,rfl,h⟩ rfl ?_)
  rintro m2 e2 w5 ⟨i2,i3,hF,rfl,h⟩
  rcases m2 with _|m2
  ·cases hF
  refine X0 5 rfl (qm rfl hF ?_ ?_)<;>intro hF
  ·refine zKSBSR ?_
   obtain ⟨y3,hy3,hF,he3,b3,_,q3,cs5,hp4,hq3,rfl,hc5⟩:=s6.ix hF
   exact zxe hp4 hq3 he3 rfl (zc 0 (hc5.below h.below) rfl (X1 6 0 h rfl (zcI h hF (qeG (qZ y1 (h.oldS s3) (h.oldS s4) (h.oldS s5))) rfl fun r2 w6 h hF=>X0 7 rfl (rK ⟨_,_,hF,rfl,h⟩ rfl))))
  refine qA rfl ?_
  obtain rfl:=qd hF;replace hF:=hK2
  refine X0 3 rfl (qn qb [.tmp 35] _ ([i2]:List Int) h rfl rfl rfl rfl rfl rfl rfl rfl rfl ⟨rfl,trivial⟩ rfl fun w7 p8 S2 h=>?_)
  obtain ⟨x3,hx2,hF⟩:=qe hF
  obtain ⟨g2,hx2⟩:=qk hx2
  refine qau qb 2 h rfl (h.sl 0 rfl).1 (h.sl 0 rfl).2 rfl rfl rfl rfl rfl rfl rfl rfl rfl g2 hx2 rfl fun w8 p9 k8 S3 h=>X0 7 rfl ?_
  replace h:=h.pick [2] rfl
  exact rK ⟨_,_,_,_,_,_,hF,rfl,h⟩ rfl
 refine qA rfl ?_
 obtain rfl:=qd hF;replace hF:=hK1
 refine X0 5 rfl ?_
 obtain rfl:=qd hF
 exact rO 0 h rfl ⟨rfl,trivial⟩
def qbY (n:Nat) (a_e:qa) (found:Int) (a_end:Int):Option Bool :=
 (qaf n a_e.Am).bind fun r1 =>
 bif (found==r1) then
  bif ((a_e.To.length:Int)==0) then some true else
  (qbJ n a_e.To a_end).bind fun r2 =>
  some r2
 else
  some false
theorem qfv {a_e:qa} {found:Int} {a_end:Int} (ha1:GoT.R w (old w) a_e cs1) {r:Bool} (hF:qbY n a_e found a_end=some r):RetV Tryz.prog 66 [GoT.v qa cs1,.int .i64 found,.int .i64 a_end] w r:=by
 obtain ⟨p1,k1,p2,k2,p3,k3,rfl,s1,s2,s3⟩:=qB ha1
 refine zV 24 Tryz.func66 rfl fun h=>zSR (qS h rfl rfl fun w1 bb1 h=>X1 7 0 h rfl (zcI h hF (qaP ⟨_,_,rfl,(h.oldS s2)⟩) rfl fun r1 w2 h hF=>zp2 rfl (qj (t:=12) hF rfl ?_ ?_)))<;>intro hF
 ·refine X1 10 0 h rfl (qj (t:=17) hF rfl ?_ ?_)<;>intro hF
  ·exact X0 9 rfl (rb h hF rfl)
  exact X1 7 0 h rfl (zcB h hF (qef ⟨_,_,rfl,(h.oldS s3)⟩) rfl fun r2 w3 h hF=>X0 5 rfl (rb h hF rfl))
 exact X0 13 rfl (rb h hF rfl)
end Go.Fw


namespace Go.Fw
open Go Go.Proofs
open Go.RowKit (Below)
set_option maxRecDepth 100000
set_option maxHeartbeats 6400000
variable {n:Nat} {w:World} {cs1 cs2 cs3 cs4 cs5 cs6 cs7 cs8 cs9:List Value}
def qdM (b:qc) (list:(List qa)):Nat→Int→Option (Flow Int Int)
 | 0,_=>none
 | n+1,i1 =>
  bif decide (i1<(list.length:Int)) then
   (idx list i1).bind fun y1 =>
   (qfj n b y1).bind fun r2 =>
   bif (!r2) then some (.ret 5) else
   qdM b list n (W64 (i1+1))
  else
   some (.nxt i1)
def qhh (n:Nat) (b:qc) (list:(List qa)):Option Int :=
 (qeH n b).bind fun r1 =>
 bif (!r1) then some 1 else
 bif decide ((list.length:Int) > 6) then some 3 else
 (qdM b list n 0).bind fun o=>match o with
 | .ret r=>some r
 | .nxt _ =>
  some 0
theorem qkX {b:qc} {list:(List qa)} (ha1:GoT.R w (old w) b cs1) (ha2:GoT.R w (old w) list cs2) {r:Int} (hF:qhh n b list=some r):RetV Tryz.prog 47 [GoT.v qc cs1,GoT.v (List qa) cs2] w r:=by
 obtain ⟨p1,k1,p2,k2,p3,k3,p4,k4,p5,k5,rfl,s1,s2,s3,s4,s5⟩:=qJ ha1
 obtain ⟨p6,k6,rfl,s6⟩:=ha2
 refine zV 25 Tryz.func47 rfl fun h=>zSR (qS h rfl rfl fun w1 bb1 h=>X1 6 0 h rfl (zcB h hF (qfJ (h.old ha1)) rfl fun r1 w2 h hF=>X0 2 rfl (qm rfl hF ?_ ?_)))<;>intro hF
 ·exact X0 4 rfl (ri h hF rfl)
 refine X0 8 rfl (qm rfl hF ?_ ?_)<;>intro hF
 ·exact X0 4 rfl (ri h hF rfl)
 refine X0 6 rfl ?_
 obtain ⟨o1,hF,hK1⟩:=qe hF
 refine qu (rL (fun m e w'=>∃ (i1:Int),qdM b list m i1=some o1∧e=[(1,.slice p6 list.length k6),(2,.pointer (some ⟨bb1,0,none⟩)),(5,.int .i64 i1)]∧SH w w' [Ch.box bb1 (qp b p1 p2 p3 p4 p5 k1 k2 k3 k4 k5) 34]) n ⟨_,hF,rfl,h⟩ rfl ?_)
 rintro m1 e1 w3 ⟨i1,hF,rfl,h⟩
 rcases m1 with _|m1
 ·cases hF
 refine X0 8 rfl (qm rfl hF ?_ ?_)<;>intro hF
 ·refine X0 4 rfl (rD (Y1 1 0 h rfl ?_))
  refine zd2 rfl ?_
  obtain ⟨y1,hy1,hF,he1,b1,_,q1,cs3,hp1,hq1,hr2,hc4⟩:=s6.ix hF
  obtain ⟨p7,k7,p8,k8,p9,k9,rfl,s7,s8,s9⟩:=qB hr2
  refine zdxe hp1 hq1 he1 rfl (zdc 0 (hc4.below h.below) rfl ?_)
  obtain ⟨r2,hr3,hF⟩:=qe hF
  refine qcq r2 (vsB _) (cB 98 rfl) (fun _ hb=>qju ((h.ext hb).old ha1) (qZ y1 ((h.ext hb).oldS s7) ((h.ext hb).oldS s8) ((h.ext hb).oldS s9)) hr3) rfl rfl rfl rfl (zd1 rfl (dN h fun w4 h=>qm rfl hF ?_ ?_))<;>intro hF
  ·refine X0 4 rfl ?_
   obtain rfl:=qd hF;replace hF:=hK1
   exact ri h hF rfl
  exact X0 7 rfl (rK ⟨_,hF,rfl,h⟩ rfl)
 refine qA rfl ?_
 obtain rfl:=qd hF;replace hF:=hK1
 exact X0 4 rfl (ri h hF rfl)
end Go.Fw


namespace Go.Fw
open Go
set_option maxRecDepth 100000
theorem qjZ {b:qc} (h:blockB b=true):Ev (fun n=>qaw n b) ((places b.Aa).length:Int):=by
 unfold qaw
 exact Ev.bind (qe9 (qW (qav h))) (Ev.now (by rw [jB]))
theorem qmu {d:qg} {k:Int} {n:Nat}:qmp (sinksL d k n) n:=by
 intro y hy
 unfold sinksL at hy
 obtain ⟨i,hi,rfl⟩:=List.mem_map.1 hy
 exact ⟨i,List.mem_range.1 (List.mem_filter.1 hi).1,rfl⟩
theorem qnr {b:qc} (h:blockB b=true) {j:Nat} (hj:j<(places b.Aa).length):qmp (succL b j) (places b.Aa).length:=by
 have hd:=qav h
 unfold succL
 cases (gt (places b.Aa) j).drives
 ·cases h0:decide ((gt (places b.Aa) j).instance_<0)
  ·cases dataB (cellAt b (gt (places b.Aa) j).instance_) (gt (places b.Aa) j).pin
   ·intro y hy;cases hy
   ·intro y hy
    rcases qeA hj with ⟨i,k,hi,hk,ej,e⟩|⟨i,hi,_,e⟩
    ·obtain ⟨⟨c0,c1⟩,hn,hcb⟩:=qgw hd hi
     rw [e] at hy
     have ec:cellAt b (place1 b.Aa i k).instance_=gt b.Ac.Ai (gt b.Aa.Ab i).Az.toNat:=by
      unfold cellAt place1;rw [jA]
     rw [ec,show (place1 b.Aa i k).pin=(k:Int) from rfl] at hy
     have hy:y=(j:Int)-(k:Int)+(((gt b.Ac.Ai (gt b.Aa.Ab i).Az.toNat).Ap.length:Int)-1):=by simpa using hy
     obtain ⟨hp,_⟩:=qik (k:=(gt b.Aa.Ab i).Aj.length-1) hi (by omega)
     exact ⟨off b.Aa i+((gt b.Aa.Ab i).Aj.length-1),hp,by omega⟩
    ·rw [e] at h0
     exact absurd h0 (by show ¬ decide ((-1:Int)<0)=false;decide)
  ·intro y hy;cases hy
 ·intro y hy
  exact qmu y ((List.mem_filter.1 hy).1)
abbrev npl (b:qc):Nat:=(places b.Aa).length
structure Mid (b:qc) (k i:Nat) (c:Nat) (out:List Nat):Prop where
 topo:Topo (succL b) (npl b) out
 klt:k<out.length
 cur:out[k]?=some c
 zero:∀ j,j<npl b→(j ∈ out↔inC (succL b) (npl b) (out.take (k+1)) j+((succL b c).drop i).count (j:Int)=0)
end Go.Fw


namespace Go.Fw
open Go
set_option maxRecDepth 100000
def startB (b:qc) (p:Tplace):Bool:=bif decide (p.instance_<0) then p.drives || clkB b p else clkB b p
def startN (b:qc) (j:Nat):List Nat:=selN (fun i=>startB b (gt (places b.Aa) i)) j
theorem qnA {b:qc} (hok:qct b) (h:blockB b=true):Ev (fun n=>qf5 n b) (ints (startN b (npl b))):=by
 have hl:npl b≤78:=qaG (qW (qav h))
 have hL:Ev (fun n=>qbE b n ([]:List Int) 0) (ints (startN b (npl b)),(npl b:Int)):=by
  refine qoo (Lf:=qbE b) (q:=fun i=>startB b (gt (places b.Aa) i)) (len:=npl b) (by omega) (Ev.succ ?_) (fun j hj t ht X h1 h2=>?_)
  ·simp only [qbE]
   exact Ev.bind (qjZ h) (Ev.ff (qt (jf _)) .done)
  ·simp only [qbE,wS j,ht,je]
   refine Ev.bind (qjZ h) (Ev.tt (qr hj) (Ev.bind (qkf hok h hj) ?_))
   refine Ev.bind (b:=startB b (gt (places b.Aa) j)) ?_ ?_
   ·unfold startB
    refine Ev.iff (fun h0=>?_) (fun _=>Ev.last (qiX hok h hj))
    rcases qeA hj with ⟨i,k,hi,hk,ej,e⟩|⟨i,hi,_,e⟩
    ·rw [e] at h0
     exact absurd h0 (by show ¬ decide ((i:Int)<0)=true;simp)
    ·have hc:=qiX hok h hj
     rw [e] at hc ⊢
     rw [show (toSp (place2 b.Aa i)).pin=(i:Int) from rfl,qae hi]
     simp only [je]
     rw [show (place2 b.Aa i).drives=((gt b.Aa.Af i).Bn==1) from rfl]
     cases ((gt b.Aa.Af i).Bn==1)
     ·exact Ev.last hc
     ·exact .done
   ·cases hq:startB b (gt (places b.Aa) j)
    ·exact h2 hq
    ·exact h1 hq
 unfold qf5
 exact Ev.bind hL .done
end Go.Fw


namespace Go.Fw
open Go
set_option maxRecDepth 100000
section
variable {code:List (IntK .u8)} {a s:Int}
def PlI (b:qc) (p:Int):Prop:=0≤p∧p<((places b.Aa).length:Int)
theorem qoZ {b:qc} (h:blockB b=true) {j:Nat} (hj:j<(places b.Aa).length):∀ y,y ∈ succL b j→PlI b y:=by
 intro y hy
 obtain ⟨k,hk,e⟩:=qnr h hj y hy
 unfold PlI;omega
theorem qo7 {b:qc} (hok:qct b) (h:blockB b=true) (h0:1≤(places b.Aa).length) (hc:CodeOk code) (hs:SrcI code a s) :
  EvQ (fun n=>qew n ⟨code,a,s⟩ b) (fun o=>((1≤o.1.length∧o.1.length≤20)∧∀ y,y ∈ o.1→PlI b y)∧SrcI code o.2.1 o.2.2):=by
 have hpl:=qaG (qW (qav h))
 have main:∀ (r:Nat) (x:List Int) (a' s' p:Int),SrcI code a' s'→(1≤x.length∧x.length+r≤20)→(∀ y,y ∈ x→PlI b y)→PlI b p →
   EvQ (fun n=>qch ⟨code,a,s⟩ b n x a' s' p (r:Int)) (fun o=>((1≤o.1.length∧o.1.length≤20)∧∀ y,y ∈ o.1→PlI b y)∧SrcI code o.2.1 o.2.2):=by
  intro r
  induction r with
  | zero =>
   intro x a' s' p hs hl hx hp
   refine EvQ.succ ?_
   simp only [qch]
   exact EvQ.ff rfl (EvQ.done ⟨⟨⟨hl.1,by dsimp only;omega⟩,hx⟩,hs⟩)
  | succ r ih =>
   intro x a' s' p hs hl hx hp
   refine EvQ.succ ?_
   simp only [qch]
   obtain ⟨j,rfl⟩:∃ j:Nat,p=(j:Int):=⟨p.toNat,by have:=hp.1;omega⟩
   have hj:j<(places b.Aa).length:=by have:=hp.2;omega
   have hsl:=qkj h (j:=j)
   refine EvQ.tt (by simp) (EvQ.bindE (qkP hok h hj) (EvQ.bif (fun _=>EvQ.done ⟨⟨⟨hl.1,by dsimp only;omega⟩,hx⟩,hs⟩) (fun h1=>?_)))
   have h1:1≤(succL b j).length:=by cases hq:succL b j with
    | nil=>rw [hq] at h1;simp at h1
    | cons y ys=>exact Nat.succ_le_succ (jw _)
   refine EvQ.bind (qao _ hc hs) ?_
   rintro ⟨i22,i23,i24⟩ ⟨⟨⟨q0,q1⟩,_⟩,hs⟩
   dsimp only at q0 q1 hs ⊢
   have q2:=q1 (by omega)
   obtain ⟨k,rfl⟩:∃ k:Nat,i22=(k:Int):=⟨i22.toNat,by omega⟩
   have hk:k<(succL b j).length:=by omega
   have e:W64 (((r+1:Nat):Int)-1)=(r:Int):=by rw [qaT (by omega) (by omega)];omega
   have hpk:=qoZ h hj _ (jq hk)
   rw [e]
   exact EvQ.bindN (qaS hk) (EvQ.bindN (qbN (by omega)) (ih _ _ _ _ hs ⟨by rw [jg,jj];omega,by rw [jg,jj];omega⟩ (qbm hx hpk) hpk))
 unfold qew
 refine EvQ.bindE (qnA hok h) (EvQ.bindE (qe8 h) (EvQ.bind (qao _ hc hs) ?_))
 rintro ⟨i1,i2,i3⟩ ⟨⟨⟨q0,q1⟩,_⟩,hs⟩
 dsimp only at q0 q1 hs ⊢
 have p1:PlI b i1:=by
  refine ⟨q0,?_⟩
  by_cases h2:((places b.Aa).length:Int) > 1
  ·rw [if_pos h2] at q1
   exact q1 (by omega)
  ·rw [if_neg h2] at q1
   have:=q1 (by decide)
   omega
 have st:∀ y,y ∈ ints (startN b (npl b))→PlI b y:=by
  intro y hy
  unfold ints startN selN at hy
  obtain ⟨k,hk,rfl⟩:=List.mem_map.1 hy
  have:=List.mem_range.1 (List.mem_filter.1 hk).1
  unfold npl at this
  unfold PlI
  omega
 refine EvQ.bind (R:=fun o:Int × Int × Bool=>SrcI code o.1 o.2.1∧(o.2.2=true→1≤(ints (startN b (npl b))).length)) (EvQ.bif (fun h1=>EvQ.bind (qao 6 hc hs) ?_) (fun _=>EvQ.done ⟨hs,fun h=>by cases h⟩)) ?_
 ·rintro ⟨i28,i29,i30⟩ ⟨_,hs⟩
  exact EvQ.done ⟨hs,fun _=>by have:=of_decide_eq_true h1;omega⟩
 rintro ⟨i4,i5,b1⟩ ⟨hs,hb1⟩
 dsimp only at hs hb1 ⊢
 refine EvQ.bind (R:=fun o:Int × Int × Int=>SrcI code o.1 o.2.1∧PlI b o.2.2) (EvQ.bif (fun h1=>EvQ.bind (qao _ hc hs) ?_) (fun _=>EvQ.done ⟨hs,p1⟩)) ?_
 ·rintro ⟨i25,i26,i27⟩ ⟨⟨⟨t0,t1⟩,_⟩,hs⟩
  dsimp only at t0 t1 hs ⊢
  have hn:=hb1 h1
  have t2:=t1 (by omega)
  obtain ⟨k,rfl⟩:∃ k:Nat,i25=(k:Int):=⟨i25.toNat,by omega⟩
  have hk:k<(ints (startN b (npl b))).length:=by omega
  exact EvQ.bindN (qaS hk) (EvQ.done ⟨hs,st _ (jq hk)⟩)
 rintro ⟨i6,i7,i8⟩ ⟨hs,hp⟩
 dsimp only at hs hp ⊢
 refine EvQ.bind (qao 10 hc hs) ?_
 rintro ⟨i9,i10,i11⟩ ⟨⟨⟨t0,t1⟩,_⟩,hs⟩
 dsimp only at t0 t1 hs ⊢
 have t2:=t1 (by decide)
 obtain ⟨m,hm⟩:∃ m:Nat,2+i9=(m:Int):=⟨(2+i9).toNat,by omega⟩
 rw [wO (2+i9),hm]
 refine EvQ.bind (main m [i8] i10 i11 i8 hs (by simp;omega) (fun y hy=>by obtain rfl:=List.mem_singleton.1 hy;exact hp) hp) ?_
 rintro ⟨x2,i16,i17⟩ h2
 exact EvQ.done h2
theorem PlI.ok {b:qc} (h:blockB b=true) {p:Int} (hp:PlI b p):okI p:=by
 have hpl:=qaG (qW (qav h))
 unfold PlI at hp
 exact qV (by omega) (by omega)
theorem qqA {b:qc} {path:List Int} (h:blockB b=true) (h0:1≤(places b.Aa).length) (hl:1≤path.length∧path.length≤20) (hp:∀ y,y ∈ path→PlI b y) (hc:CodeOk code) (hs:SrcI code a s) :
  EvQ (fun n=>qdE n ⟨code,a,s⟩ b path) (fun o=>qal o.1∧SrcI code o.2.1 o.2.2):=by
 have hpl:=qaG (qW (qav h))
 have one:∀ {x:Int},okI x→okL okI [x]:=fun hx=>⟨by simp,fun y hy=>by obtain rfl:=List.mem_singleton.1 hy;exact hx⟩
 have none_:okL okI ([]:List Int):=⟨jw _,fun _ h=>by cases h⟩
 have main:∀ (d j:Nat) (x:List Int) (a' s':Int),SrcI code a' s'→j+d=path.length→x.length≤j→(∀ y,y ∈ x→okI y) →
   EvQ (fun n=>qaR ⟨code,a,s⟩ path n x a' s' (j:Int)) (fun o=>okL okI o.1∧SrcI code o.2.1 o.2.2.1):=by
  intro d
  induction d with
  | zero =>
   intro j x a' s' hs hj hx hok
   refine EvQ.succ ?_
   simp only [qaR]
   exact EvQ.ff (qt (by omega)) (EvQ.done ⟨⟨by dsimp only;omega,hok⟩,hs⟩)
  | succ d ih =>
   intro j x a' s' hs hj hx hok
   have hjl:j<path.length:=by omega
   refine EvQ.succ ?_
   simp only [qaR,wS j]
   refine EvQ.tt (qr hjl) (EvQ.bind (R:=fun o:Int × Int × Bool=>SrcI code o.1 o.2.1) (EvQ.bif (fun _=>EvQ.bind (qao 5 hc hs) ?_) (fun _=>EvQ.done hs)) ?_)
   ·rintro ⟨i18,i19,i20⟩ ⟨_,hs⟩
    exact EvQ.done hs
   ·rintro ⟨i16,i17,b1⟩ hs
    dsimp only at hs ⊢
    refine EvQ.bif (fun _=>?_) (fun _=>ih (j+1) x _ _ hs (by omega) (by omega) hok)
    have hl1:(x++[path[j]]).length≤j+1:=by rw [jg,jj];omega
    exact EvQ.bindN (qaS hjl) (EvQ.bindN (qbN (by omega)) (EvQ.bindN (qhe (by omega)) (ih (j+1) _ _ _ hs (by omega) hl1 (qbm hok ((hp _ (jq hjl)).ok h)))))
 have cnt:∀ {a' s':Int},SrcI code a' s'→EvQ (fun n=>ql n ⟨code,a',s'⟩ ((places b.Aa).length:Int)) (fun o=>okI o.1∧SrcI code o.2.1 o.2.2):=fun {a' s'} hs=>(qao _ hc hs).mono (fun o ho=>⟨by have h1:=ho.1.1.1;have h2:=ho.1.1.2 (by omega);exact qV (by omega) (by omega),ho.2⟩)
 unfold qdE
 refine EvQ.bind (qao 4 hc hs) ?_
 rintro ⟨i1,i2,i3⟩ ⟨_,hs⟩
 dsimp only at hs ⊢
 refine EvQ.bind (R:=fun o:Int × Int × Int=>SrcI code o.1 o.2.1∧okI o.2.2) ?_ ?_
 ·have z0:okI 0:=qV (by decide) (by decide)
  refine EvQ.bif (fun _=>EvQ.bind (qao 4 hc hs) ?_) (fun _=>EvQ.bif (fun _=>EvQ.bif (fun _=>EvQ.bind (qao 40 hc hs) ?_) (fun _=>EvQ.done ⟨hs,z0⟩)) (fun _=>EvQ.bif (fun _=>EvQ.bind (qao 40 hc hs) ?_) (fun _=>EvQ.done ⟨hs,z0⟩)))
  all_goals
   rintro ⟨j1,j2,j3⟩ ⟨_,hs⟩
   exact EvQ.done ⟨hs,qcO _⟩
 rintro ⟨i4,i5,i6⟩ ⟨hs,hi6⟩
 dsimp only at hs hi6 ⊢
 refine EvQ.bind (qao 2 hc hs) ?_
 rintro ⟨i7,i8,i9⟩ ⟨_,hs⟩
 dsimp only at hs ⊢
 refine EvQ.bind (R:=fun o:List Int=>okL okI o) (EvQ.bif (fun _=>EvQ.bindN (qaS (j:=0) (show 0<path.length by omega)) (EvQ.done (one ((hp _ (jq _)).ok h)))) (fun _=>EvQ.done none_)) (fun x1 hx1=>?_)
 refine EvQ.bind (qao 2 hc hs) ?_
 rintro ⟨i10,i11,i12⟩ ⟨_,hs⟩
 dsimp only at hs ⊢
 have e:W64 ((path.length:Int)-1)=((path.length-1:Nat):Int):=by rw [qaT (by omega) (by omega)];omega
 rw [e]
 refine EvQ.bind (R:=fun o:List Int=>okL okI o) (EvQ.bif (fun _=>EvQ.bindN (qaS (show path.length-1<path.length by omega)) (EvQ.done (one ((hp _ (jq _)).ok h)))) (fun _=>EvQ.done none_)) (fun x2 hx2=>?_)
 refine EvQ.bind (main path.length 0 [] i11 i12 hs (by omega) (jw _) (fun _ h=>by cases h)) ?_
 rintro ⟨x3,i13,i14,i15⟩ ⟨hx3,hs⟩
 dsimp only at hx3 hs ⊢
 refine EvQ.bind (qao 12 hc hs) ?_
 rintro ⟨i21,i22,i23⟩ ⟨_,hs⟩
 dsimp only at hs ⊢
 refine EvQ.bif (fun _=>EvQ.bindE (qe8 h) (EvQ.bind (cnt hs) ?_)) (fun _=>EvQ.bif (fun _=>EvQ.bindE (qe8 h) (EvQ.bind (cnt hs) ?_)) (fun _=>EvQ.bif (fun _=>EvQ.bindE (qe8 h) (EvQ.bind (cnt hs) ?_)) (fun _=>EvQ.done ⟨⟨qcO _,hi6,hx1,hx3,hx2⟩,hs⟩)))
 ·rintro ⟨j1,j2,j3⟩ ⟨hj,hs⟩
  exact EvQ.done ⟨⟨qcO _,hi6,one hj,hx3,hx2⟩,hs⟩
 ·rintro ⟨j1,j2,j3⟩ ⟨hj,hs⟩
  exact EvQ.done ⟨⟨qcO _,hi6,hx1,hx3,one hj⟩,hs⟩
 ·rintro ⟨j1,j2,j3⟩ ⟨hj,hs⟩
  exact EvQ.done ⟨⟨qcO _,hi6,hx1,one hj,hx2⟩,hs⟩
theorem qqp {b:qc} {path:List Int} (h:blockB b=true) (h0:1≤(places b.Aa).length) (hl:1≤path.length∧path.length≤20) (hp:∀ y,y ∈ path→PlI b y) (hc:CodeOk code) (hs:SrcI code a s) :
  EvQ (fun n=>qfm n ⟨code,a,s⟩ b path) (fun o=>okL qal o.1∧SrcI code o.2.1 o.2.2):=by
 have hpl:=qaG (qW (qav h))
 have main:∀ (r:Nat) (x:List qa) (a' s':Int),SrcI code a' s'→x.length+r≤10→(∀ y,y ∈ x→qal y) →
   EvQ (fun n=>qci ⟨code,a,s⟩ b path n x a' s' (r:Int)) (fun o=>(o.1.length≤10∧∀ y,y ∈ o.1→qal y)∧SrcI code o.2.1 o.2.2.1):=by
  intro r
  induction r with
  | zero =>
   intro x a' s' hs hx hok
   refine EvQ.succ ?_
   simp only [qci]
   exact EvQ.ff rfl (EvQ.done ⟨⟨by dsimp only;omega,hok⟩,hs⟩)
  | succ r ih =>
   intro x a' s' hs hx hok
   have e:W64 (((r+1:Nat):Int)-1)=(r:Int):=by rw [qaT (by omega) (by omega)];omega
   refine EvQ.succ ?_
   simp only [qci,e]
   refine EvQ.tt (by simp) (EvQ.bind (qqA h h0 hl hp hc hs) ?_)
   rintro ⟨r1,i7,i8⟩ ⟨h1,hs⟩
   exact EvQ.bindN (qbN (by omega)) (ih _ _ _ hs (by rw [jg,jj];omega) (qbm hok h1))
 have grow:∀ (d:Nat) (x:List qa),x.length+d=11→1≤x.length→(∀ y,y ∈ x→qal y)→EvQ (fun n=>qcg n x) (fun o=>o.length≤11∧∀ y,y ∈ o→qal y):=by
  intro d
  induction d with
  | zero =>
   intro x hx h1 hok
   refine EvQ.succ ?_
   simp only [qcg]
   exact EvQ.ff (by simp;omega) (EvQ.done ⟨by omega,hok⟩)
  | succ d ih =>
   intro x hx h1 hok
   refine EvQ.succ ?_
   simp only [qcg]
   refine EvQ.bif (fun _=>EvQ.bindN (qaS (j:=0) (show 0<x.length by omega)) (EvQ.bindN (qbN (by omega)) (ih _ (by rw [jg,jj];omega) (by rw [jg,jj];omega) (qbm hok (hok _ (jq _)))))) (fun _=>EvQ.done ⟨by omega,hok⟩)
 unfold qfm
 refine EvQ.bind (qao 5 hc hs) ?_
 rintro ⟨i1,i2,i3⟩ ⟨⟨⟨q0,q1⟩,_⟩,hs⟩
 dsimp only at q0 q1 hs ⊢
 have q2:=q1 (by decide)
 obtain ⟨m,rfl⟩:∃ m:Nat,i1=(m:Int):=⟨i1.toNat,by omega⟩
 refine EvQ.bind (main m [] i2 i3 hs (by simp;omega) (fun _ h=>by cases h)) ?_
 rintro ⟨x1,i4,i5,i6⟩ ⟨⟨l1,h1⟩,hs⟩
 dsimp only at l1 h1 hs ⊢
 refine EvQ.bind (R:=fun o:Int × Int × Bool=>SrcI code o.1 o.2.1∧(o.2.2=true→1≤x1.length)) (EvQ.bif (fun hp=>EvQ.bind (qao 16 hc hs) ?_) (fun _=>EvQ.done ⟨hs,fun h=>by cases h⟩)) ?_
 ·rintro ⟨j1,j2,j3⟩ ⟨_,hs⟩
  exact EvQ.done ⟨hs,fun _=>by have:=of_decide_eq_true hp;omega⟩
 rintro ⟨i9,i10,b1⟩ ⟨hs,hb⟩
 dsimp only at hs hb ⊢
 refine EvQ.bif (fun hb1=>?_) (fun _=>EvQ.done ⟨⟨by dsimp only;omega,h1⟩,hs⟩)
 have hn:=hb hb1
 have h00:0<x1.length:=by omega
 have hx0:=h1 _ (jq h00)
 have set0:∀ {y:qa},qal y→okL qal (setS x1 0 y):=fun {y} hy=>⟨by rw [qcI];omega,qf3 h1 hy⟩
 refine EvQ.bind (qao 4 hc hs) ?_
 rintro ⟨i11,i12,i13⟩ ⟨_,hs⟩
 dsimp only at hs ⊢
 refine EvQ.bif (fun _=>EvQ.bind (qao 2 hc hs) ?_) (fun _=>EvQ.bif (fun _=>?_) (fun _=>EvQ.bif (fun _=>?_) (fun _=>?_)))
 ·rintro ⟨i14,i15,i16⟩ ⟨_,hs⟩
  exact EvQ.bindN (qaS (j:=0) h00) (EvQ.done ⟨set0 ⟨qcO _,hx0.Ba,hx0.As,hx0.Am,hx0.To⟩,hs⟩)
 ·exact EvQ.bindN (qaS (j:=0) h00) (EvQ.done ⟨set0 ⟨hx0.Ar,qV (x:=-1) (by decide) (by decide),hx0.As,hx0.Am,hx0.To⟩,hs⟩)
 ·exact EvQ.bindE (qe8 h) (EvQ.bindN (qaS (j:=0) h00) (EvQ.done ⟨set0 ⟨hx0.Ar,hx0.Ba,hx0.As,hx0.Am,⟨by simp,fun y hy=>by obtain rfl:=List.mem_singleton.1 hy;exact qV (by omega) (by omega)⟩⟩,hs⟩))
 ·refine EvQ.bind (grow (11-x1.length) x1 (by omega) hn h1) (fun x3 hx3=>EvQ.done ⟨⟨by dsimp only;omega,hx3.2⟩,hs⟩)
structure CaseI (b:qc) (es:List qa) (path:List Int):Prop where
 blk:BlkO b
 es:okL qal es
 l1:1≤path.length
 l2:path.length≤30
 pk:∀ y,y ∈ path→okI y
theorem qqu (hc:CodeOk code):EvQ (fun n=>qfo n code) (fun o=>CaseI o.1 o.2.1 o.2.2):=by
 obtain ⟨s,h1,hs⟩:=qpA hc
 unfold qfo
 refine EvQ.bindE h1 (EvQ.bind (qqh hc hs) ?_)
 rintro ⟨b,i2,i3⟩ ⟨hb,hs⟩
 dsimp only at hb hs ⊢
 have bad:CaseI b [] [0]:=⟨hb,⟨jw _,fun _ h=>by cases h⟩,by simp,by simp,fun y hy=>by obtain rfl:=List.mem_singleton.1 hy;exact qV (by decide) (by decide)⟩
 refine EvQ.bind (R:=fun o:Bool=>o=true∨(blockB b=true∧1≤(places b.Aa).length)) ?_ ?_
 ·refine EvQ.bindE (qhI hb.ok) ?_
  cases h:blockB b
  ·exact EvQ.tt rfl (EvQ.done (.inl rfl))
  ·refine EvQ.ff rfl (EvQ.bindE (qe8 h) (EvQ.done ?_))
   rcases Nat.eq_zero_or_pos (places b.Aa).length with h0|h0
   ·exact .inl (by rw [h0];rfl)
   ·exact .inr ⟨rfl,h0⟩
 intro b1 hb1
 refine EvQ.bif (fun _=>EvQ.done bad) (fun hf=>?_)
 obtain ⟨h,h0⟩:blockB b=true∧1≤(places b.Aa).length:=by
  rcases hb1 with rfl|h
  ·cases hf
  ·exact h
 have hpl:=qaG (qW (qav h))
 refine EvQ.bind (qo7 hb.ok h h0 hc hs) ?_
 rintro ⟨r3,i4,i5⟩ ⟨⟨l3,h3⟩,hs⟩
 refine EvQ.bind (qqp h h0 l3 h3 hc hs) ?_
 rintro ⟨r4,i6,i7⟩ ⟨h4,hs⟩
 refine EvQ.bind (qao 3 hc hs) ?_
 rintro ⟨i8,i9,i10⟩ ⟨_,hs⟩
 dsimp only at l3 h3 h4 hs ⊢
 refine EvQ.bind (R:=fun o:List Int × Int × Int=>((1≤o.1.length∧o.1.length≤20)∧∀ y,y ∈ o.1→PlI b y)∧SrcI code o.2.1 o.2.2) (EvQ.bif (fun _=>EvQ.bind (qo7 hb.ok h h0 hc hs) ?_) (fun _=>EvQ.done ⟨⟨l3,h3⟩,hs⟩)) ?_
 ·rintro ⟨r6,i19,i20⟩ h6
  exact EvQ.done h6
 rintro ⟨x1,i11,i12⟩ ⟨⟨lx,hx⟩,hs⟩
 dsimp only at lx hx hs ⊢
 refine EvQ.bind (qao 14 hc hs) ?_
 rintro ⟨i13,i14,i15⟩ ⟨_,hs⟩
 dsimp only at hs ⊢
 refine EvQ.bif (fun _=>EvQ.bindE (qe8 h) (EvQ.bind (qao _ hc hs) ?_)) (fun _=>EvQ.done ⟨hb,h4,lx.1,by dsimp only;omega,fun y hy=>(hx y hy).ok h⟩)
 rintro ⟨i16,i17,i18⟩ ⟨⟨⟨t0,t1⟩,_⟩,hs⟩
 dsimp only at t0 t1
 have t2:=t1 (by omega)
 exact EvQ.bindN (qbN (by omega)) (EvQ.done ⟨hb,h4,by show 1≤(_++_:List Int).length;rw [jg,jj];omega,by show (_++_:List Int).length≤_;rw [jg,jj];omega,qbm (fun y hy=>(hx y hy).ok h) (qV (by omega) (by omega))⟩)
end
end Go.Fw


namespace Go.Fw
open Go
set_option maxRecDepth 100000
theorem qmq {b:qc} (h:blockB b=true):Ev (fun n=>qaw n b) ((places b.Aa).length:Int):=by
 unfold qaw
 exact Ev.bind (qe9 (qW (qav h))) (Ev.now (by rw [jB]))
def plsB (b:qc) (xs:List Int):Bool:=decide (xs.length≤4)&&allN (fun j=>inPl b (at0 xs j)) xs.length
def valB (k v:Int):Bool:=bif k==1 then v==0 else bif k==2 then inI v 1 10 else bif (k==3) || (k==4) then inI v 0 1000000000 else false
def excB (b:qc) (e:qa):Bool:=(plsB b e.As&&(plsB b e.Am&&plsB b e.To))&&(valB e.Ar e.Ba&&(incB e.As&&incB e.To))
theorem qir {b:qc} {xs:List Int} {sorted:Bool} (h:blockB b=true) (hl:xs.length≤1048576):Ev (fun n=>qev n b xs sorted) (plsB b xs&&(!sorted || incB xs)):=by
 have hpl:=qaG (qW (qav h))
 have hL:Ev (fun n=>qbG b xs sorted n 0) (bif allN (fun j=>inPl b (at0 xs j)&&(!sorted || stepB xs j)) xs.length then .nxt (xs.length:Int) else .ret false):=by
  refine qed ?_ (fun j hj X hX=>Ev.succ ?_)
  ·exact Ev.succ (by simp only [qbG,qt (jf _),cond_false];exact .done)
  ·simp only [qbG,qr hj,cond_true,qa5 hj,je,qdx,wS j]
   refine Ev.bind (qmq h) ?_
   rw [qbn (show (places b.Aa).length≤9223372036854775807 by omega)]
   simp only [qa0]
   refine Ev.okP (a:=inPl b (at0 xs j)) fun _=>?_
   cases sorted
   ·exact hX
   ·refine Ev.tt rfl ?_
    unfold stepB
    by_cases h0:j=0
    ·subst h0
     exact Ev.ff (by decide) hX
    ·refine Ev.tt (by simp;omega) ?_
     simp only [show (j:Int)-1=((j-1:Nat):Int) by omega,qaT (show -9223372036854775808≤((j-1:Nat):Int) by omega) (by omega),qa5 (show j-1<xs.length by omega),je]
     rw [show decide (at0 xs (j-1) ≥ at0 xs j) = !decide (at0 xs (j-1)<at0 xs j) by rw [jk];simp,show decide (j=0)=false by simp;omega]
     simp only [qa0,jT,Bool.false_or]
     exact Ev.okP1 fun _=>hX
 unfold qev
 have e:(plsB b xs&&(!sorted || incB xs))=(allN (fun j=>inPl b (at0 xs j)&&(!sorted || stepB xs j)) xs.length&&decide (xs.length≤4)):=by
  unfold plsB incB
  rw [qhv]
  cases sorted
  ·simp only [Bool.not_false,Bool.true_or,Bool.and_true]
   rw [show allN (fun _=>true) xs.length=true from qaB.2 (fun _ _=>rfl),Bool.and_true,Bool.and_comm]
  ·simp only [jT,Bool.false_or]
   rw [jP,Bool.and_comm]
 rw [e]
 refine Ev.bind hL ?_
 cases allN (fun j=>inPl b (at0 xs j)&&(!sorted || stepB xs j)) xs.length
 ·exact .done
 ·refine Ev.now ?_
  show some (decide ((xs.length:Int)≤((4:Nat):Int)))=some (true&&decide (xs.length≤4))
  rw [qiA,jv]
theorem qnQ {n:Nat} {k v:Int}:qhl n k v=some (valB k v):=by
 simp only [qhl,qdo,je]
 unfold valB
 cases (k==1)<;>cases (k==2)<;>cases (k==3)<;>cases (k==4)<;>rfl
theorem qi2 {b:qc} {V:Tview} {e:qa} (h:blockB b=true) (hP:V.places=places b.Aa) (he:qal e):Ev (fun n=>qcs n (some V) e) (excB b e):=by
 have hpl:=qaG (qW (qav h))
 have one:∀ xs:List Int,xs.length≤1048576→∀ {F:Nat→Option (Flow Bool Int)} {X:Flow Bool Int},Ev F X →
   Ev (fun n=>bif decide ((xs.length:Int) > 4) then some (.ret false) else (qbe n xs 0 (((places b.Aa).length:Int)-1)).bind fun r2=>bif (!r2) then some (.ret false) else F n) (bif plsB b xs then X else .ret false):=by
  intro xs hx F X hX
  unfold plsB
  rw [show decide ((xs.length:Int) > 4) = !decide (xs.length≤4) from qiC (k:=4)]
  simp only [qa0]
  refine Ev.okP fun _=>Ev.ok1 ((qd1 hx).cast (by rw [qfy (d:=0)];rfl)) fun _=>hX
 have hL:Ev (fun n=>qak (some V) e n 0) (bif plsB b e.As then (bif plsB b e.Am then (bif plsB b e.To then .nxt 3 else .ret false) else .ret false) else .ret false):=by
  refine Ev.succ ?_
  simp only [qak,je,qba,hP,qbn (show (places b.Aa).length≤9223372036854775807 by omega)]
  refine one e.As he.As.len (F:=fun n=>qak (some V) e n 1) (Ev.succ ?_)
  simp only [qak,je,qba,hP,qbn (show (places b.Aa).length≤9223372036854775807 by omega)]
  refine one e.Am he.Am.len (F:=fun n=>qak (some V) e n 2) (Ev.succ ?_)
  simp only [qak,je,qba,hP,qbn (show (places b.Aa).length≤9223372036854775807 by omega)]
  refine one e.To he.To.len (F:=fun n=>qak (some V) e n 3) (Ev.succ ?_)
  exact .done
 unfold qcs excB
 refine Ev.bind hL ?_
 cases plsB b e.As
 ·exact .done
 ·cases plsB b e.Am
  ·exact .done
  ·cases plsB b e.To
   ·exact .done
   ·simp only [cond_true,qnQ,je,Bool.and_self,jv]
    exact Ev.andP fun _=>Ev.and (qg2 he.As.len) fun _=>Ev.last (qg2 he.To.len)
theorem qkT {b:qc} {e:qa} (hok:qct b) (he:qal e):Ev (fun n=>qfj n b e) (blockB b&&excB b e):=by
 have eq:(blockB b&&excB b e)=((blockB b&&((plsB b e.As&&(!true || incB e.As))&&((plsB b e.Am&&(!false || incB e.Am))&&(plsB b e.To&&(!true || incB e.To)))))&&valB e.Ar e.Ba):=by
  unfold excB
  generalize blockB b=a1
  generalize plsB b e.As=a2
  generalize plsB b e.Am=a3
  generalize plsB b e.To=a4
  generalize valB e.Ar e.Ba=a5
  generalize incB e.As=a6
  generalize incB e.To=a7
  cases a1<;>cases a2<;>cases a3<;>cases a4<;>cases a5<;>cases a6<;>cases a7<;>rfl
 rw [eq]
 unfold qfj
 refine Ev.guardB (Ev.or (qhI hok) fun h=>Ev.or (qir h he.As.len) fun _=>Ev.or (qir h he.Am.len) fun _=>Ev.neg (qir h he.To.len)) fun _=>?_
 simp only [qdx,je]
 unfold valB
 cases (e.Ar==1)<;>cases (e.Ar==2)<;>cases (e.Ar==3)<;>cases (e.Ar==4)<;>exact .done
end Go.Fw


namespace Go.Fw
open Go
set_option maxRecDepth 100000
def hasI (xs:List Int) (y:Int):Bool:=xs.any fun x=>x==y
theorem qos {xs:List Int} {y:Int} (hl:xs.length≤1048576):Ev (fun n=>qe5 n xs y) (ixL (fun x=>x==y) xs) :=
 qdA (fin:=(xs.length:Int)) (Lf:=qeo xs y) (pf:=fun _ x=>some (x==y)) (fun _ _=>.done)
  (fun n=>by simp only [qeo,qt (jf _),cond_false])
  (fun n j x hx=>by
   have hj:=(List.getElem?_eq_some_iff.1 hx).1
   simp only [qeo,qr hj,cond_true,qfx hx,je,wS j])
  (fun n=>by unfold qe5;congr 1;funext o;cases o<;>rfl)
theorem qi3 {xs:List Int} {y:Int} (hl:xs.length≤1048576):Ev (fun n=>qbJ n xs y) (hasI xs y):=by
 unfold qbJ
 refine Ev.bind (b:=ixL (fun x=>y==x) xs) (qdA (fin:=(xs.length:Int)) (Lf:=qbK xs y) (pf:=fun _ x=>some (y==x)) (fun _ _=>.done)
  (fun n=>by simp only [qbK,qt (jf _),cond_false])
  (fun n j x hx=>by
   have hj:=(List.getElem?_eq_some_iff.1 hx).1
   simp only [qbK,qr hj,cond_true,qfx hx,je,wS j])
  (fun n=>by unfold qfV;congr 1;funext o;cases o<;>rfl)) (Ev.now ?_)
 rw [qg0]
 unfold hasI
 congr 2
 funext x
 rw [jk,beq_iff_eq,beq_iff_eq]
 exact eq_comm
theorem qqq {p:Int→Bool} {xs:List Int}:decide (ixL p xs<0) = !xs.any p:=by
 rw [←qg0,jk];simp
def stepP (b:qc) (path:List Int) (j:Nat):Bool:=decide (j=0) || hasI (succL b (at0 path (j-1)).toNat) (at0 path j)
def dpathB (b:qc) (path:List Int):Bool:=lenB path 1 60&&(allN (fun j=>inPl b (at0 path j)) path.length&&allN (stepP b path) path.length)
theorem qhX {b:qc} {V:Tview} {path:List Int} (h:blockB b=true) (hV:V.Bh=b) (hP:V.places=places b.Aa) (hl:path.length≤1048576):Ev (fun n=>qcG n (some V) path) (dpathB b path):=by
 have hs:=qW (qav h)
 have hpl:=qaG hs
 unfold qcG dpathB
 simp only [qaf,qba,qdo,je,hP,qbn (show (places b.Aa).length≤9223372036854775807 by omega),qa0]
 rw [←jP,show inI (path.length:Int) 1 60=lenB path 1 60 from qk5 (lo:=1) (hi:=60)]
 refine Ev.guardB (Ev.orBP fun _=>Ev.neg ((qd1 hl).cast (by rw [qfy (d:=0)];rfl))) fun hb=>?_
 rw [jh,qaB] at hb
 obtain ⟨hlen,hin⟩:=hb
 have hlen':1≤path.length:=by unfold lenB at hlen;simp only [jh,decide_eq_true_eq] at hlen;exact hlen.1
 have hL:=qmm (Lf:=qbu (some V) path) (len:=path.length) (i0:=1) (f:=stepP b path) (bad:=false) (fin:=.nxt (path.length:Int)) hlen'
  (Ev.succ (by simp only [qbu,qt (jf _),cond_false];exact .done))
  (fun j h1 hj X hX=>Ev.succ (by
   have hp:inPl b (at0 path (j-1))=true:=hin (j-1) (by omega)
   unfold inPl at hp
   rw [qb3] at hp
   have ep:=qjD hp.1
   simp only [qbu,qr hj,cond_true,show (j:Int)-1=((j-1:Nat):Int) by omega,qaT (show -9223372036854775808≤((j-1:Nat):Int) by omega) (by omega),wS j,qa5 (show j-1<path.length by omega),qa5 hj,je]
   unfold stepP
   rw [show decide (j=0)=false by simp;omega,Bool.false_or]
   refine Ev.bind (b:=succL b (at0 path (j-1)).toNat) ?_ ?_
   ·have:=qlY h hV hP (j:=(at0 path (j-1)).toNat) (by omega)
    rw [←ep] at this
    exact this
   ·exact Ev.chk1 (qi3 (by have:=qkj h (j:=(at0 path (j-1)).toNat);omega)) fun _=>hX))
 have e:allN (fun j=>stepP b path (1+j)) (path.length-1)=allN (stepP b path) path.length:=by
  rw [jk,qaB,qaB]
  constructor
  ·intro h j hj
   cases j with
   | zero=>rfl
   | succ j=>have:=h j (by omega);rwa [Nat.add_comm] at this
  ·intro h j hj
   exact h (1+j) (by omega)
 rw [e] at hL
 refine Ev.bind hL ?_
 cases allN (stepP b path) path.length<;>exact .done
theorem qlq {b:qc} {path:List Int} (hok:qct b) (hl:path.length≤1048576):Ev (fun n=>qfO n b path) (blockB b&&dpathB b path):=by
 unfold qfO dpathB
 rw [←jP,←qhv]
 refine Ev.guardB ?_ fun hb=>?_
 ·unfold lenB
  rw [show decide ((path.length:Int)<1) = !decide (1≤path.length) from qoa (k:=1),show decide ((path.length:Int) > 60) = !decide (path.length≤60) from qiC (k:=60)]
  refine Ev.or (qhI hok) fun _=>?_
  simp only [qa0]
  exact Ev.orBP fun _=>.done
 ·rw [jh] at hb
  have h:=hb.1
  have hs:=qW (qav h)
  have hpl:=qaG hs
  have hL:Ev (fun n=>qby b path n 0) (bif allN (fun j=>inPl b (at0 path j)&&stepP b path j) path.length then .nxt (path.length:Int) else .ret false):=by
   refine loopN (τ:=Unit) (Lf:=fun n _ j=>qby b path n j) (S:=fun _=>()) (fun j=>inPl b (at0 path j)&&stepP b path j) (fun n=>?_) (fun j hj hp X hX=>?_)
   ·simp only [qby,qt (jf _),cond_false]
   ·simp only [qby,qr hj,cond_true,qa5 hj,je,qdx,wS j]
    have e1:Ev (fun n=>qaw n b) ((places b.Aa).length:Int):=by
     unfold qaw
     exact Ev.bind (qe9 hs) (Ev.now (by rw [jB]))
    refine Ev.bind e1 ?_
    rw [qbn (show (places b.Aa).length≤9223372036854775807 by omega)]
    simp only [qa0]
    refine Ev.okP fun hin=>?_
    have hX:=fun hst=>hX (by rw [jh];exact ⟨hin,hst⟩)
    unfold stepP at hX ⊢
    by_cases h0:j=0
    ·subst h0
     refine Ev.ff (by decide) ?_
     exact hX rfl
    ·have hq:=hp (j-1) (by omega)
     rw [jh] at hq
     have hq:=hq.1
     unfold inPl at hq
     rw [qb3] at hq
     have ep:=qjD hq.1
     rw [show decide (j=0)=false by simp;omega,Bool.false_or] at hX ⊢
     refine Ev.tt (by simp;omega) ?_
     rw [qbn (show j≤9223372036854775807 by omega),show (j:Int)-1=((j-1:Nat):Int) by omega,qa5 (show j-1<path.length by omega)]
     simp only [je]
     refine Ev.bind (b:=succL b (at0 path (j-1)).toNat) ?_ (Ev.bind (qos (by have:=qkj h (j:=(at0 path (j-1)).toNat);omega)) ?_)
     ·have:=qkP hok h (j:=(at0 path (j-1)).toNat) (by omega)
      rw [←ep] at this
      exact this
     ·rw [qqq]
      simp only [qa0]
      exact Ev.okP1 hX
  refine Ev.bind hL ?_
  cases allN (fun j=>inPl b (at0 path j)&&stepP b path j) path.length<;>exact .done
instance:Inhabited qa:=⟨⟨0,0,[],[],[]⟩⟩
def stepT (e:qa) (found place:Int):Int:=bif decide (found ≥ 0)&&(decide (found<(e.Am.length:Int))&&(at0 e.Am found.toNat==place)) then found+1 else found
def fromB (e:qa) (p:Int):Bool:=decide (e.As.length=0) || hasI e.As p
def toB (e:qa) (p:Int):Bool:=decide (e.To.length=0) || hasI e.To p
def beginT (e:qa) (p:Int):Int:=bif fromB e p then stepT e 0 p else -1
def runT (e:qa) (path:List Int):Int:=(path.drop 1).foldl (stepT e) (beginT e (at0 path 0))
def matT (e:qa) (found p:Int):Bool:=(found==(e.Am.length:Int))&&toB e p
def lastP (path:List Int):Int:=at0 path (path.length-1)
def matchB (e:qa) (path:List Int):Bool:=(fromB e (at0 path 0)&&toB e (lastP path))&&(path.foldl (stepT e) 0==(e.Am.length:Int))
theorem qol {e:qa} {p:Int}:stepT e (-1) p=-1:=rfl
theorem qoY {e:qa} {path:List Int}:path.foldl (stepT e) (-1)=-1:=by
 induction path with
 | nil=>rfl
 | cons p path ih=>rw [List.foldl_cons,qol];exact ih
theorem qn5 {e:qa} {found p:Int} (hl:e.Am.length≤1048576):Ev (fun n=>qcc n e found p) (stepT e found p):=by
 unfold qcc stepT
 simp only [qaf,je]
 cases h1:decide (found ≥ 0)
 ·exact .done
 ·cases h2:decide (found<(e.Am.length:Int))
  ·exact .done
  ·have h1:=of_decide_eq_true h1
   have h2:=of_decide_eq_true h2
   simp only [cond_true,jv]
   obtain ⟨k,rfl⟩:∃ k:Nat,found=(k:Int):=⟨found.toNat,by omega⟩
   rw [qa5 (show k<e.Am.length by omega),jA]
   simp only [je]
   cases (at0 e.Am k==p)
   ·exact .done
   ·exact Ev.now (by rw [qaT (by omega) (by omega)];rfl)
theorem qpf {e:qa} {p:Int} (he:qal e):Ev (fun n=>qd4 n e p) (beginT e p):=by
 unfold qd4 beginT fromB
 have hs:=qn5 (found:=0) (p:=p) he.Am.len
 by_cases h0:e.As.length=0
 ·exact Ev.ff (by simp [h0]) (by rw [decide_eq_true h0];exact Ev.bind hs .done)
 ·refine Ev.tt (by simp;omega) ?_
  rw [decide_eq_false h0,Bool.false_or]
  refine Ev.bind (qi3 he.As.len) ?_
  cases hasI e.As p
  ·exact .done
  ·exact Ev.ff rfl (Ev.bind hs .done)
theorem qlj {e:qa} {found p:Int} (he:qal e):Ev (fun n=>qbY n e found p) (matT e found p):=by
 unfold qbY matT toB
 simp only [qaf,je]
 refine Ev.andP fun _=>?_
 by_cases h0:e.To.length=0
 ·exact Ev.tt (by simp [h0]) (by rw [decide_eq_true h0];exact .done)
 ·refine Ev.ff (by rw [Bool.eq_false_iff,Ne,beq_iff_eq];omega) ?_
  rw [decide_eq_false h0,Bool.false_or]
  exact Ev.last (qi3 he.To.len)
theorem qon {α:Type} {xs:List α} (h:1≤xs.length):subS xs 1 (xs.length:Int)=some (xs.drop 1):=by
 unfold subS
 rw [if_pos ⟨by omega,by omega,by omega⟩]
 simp
theorem qoG {e:qa} {xs:List Int} {i0:Int} {j:Nat} (h:j<xs.length):stepT e ((xs.take j).foldl (stepT e) i0) (at0 xs j)=(xs.take (j+1)).foldl (stepT e) i0:=by
 rw [List.take_succ_eq_append_getElem h,List.foldl_append]
 simp [at0,h]
theorem qnH {e:qa} {xs:List Int} {i0:Int} (he:qal e) (hl:xs.length≤1048576):Ev (fun n=>qee e xs n i0 0) (xs.foldl (stepT e) i0,(xs.length:Int)):=by
 have:=loopF (Lf:=qee e xs) (S:=fun j=>(xs.take j).foldl (stepT e) i0) (len:=xs.length) (fin:=(xs.foldl (stepT e) i0,(xs.length:Int)))
  (fun n=>by simp only [qee,qt (jf _),cond_false,jN])
  (fun j hj X hX=>by
   simp only [qee,qr hj,cond_true,qa5 hj,je,wS j]
   refine Ev.bind (qn5 he.Am.len) ?_
   rw [qoG hj]
   exact hX)
 simpa using this
theorem qm2 {es:List qa} {path:List Int} (he:okL qal es) (h1:1≤path.length) (hl:path.length≤1048576):Ev (fun n=>qhC n es path) (es.map fun e=>runT e path):=by
 have hes:=he.len
 have hL:Ev (fun n=>qeb es path n ([]:List Int) 0) (es.map (fun e=>runT e path),(es.length:Int)):=by
  refine loopF (Lf:=qeb es path) (S:=fun j=>(es.take j).map fun e=>runT e path) (len:=es.length) (fun n=>?_) (fun j hj X hX=>?_)
  ·simp only [qeb,qt (jf _),cond_false,jN]
  ·have ha:appS ((es.take j).map fun e=>runT e path) [runT (gt es j) path]=some ((es.take (j+1)).map fun e=>runT e path):=by
    rw [qb8 (by rw [jB,List.length_take,jj];omega),qeD hj]
   have hd:(path.drop 1).length≤1048576:=by rw [List.length_drop];omega
   simp only [qeb,qr hj,cond_true,qae hj,je,wS j,qon h1,show idx path 0=some (at0 path 0) from qa5 (j:=0) (by omega)]
   refine Ev.bind (qpf (qhx he hj)) (Ev.bind (qnH (qhx he hj) hd) ?_)
   exact Ev.bindN ha hX
 unfold qhC
 exact Ev.bind hL .done
theorem qmL {e:qa} {path:List Int} (h1:1≤path.length):matT e (runT e path) (lastP path)=matchB e path:=by
 cases path with
 | nil=>simp at h1
 | cons p path =>
  unfold matT matchB runT beginT
  rw [show at0 (p::path) 0=p from rfl,List.drop_one,List.tail_cons,List.foldl_cons]
  cases fromB e p
  ·simp only [cond_false,qoY,Bool.false_and]
   rw [show ((-1:Int)==(e.Am.length:Int))=false by rw [Bool.eq_false_iff,Ne,beq_iff_eq];omega,Bool.false_and]
  ·simp only [cond_true,jv]
   rw [Bool.and_comm]
theorem qlk {b:qc} {path:List Int} (h:dpathB b path=true):1≤path.length∧path.length≤60:=by
 unfold dpathB lenB at h
 simp only [jh,decide_eq_true_eq] at h
 exact h.1
end Go.Fw


namespace Go.Fw
open Go Go.Proofs
open Go.RowKit (Below)
set_option maxRecDepth 100000
set_option maxHeartbeats 6400000
variable {n:Nat} {w:World} {cs1 cs2 cs3 cs4 cs5 cs6 cs7 cs8 cs9:List Value}
def qd6 (n:Nat) (a_e:qa) (v0:(Option Tview)):Option Bool :=
 (qcs n v0 a_e).bind fun r1 =>
 some (!r1)
theorem qib {a_e:qa} {v0:(Option Tview)} (ha1:GoT.R w (old w) a_e cs1) {p4:Option Addr} (ha2:GoT.R w (old w) (some v0) [.pointer p4]) {r:Bool} (hF:qd6 n a_e v0=some r):RetV Tryz.prog 108 [GoT.v qa cs1,.pointer p4] w r:=by
 obtain ⟨p1,k1,p2,k2,p3,k3,rfl,s1,s2,s3⟩:=qB ha1
 obtain ⟨b1,o_1,cs2,rfl,-,hr1,hc1⟩:=PtR.get ha2 rfl
 obtain ⟨p5,rfl,s4⟩:=qfE hr1
 exact zV 8 Tryz.func108 rfl fun h=>zSR (qS h rfl rfl fun w1 bb1 h=>X0 4 rfl (zc 0 (hc1.below h.below) rfl (zl 0 0 h rfl (zcB h hF (qfD (h.old s4) (h.old ha1)) rfl fun r1 w2 h hF=>X0 3 rfl (rb h hF rfl)))))
def qF (s:(List qa)) (f_0:(Option Tview)):Nat→Int→Option (Flow Int Int)
 | 0,_=>none
 | n+1,i1 =>
  bif decide (i1<(s.length:Int)) then
   (idx s i1).bind fun y1 =>
   (qd6 n y1 f_0).bind fun r1 =>
   bif r1 then some (.ret i1) else
   qF s f_0 n (W64 (i1+1))
  else
   some (.nxt i1)
def qaC (n:Nat) (s:(List qa)) (f_0:(Option Tview)):Option Int :=
 (qF s f_0 n 0).bind fun o=>match o with
 | .ret r=>some r
 | .nxt _ =>
  some (-1)
theorem qcM {s:(List qa)} {f_0:(Option Tview)} (ha1:GoT.R w (old w) s cs1) {p2:Option Addr} (ha2:GoT.R w (old w) (some f_0) [.pointer p2]) {r:Int} (hF:qaC n s f_0=some r):RetV Tryz.prog 138 [GoT.v (List qa) cs1,.func (.func 108) #[] #[.pointer p2]] w r:=by
 obtain ⟨p1,k1,rfl,s1⟩:=ha1
 obtain ⟨b1,o_1,cs2,rfl,-,hr1,hc1⟩:=PtR.get ha2 rfl
 obtain ⟨p3,rfl,s2⟩:=qfE hr1
 refine zV 19 Tryz.func138 rfl fun h=>X0 11 rfl ?_
 obtain ⟨o1,hF,hK1⟩:=qe hF
 refine qu (rL (fun m e w'=>∃ (i1:Int),qF s f_0 m i1=some o1∧e=[(0,.slice p1 s.length k1),(1,.func (.func 108) #[] #[.pointer (some ⟨b1,o_1,none⟩)]),(7,.int .i64 (s.length:Int)),(8,.int .i64 i1)]∧SH w w' []) n ⟨_,hF,rfl,h⟩ rfl ?_)
 rintro m1 e1 w1 ⟨i1,hF,rfl,h⟩
 rcases m1 with _|m1
 ·cases hF
 refine X0 5 rfl (qm rfl hF ?_ ?_)<;>intro hF
 ·refine X0 13 rfl ?_
  obtain ⟨y1,hy1,hF,he1,b2,_,q1,cs3,hp1,hq1,hr2,hc3⟩:=s1.ix hF
  obtain ⟨p4,k2,p5,k3,p6,k4,rfl,s3,s4,s5⟩:=qB hr2
  refine zxe hp1 hq1 he1 rfl (zc 0 (hc3.below h.below) rfl (zcB h hF (qib (qZ y1 (h.oldS s3) (h.oldS s4) (h.oldS s5)) (h.old ha2)) rfl fun r1 w2 h hF=>qaW (qm rfl hF ?_ ?_)))<;>intro hF
  ·refine X0 5 rfl ?_
   obtain rfl:=qd hF;replace hF:=hK1
   exact ri h hF rfl
  exact X0 6 rfl (rK ⟨_,hF,rfl,h⟩ rfl)
 refine qA rfl ?_
 obtain rfl:=qd hF;replace hF:=hK1
 exact X0 4 rfl (ri h hF rfl)
def qac (n:Nat) (s:(List qa)) (f_0:(Option Tview)):Option Bool :=
 (qaC n s f_0).bind fun r1 =>
 some (decide (r1 ≥ 0))
theorem qcx {s:(List qa)} {f_0:(Option Tview)} (ha1:GoT.R w (old w) s cs1) {p2:Option Addr} (ha2:GoT.R w (old w) (some f_0) [.pointer p2]) {r:Bool} (hF:qac n s f_0=some r):RetV Tryz.prog 107 [GoT.v (List qa) cs1,.func (.func 108) #[] #[.pointer p2]] w r:=by
 obtain ⟨p1,k1,rfl,s1⟩:=ha1
 obtain ⟨b1,o_1,cs2,rfl,-,hr1,hc1⟩:=PtR.get ha2 rfl
 obtain ⟨p3,rfl,s2⟩:=qfE hr1
 exact zV 9 Tryz.func107 rfl fun h=>X0 8 rfl (zcI h hF (qcM ⟨_,_,rfl,(h.oldS s1)⟩ (h.old ha2)) rfl fun r1 w1 h hF=>X0 3 rfl (rb h hF rfl))
def qeI (n:Nat) (b:qc) (list:(List qa)):Option ((Option Tview) × Int) :=
 (qf9 n b).bind fun r1 =>
 bif (!r1) then some (none,1) else
 bif decide ((list.length:Int) > 6) then some (none,3) else
 (qf4 n b).bind fun r2 =>
 (qac n list r2).bind fun r3 =>
 bif r3 then some (none,5) else
 some (r2,0)
theorem qiL {A:Nat→Prop} (hA:∀ b,A b→old w b) {b:qc} {list:(List qa)} (ha1:GoT.R w A b cs1) (ha2:GoT.R w A list cs2) {r:((Option Tview) × Int)} (hF:qeI n b list=some r):RetG Tryz.prog 61 [GoT.v qc cs1,GoT.v (List qa) cs2] w A r:=by
 obtain ⟨p1,k1,p2,k2,p3,k3,p4,k4,p5,k5,rfl,s1,s2,s3,s4,s5⟩:=qJ ha1
 obtain ⟨p6,k6,rfl,s6⟩:=ha2
 have hg:=Rg.start hA
 refine qfY Tryz.func61 rfl (m:=21) rfl rfl (fun h=>?_)
 refine zSR (qS h rfl rfl fun w1 bb1 h=>X1 8 0 h rfl (zcB h hF (qiH (h.old (GoT.mono ha1 hg.old))) rfl fun r1 w2 h hF=>X0 3 rfl (qm rfl hF ?_ ?_)))<;>intro hF
 ·refine X0 5 rfl ?_
  obtain rfl:=qd hF
  have hv1:GoRs.Rs (ρ:=((Option Tview) × Int)) h.wc (reg A w h.wc) (none,1) [GoT.v (Option Tview) [.pointer none],GoT.v Int [.int .i64 1]]:=⟨_,_,rfl,rfl,⟨_,rfl,rfl⟩⟩
  exact qhB qb (ρ:=((Option Tview) × Int)) (r:=(none,1)) [GoT.v (Option Tview) [.pointer none],GoT.v Int [.int .i64 1]] h ⟨rfl,rfl,trivial⟩ hv1
 refine X0 7 rfl (qm rfl hF ?_ ?_)<;>intro hF
 ·refine X0 5 rfl ?_
  obtain rfl:=qd hF
  have hv2:GoRs.Rs (ρ:=((Option Tview) × Int)) h.wc (reg A w h.wc) (none,3) [GoT.v (Option Tview) [.pointer none],GoT.v Int [.int .i64 3]]:=⟨_,_,rfl,rfl,⟨_,rfl,rfl⟩⟩
  exact qhB qb (ρ:=((Option Tview) × Int)) (r:=(none,3)) [GoT.v (Option Tview) [.pointer none],GoT.v Int [.int .i64 3]] h ⟨rfl,rfl,trivial⟩ hv2
 refine X1 5 0 h rfl ?_
 obtain ⟨r2,hr2,hF⟩:=qe hF
 refine qmG r2 hg h (cB 35 rfl) (qiE (hg.regOld h) (hg.inR h ha1) hr2) rfl rfl rfl rfl fun w3 us1 B1 hg1 hu1 hz1 hv3=>?_
 have hL1:=h.ext hu1.below
 have s7:=Up.S hg h hu1 s6
 have hb1:=h.below.trans (hu1.below.mono h.below.size)
 replace h:=hz1
 obtain ⟨cs3,rfl,hr3⟩:=qgA hv3
 obtain ⟨p7,rfl,s8⟩:=qfE hr3
 refine qx qb h rfl rfl rfl fun w4 bb2 h=>zs 0 h rfl fun w5 h=>X0 6 rfl (zcB h hF (qcx ⟨_,_,rfl,(h.oldS (s7.mono hg1.old))⟩ (qgO (x:=r2) 0 h rfl (h.old (GoT.mono s8 hg1.old)))) rfl fun r3 w6 h hF=>qaW (qm rfl hF ?_ ?_))<;>intro hF
 ·refine X0 5 rfl ?_
  obtain rfl:=qd hF
  have hv4:GoRs.Rs (ρ:=((Option Tview) × Int)) h.wc (reg A w h.wc) (none,5) [GoT.v (Option Tview) [.pointer none],GoT.v Int [.int .i64 5]]:=⟨_,_,rfl,rfl,⟨_,rfl,rfl⟩⟩
  exact qhB qb (ρ:=((Option Tview) × Int)) (r:=(none,5)) [GoT.v (Option Tview) [.pointer none],GoT.v Int [.int .i64 5]] (h.unbase hg1.below ⟨fun _ h=>h,trivial⟩) ⟨rfl,rfl,trivial⟩ hv4
 refine X1 7 0 h rfl ?_
 obtain rfl:=qd hF
 have hv5:GoRs.Rs (ρ:=((Option Tview) × Int)) h.wc (reg A w h.wc) (r2,0) [GoT.v (Option Tview) [.pointer p7],GoT.v Int [.int .i64 0]]:=⟨_,_,rfl,(hg1.outR h (hg1.inR h s8)),⟨_,rfl,rfl⟩⟩
 exact qhB qb (ρ:=((Option Tview) × Int)) (r:=(r2,0)) [GoT.v (Option Tview) [.pointer p7],GoT.v Int [.int .i64 0]] (h.unbase hg1.below ⟨fun _ h=>h,trivial⟩) ⟨rfl,rfl,trivial⟩ hv5
def qgU (_:Nat) (a_e:qa):Option Int :=
 (
  bif decide ((a_e.As.length:Int) > 0) then some (W64 (0+4)) else
  some 0).bind fun i1 =>
 bif decide ((a_e.To.length:Int) > 0) then
  bif decide ((a_e.Am.length:Int) > 0) then some (W64 ((W64 (i1+2))+1)) else
  some (W64 (i1+2))
 else
  bif decide ((a_e.Am.length:Int) > 0) then some (W64 (i1+1)) else
  some i1
theorem qgh {a_e:qa} (ha1:GoT.R w (old w) a_e cs1) {r:Int} (hF:qgU n a_e=some r):RetV Tryz.prog 140 [GoT.v qa cs1] w r:=by
 obtain ⟨p1,k1,p2,k2,p3,k3,rfl,s1,s2,s3⟩:=qB ha1
 refine zV 23 Tryz.func140 rfl fun h=>zSR (qS h rfl rfl fun w1 bb1 h=>X1 14 0 h rfl ?_)
 obtain ⟨KF1,hKF1,o1,hF,hK1⟩:=bindE hF
 refine qaV (fun e w'=>∃ (i1:Int),KF1 i1=some r∧e=[(1,.pointer (some ⟨bb1,0,none⟩)),(3,.int .i64 i1)]∧SH w w' [Ch.box bb1 (qdd a_e p1 p2 p3 k1 k2 k3) 59]) ?_ ?_
 ·refine qm rfl hF ?_ ?_<;>intro hF
  ·refine X0 5 rfl ?_
   obtain rfl:=qd hF
   exact rG ⟨_,hK1,rfl,h⟩ rfl
  refine qdy ?_
  obtain rfl:=qd hF
  exact rG ⟨_,hK1,rfl,h⟩ rfl
 rintro e1 w2 ⟨i1,hF,rfl,h⟩
 subst hKF1
 refine X1 8 0 h rfl (qm rfl hF ?_ ?_)<;>intro hF
 ·refine X1 13 0 h rfl (qm rfl hF ?_ ?_)<;>intro hF
  ·exact X0 10 rfl (ri h hF rfl)
  exact X0 6 rfl (ri h hF rfl)
 refine X1 9 0 h rfl (qm rfl hF ?_ ?_)<;>intro hF
 ·exact X0 10 rfl (ri h hF rfl)
 exact X0 6 rfl (ri h hF rfl)
def qeN (a_0:(List qa)) (a_1:(List Bool)) (a_2:Int):Nat→Int→Int→Int→Option (Int × Int × Int)
 | 0,_,_,_=>none
 | n+1,i1,i2,i3 =>
  bif decide (i3<(a_0.length:Int)) then
   (
    (idx a_1 i3).bind fun y7 =>
    bif (!y7) then some true else
    (idx a_0 i3).bind fun y8 =>
    bif (y8.Ar != a_2) then some true else
    (idx a_0 i3).bind fun y9 =>
    (qgU n y9).bind fun r4 =>
    some (decide (r4<i1))).bind fun b1 =>
   bif b1 then qeN a_0 a_1 a_2 n i1 i2 (W64 (i3+1)) else
   (idx a_0 i3).bind fun y1 =>
   (
    bif (a_2==4) then
     (idx a_0 i3).bind fun y6 =>
     some (decide (y6.Ba > i2))
    else
     some (decide (y1.Ba<i2))).bind fun b3 =>
   (
    (idx a_0 i3).bind fun y5 =>
    (qgU n y5).bind fun r3 =>
    bif decide (r3 > i1) then some true else
    some b3).bind fun b4 =>
   bif b4 then
    (idx a_0 i3).bind fun y2 =>
    (idx a_0 i3).bind fun y3 =>
    (qgU n y3).bind fun r1 =>
    qeN a_0 a_1 a_2 n r1 y2.Ba (W64 (i3+1))
   else
    (idx a_0 i3).bind fun y4 =>
    (qgU n y4).bind fun r2 =>
    qeN a_0 a_1 a_2 n r2 i2 (W64 (i3+1))
  else
   some (i1,i2,i3)
def qgb (n:Nat) (a_0:(List qa)) (a_1:(List Bool)) (a_2:Int):Option Int :=
 (qeN a_0 a_1 a_2 n (-1) (-1) 0).bind fun o=>match o with
 | (_,i2,_) =>
  some i2
theorem qfL {a_0:(List qa)} {a_1:(List Bool)} {a_2:Int} (ha1:GoT.R w (old w) a_0 cs1) (ha2:GoT.R w (old w) a_1 cs2) {r:Int} (hF:qgb n a_0 a_1 a_2=some r):RetV Tryz.prog 111 [GoT.v (List qa) cs1,GoT.v (List Bool) cs2,.int .i64 a_2] w r:=by
 obtain ⟨p1,k1,rfl,s1⟩:=ha1
 obtain ⟨p2,k2,rfl,s2⟩:=ha2
 refine zV 77 Tryz.func111 rfl fun h=>X0 17 rfl ?_
 obtain ⟨o1,hF,hK1⟩:=qe hF
 refine qu (rL (fun m e w'=>∃ (i1:Int) (i2:Int) (i3:Int),qeN a_0 a_1 a_2 m i1 i2 i3=some o1∧e=[(0,.slice p1 a_0.length k1),(1,.slice p2 a_1.length k2),(2,.int .i64 a_2),(7,.int .i64 i1),(8,.int .i64 i2),(9,.int .i64 i3)]∧SH w w' []) n ⟨_,_,_,hF,rfl,h⟩ rfl ?_)
 rintro m1 e1 w1 ⟨i1,i2,i3,hF,rfl,h⟩
 rcases m1 with _|m1
 ·cases hF
 refine X0 8 rfl (qm rfl hF ?_ ?_)<;>intro hF
 ·refine X0 5 rfl ?_
  obtain ⟨KF3,hKF3,o4,hF,hK4⟩:=bindE hF
  refine qaV (fun e w'=>∃ (b1:Bool),KF3 b1=some o1∧e=[(0,.slice p1 a_0.length k1),(1,.slice p2 a_1.length k2),(2,.int .i64 a_2),(7,.int .i64 i1),(8,.int .i64 i2),(9,.int .i64 i3),(39,.bool b1)]∧SH w w' []) ?_ ?_
  ·refine X0 3 rfl ?_
   obtain ⟨y7,hy7,hF,he7,b10,_,q7,cs9,hp7,hq7,rfl,hc11⟩:=s2.ix hF
   refine zxe hp7 hq7 he7 rfl (zc 0 (hc11.below h.below) rfl (zp2 rfl (qj (t:=22) hF rfl ?_ ?_)))<;>intro hF
   ·refine X0 18 rfl ?_
    obtain rfl:=qd hF
    exact rG ⟨_,hK4,rfl,h⟩ rfl
   refine X0 5 rfl ?_
   obtain ⟨y8,hy8,hF,he8,b11,_,q8,cs10,hp8,hq8,hr11,hc12⟩:=s1.ix hF
   obtain ⟨p21,k21,p22,k22,p23,k23,rfl,s21,s22,s23⟩:=qB hr11
   refine zxe hp8 hq8 he8 rfl (X0 3 rfl (zc 0 (hc12.below h.below) rfl (X0 6 rfl (qj (t:=31) hF rfl ?_ ?_))))<;>intro hF
   ·refine X0 9 rfl ?_
    obtain rfl:=qd hF
    exact rG ⟨_,hK4,rfl,h⟩ rfl
   refine X0 5 rfl ?_
   obtain ⟨y9,hy9,hF,he9,b12,_,q9,cs11,hp9,hq9,hr12,hc13⟩:=s1.ix hF
   obtain ⟨p24,k24,p25,k25,p26,k26,rfl,s24,s25,s26⟩:=qB hr12
   refine zxe hp9 hq9 he9 rfl (X0 1 rfl (zc 0 (hc13.below h.below) rfl (X0 1 rfl (zcI h hF (qgh (qZ y9 (h.oldS s24) (h.oldS s25) (h.oldS s26))) rfl fun r4 w7 h hF=>X0 6 rfl ?_))))
   obtain rfl:=qd hF
   exact rG ⟨_,hK4,rfl,h⟩ rfl
  rintro e4 w8 ⟨b1,hF,rfl,h⟩
  subst hKF3
  refine qm rfl hF ?_ ?_<;>intro hF
  ·exact qA rfl (X0 5 rfl (rK ⟨_,_,_,hF,rfl,h⟩ rfl))
  refine X0 5 rfl ?_
  obtain ⟨y1,hy1,hF,he1,b2,_,q1,cs3,hp1,hq1,hr1,hc3⟩:=s1.ix hF
  obtain ⟨p3,k3,p4,k4,p5,k5,rfl,s3,s4,s5⟩:=qB hr1
  refine zxe hp1 hq1 he1 rfl (zp1 rfl (zc 1 (hc3.below h.below) rfl (X0 10 rfl ?_)))
  obtain ⟨KF2,hKF2,o3,hF,hK3⟩:=bindE hF
  refine qaV (fun e w'=>∃ (b3:Bool),KF2 b3=some o1∧e=[(0,.slice p1 a_0.length k1),(1,.slice p2 a_1.length k2),(2,.int .i64 a_2),(7,.int .i64 i1),(8,.int .i64 i2),(9,.int .i64 i3),(10,.bool b3)]∧SH w w' []) ?_ ?_
  ·refine qm rfl hF ?_ ?_<;>intro hF
   ·refine X0 3 rfl ?_
    obtain ⟨y6,hy6,hF,he6,b9,_,q6,cs8,hp6,hq6,hr9,hc10⟩:=s1.ix hF
    obtain ⟨p18,k18,p19,k19,p20,k20,rfl,s18,s19,s20⟩:=qB hr9
    refine zxe hp6 hq6 he6 rfl (zp1 rfl (zc 1 (hc10.below h.below) rfl (X0 4 rfl ?_)))
    obtain rfl:=qd hF
    exact rG ⟨_,hK3,rfl,h⟩ rfl
   refine qdy ?_
   obtain rfl:=qd hF
   exact rG ⟨_,hK3,rfl,h⟩ rfl
  rintro e3 w6 ⟨b3,hF,rfl,h⟩
  subst hKF2
  refine zSS ?_
  obtain ⟨KF1,hKF1,o2,hF,hK2⟩:=bindE hF
  refine qaV (fun e w'=>∃ (b4:Bool),KF1 b4=some o1∧e=[(0,.slice p1 a_0.length k1),(1,.slice p2 a_1.length k2),(2,.int .i64 a_2),(8,.int .i64 i2),(9,.int .i64 i3),(65,.bool b4)]∧SH w w' []) ?_ ?_
  ·refine X0 3 rfl ?_
   obtain ⟨y5,hy5,hF,he5,b8,_,q5,cs7,hp5,hq5,hr7,hc8⟩:=s1.ix hF
   obtain ⟨p15,k15,p16,k16,p17,k17,rfl,s15,s16,s17⟩:=qB hr7
   refine zxe hp5 hq5 he5 rfl (zc 0 (hc8.below h.below) rfl (zcI h hF (qgh (qZ y5 (h.oldS s15) (h.oldS s16) (h.oldS s17))) rfl fun r3 w4 h hF=>zp3 rfl (qj (t:=63) hF rfl ?_ ?_)))<;>intro hF
   ·refine X0 3 rfl ?_
    obtain rfl:=qd hF
    exact rG ⟨_,hK2,rfl,h⟩ rfl
   refine X0 4 rfl ?_
   obtain rfl:=qd hF
   exact rG ⟨_,hK2,rfl,h⟩ rfl
  rintro e2 w5 ⟨b4,hF,rfl,h⟩
  subst hKF1
  refine qm rfl hF ?_ ?_<;>intro hF
  ·refine X0 3 rfl ?_
   obtain ⟨y2,hy2,hF,he2,b5,_,q2,cs4,hp2,hq2,hr2,hc5⟩:=s1.ix hF
   obtain ⟨p6,k6,p7,k7,p8,k8,rfl,s6,s7,s8⟩:=qB hr2
   refine zxe hp2 hq2 he2 rfl (zp1 rfl (zc 1 (hc5.below h.below) rfl (X0 5 rfl ?_)))
   obtain ⟨y3,hy3,hF,he3,b6,_,q3,cs5,hp3,hq3,hr3,hc6⟩:=s1.ix hF
   obtain ⟨p9,k9,p10,k10,p11,k11,rfl,s9,s10,s11⟩:=qB hr3
   exact zxe hp3 hq3 he3 rfl (zc 0 (hc6.below h.below) rfl (zcI h hF (qgh (qZ y3 (h.oldS s9) (h.oldS s10) (h.oldS s11))) rfl fun r1 w2 h hF=>X0 8 rfl (rK ⟨_,_,_,hF,rfl,h⟩ rfl)))
  refine X0 4 rfl ?_
  obtain ⟨y4,hy4,hF,he4,b7,_,q4,cs6,hp4,hq4,hr5,hc7⟩:=s1.ix hF
  obtain ⟨p12,k12,p13,k13,p14,k14,rfl,s12,s13,s14⟩:=qB hr5
  exact zxe hp4 hq4 he4 rfl (zc 0 (hc7.below h.below) rfl (zcI h hF (qgh (qZ y4 (h.oldS s12) (h.oldS s13) (h.oldS s14))) rfl fun r2 w3 h hF=>X0 8 rfl (rK ⟨_,_,_,hF,rfl,h⟩ rfl)))
 refine qA rfl ?_
 obtain rfl:=qd hF;replace hF:=hK1
 exact X0 5 rfl (ri h hF rfl)
def qiP (n:Nat) (list:(List qa)) (matching:(List Bool)):Option qL :=
 (qgb n list matching 3).bind fun r1 =>
 (qgb n list matching 4).bind fun r2 =>
 (qgb n list matching 1).bind fun r3 =>
 (qgb n list matching 2).bind fun r4 =>
 bif (r1==(-1)) then
  bif decide (r4 > 0) then some (⟨(r3==0),r4,r1,r2⟩:qL) else
  some (⟨(r3==0),1,r1,r2⟩:qL)
 else
  some (⟨(r3==0),1,r1,r2⟩:qL)
theorem qj0 {list:(List qa)} {matching:(List Bool)} (ha1:GoT.R w (old w) list cs1) (ha2:GoT.R w (old w) matching cs2) {r:qL} (hF:qiP n list matching=some r):RetV Tryz.prog 64 [GoT.v (List qa) cs1,GoT.v (List Bool) cs2] w r:=by
 obtain ⟨p1,k1,rfl,s1⟩:=ha1
 obtain ⟨p2,k2,rfl,s2⟩:=ha2
 refine zV 32 Tryz.func64 rfl fun h=>zSR (qx qb h rfl rfl rfl fun w1 bb1 h=>X0 5 rfl (zcI h hF (qfL ⟨_,_,rfl,(h.oldS s1)⟩ ⟨_,_,rfl,(h.oldS s2)⟩) rfl fun r1 w2 h hF=>zp2 rfl (zcI h hF (qfL ⟨_,_,rfl,(h.oldS s1)⟩ ⟨_,_,rfl,(h.oldS s2)⟩) rfl fun r2 w3 h hF=>r_v (qai qb [1,2,3] [.const (.int .i64 (1)),.tmp 9,.tmp 12] rfl rfl rfl rfl rfl rfl rfl rfl) rfl (qx qb h rfl rfl rfl fun w4 bb2 h=>zs 0 h rfl fun w5 h=>X0 5 rfl (zcI h hF (qfL ⟨_,_,rfl,(h.oldS s1)⟩ ⟨_,_,rfl,(h.oldS s2)⟩) rfl fun r3 w6 h hF=>zp2 rfl (zs 0 h rfl fun w7 h=>X0 5 rfl (zcI h hF (qfL ⟨_,_,rfl,(h.oldS s1)⟩ ⟨_,_,rfl,(h.oldS s2)⟩) rfl fun r4 w8 h hF=>X1 9 0 h rfl (qj (t:=25) hF rfl ?_ ?_))))))))<;>intro hF
 ·refine X0 6 rfl (qm rfl hF ?_ ?_)<;>intro hF
  ·refine X0 3 rfl (zs 0 h rfl fun w9 h=>X1 4 0 h rfl (zs 1 h rfl fun w10 h=>qaW ?_))
   obtain rfl:=qd hF
   exact qbB qb (ρ:=qL) [GoT.v qL [.bool (r3==0),.int .i64 r4,.int .i64 r1,.int .i64 r2]] h ⟨⟨_,_,_,rfl,rfl,h.box 1 rfl,rfl⟩,trivial⟩ (PV.done h (qb0 (qD (S:=fun _=>False) (qcE (⟨(r3==0),r4,r1,r2⟩:qL)))))
  refine X1 4 0 h rfl (zs 1 h rfl fun w11 h=>qaW ?_)
  obtain rfl:=qd hF
  exact qbB qb (ρ:=qL) [GoT.v qL [.bool (r3==0),.int .i64 1,.int .i64 r1,.int .i64 r2]] h ⟨⟨_,_,_,rfl,rfl,h.box 1 rfl,rfl⟩,trivial⟩ (PV.done h (qb0 (qD (S:=fun _=>False) (qcE (⟨(r3==0),1,r1,r2⟩:qL)))))
 refine X0 4 rfl (qbO rfl rfl (X1 4 0 h rfl (zs 1 h rfl fun w12 h=>qaW ?_)))
 obtain rfl:=qd hF
 exact qbB qb (ρ:=qL) [GoT.v qL [.bool (r3==0),.int .i64 1,.int .i64 r1,.int .i64 r2]] h ⟨⟨_,_,_,rfl,rfl,h.box 1 rfl,rfl⟩,trivial⟩ (PV.done h (qb0 (qD (S:=fun _=>False) (qcE (⟨(r3==0),1,r1,r2⟩:qL)))))
def qgy (list:(List qa)) (path:(List Int)):Nat→(List Bool)→Int→Option ((List Bool) × Int)
 | 0,_,_=>none
 | n+1,x1,i1 =>
  bif decide (i1<(list.length:Int)) then
   (idx list i1).bind fun y1 =>
   (qiD n y1 path).bind fun r3 =>
   (appS x1 ([r3]:List Bool)).bind fun x2 =>
   qgy list path n x2 (W64 (i1+1))
  else
   some (x1,i1)
def qgJ (n:Nat) (b:qc) (list:(List qa)) (path:(List Int)):Option (qL × Int) :=
 (qhh n b list).bind fun r1 =>
 bif (r1 != 0) then some ((⟨false,0,0,0⟩:qL),r1) else
 (qfO n b path).bind fun r2 =>
 bif (!r2) then some ((⟨false,0,0,0⟩:qL),2) else
 (qgy list path n ([]:List Bool) 0).bind fun o=>match o with
 | (x1,_) =>
  (qiP n list x1).bind fun r4 =>
  some (r4,0)
theorem qkm {b:qc} {list:(List qa)} {path:(List Int)} (ha1:GoT.R w (old w) b cs1) (ha2:GoT.R w (old w) list cs2) (ha3:GoT.R w (old w) path cs3) {r:(qL × Int)} (hF:qgJ n b list path=some r):RetV Tryz.prog 28 [GoT.v qc cs1,GoT.v (List qa) cs2,GoT.v (List Int) cs3] w r:=by
 obtain ⟨p1,k1,p2,k2,p3,k3,p4,k4,p5,k5,rfl,s1,s2,s3,s4,s5⟩:=qJ ha1
 obtain ⟨p6,k6,rfl,s6⟩:=ha2
 obtain ⟨p7,k7,rfl,s7⟩:=ha3
 refine zV 42 Tryz.func28 rfl fun h=>zSR (qS h rfl rfl fun w1 bb1 h=>qx qb h rfl rfl rfl fun w2 bb2 h=>X1 6 1 h rfl (zcI h hF (qkX (h.old ha1) ⟨_,_,rfl,(h.oldS s6)⟩) rfl fun r1 w3 h hF=>X0 8 rfl (qm rfl hF ?_ ?_)))<;>intro hF
 ·refine zSR (r_v (qai qb [] [] rfl rfl rfl rfl rfl rfl rfl rfl) rfl (zp1 rfl (zs 0 h rfl fun w4 h=>X0 2 rfl ?_)))
  obtain rfl:=qd hF
  exact qbB qb (ρ:=(qL × Int)) [GoT.v qL [.bool false,.int .i64 0,.int .i64 0,.int .i64 0],GoT.v Int [.int .i64 r1]] h ⟨⟨_,_,_,rfl,rfl,h.box 0 rfl,rfl⟩,rfl,trivial⟩ (PV.done h (qek h (qD (S:=fun _=>False) (qcE (⟨false,0,0,0⟩:qL))) (qb0 (qD (S:=fun _=>False) rfl)) (by rfl)))
 refine X1 6 1 h rfl (zcB h hF (qjE (h.old ha1) ⟨_,_,rfl,(h.oldS s7)⟩) rfl fun r2 w5 h hF=>X0 2 rfl (qm rfl hF ?_ ?_))<;>intro hF
 ·refine zSR (r_v (qai qb [] [] rfl rfl rfl rfl rfl rfl rfl rfl) rfl (zs 0 h rfl fun w6 h=>X0 2 rfl ?_))
  obtain rfl:=qd hF
  exact qbB qb (ρ:=(qL × Int)) [GoT.v qL [.bool false,.int .i64 0,.int .i64 0,.int .i64 0],GoT.v Int [.int .i64 2]] h ⟨⟨_,_,_,rfl,rfl,h.box 0 rfl,rfl⟩,rfl,trivial⟩ (PV.done h (qek h (qD (S:=fun _=>False) (qcE (⟨false,0,0,0⟩:qL))) (qb0 (qD (S:=fun _=>False) rfl)) (by rfl)))
 refine zKSR (qn qb [] _ ([]:List Bool) h rfl rfl rfl rfl rfl rfl rfl rfl rfl trivial rfl fun w7 p8 S1 h=>X0 7 rfl ?_)
 obtain ⟨o1,hF,hK1⟩:=qe hF
 refine qu ?_
 replace h:=h.pick [0,1] rfl
 refine rL (fun m e w'=>∃ (S2:Nat→Prop) (p9:Option Addr) (ln1:Nat) (k8:Nat) (x1:(List Bool)) (i1:Int),qgy list path m x1 i1=some o1∧e=[(1,.slice p6 list.length k6),(2,.slice p7 path.length k7),(6,.pointer (some ⟨bb2,0,none⟩)),(9,.slice p9 ln1 k8),(10,.int .i64 i1)]∧SH w w' [Ch.own S2 (x1:List Bool) [.slice p9 ln1 k8],Ch.box bb2 [.bool false,.int .i64 0,.int .i64 0,.int .i64 0] 55]) n ⟨_,_,_,_,_,_,hF,rfl,h⟩ rfl ?_
 rintro m1 e1 w8 ⟨S2,p9,ln1,k8,x1,i1,hF,rfl,h⟩
 obtain rfl:=(h.sl 0 rfl).2
 rcases m1 with _|m1
 ·cases hF
 refine X0 8 rfl (qm rfl hF ?_ ?_)<;>intro hF
 ·refine X0 7 rfl ?_
  obtain ⟨y1,hy1,hF,he1,b1,_,q1,cs4,hp1,hq1,hr3,hc4⟩:=s6.ix hF
  obtain ⟨p10,k9,p11,k10,p12,k11,rfl,s8,s9,s10⟩:=qB hr3
  refine zxe hp1 hq1 he1 rfl (zc 0 (hc4.below h.below) rfl (zp1 rfl (zcB h hF (qjF (qZ y1 (h.oldS s8) (h.oldS s9) (h.oldS s10)) ⟨_,_,rfl,(h.oldS s7)⟩) rfl fun r3 w9 h hF=>qn qb [.tmp 36] _ ([r3]:List Bool) h rfl rfl rfl rfl rfl rfl rfl rfl rfl ⟨rfl,trivial⟩ rfl fun w10 p13 S3 h=>?_)))
  obtain ⟨x2,hx1,hF⟩:=qe hF
  obtain ⟨g1,hx1⟩:=qk hx1
  refine qau qb 1 h rfl (h.sl 0 rfl).1 (h.sl 0 rfl).2 rfl rfl rfl rfl rfl rfl rfl rfl rfl g1 hx1 rfl fun w11 p14 k12 S4 h=>X0 8 rfl ?_
  replace h:=h.pick [1,2] rfl
  exact rK ⟨_,_,_,_,_,_,hF,rfl,h⟩ rfl
 refine qA rfl ?_
 obtain rfl:=qd hF;replace hF:=hK1
 refine X0 4 rfl (zcO h hF (qj0 ⟨_,_,rfl,(h.oldS s6)⟩ (h.own 0 rfl)) rfl fun r4 w12 S5 cs5 h hF=>?_)
 obtain rfl:=qam (h.own 0 rfl)
 refine zs 2 h rfl fun w13 h=>X0 2 rfl ?_
 obtain rfl:=qd hF
 exact qbB qb (ρ:=(qL × Int)) [GoT.v qL (qfZ r4),GoT.v Int [.int .i64 0]] h ⟨⟨_,_,_,rfl,rfl,h.box 2 rfl,rfl⟩,rfl,trivial⟩ (PV.done h (qek h (qE 0 h rfl) (qb0 (qD (S:=fun _=>False) rfl)) (by rfl)))
def qe6 (a_e:qa):Nat→Int→Int→Option (Int × Int)
 | 0,_,_=>none
 | n+1,i1,i2 =>
  bif decide (i2<((3:Nat):Int)) then
   (idx ([a_e.Am,a_e.To,a_e.As]:List (List Int)) i2).bind fun y1 =>
   bif decide ((y1.length:Int) > 0) then
    (shlS 1 i2).bind fun y2 =>
    qe6 a_e n (W64 (i1+y2)) (W64 (i2+1))
   else
    qe6 a_e n i1 (W64 (i2+1))
  else
   some (i1,i2)
def qhL (n:Nat) (a_e:qa):Option Int :=
 (qe6 a_e n 0 0).bind fun o=>match o with
 | (i1,_) =>
  some i1
theorem qlJ {a_e:qa} (ha1:GoT.R w (old w) a_e cs1) {r:Int} (hF:qhL n a_e=some r):RetV Tryz.prog 139 [GoT.v qa cs1] w r:=by
 obtain ⟨p1,k1,p2,k2,p3,k3,rfl,s1,s2,s3⟩:=qB ha1
 refine zV 28 Tryz.func139 rfl fun h=>zSR (qS h rfl rfl fun w1 bb1 h=>X3 15 0 0 0 h rfl (qdj qb [.tmp 7,.tmp 9,.tmp 11] _ ([a_e.Am,a_e.To,a_e.As]:List (List Int)) h rfl rfl rfl rfl rfl rfl rfl rfl rfl ⟨⟨_,_,rfl,s2⟩,⟨_,_,rfl,s3⟩,⟨_,_,rfl,s1⟩,trivial⟩ rfl fun w2 p4 S1 h=>X0 3 rfl ?_))
 obtain ⟨o1,hF,hK1⟩:=qe hF
 refine qu ?_
 replace h:=h.pick [0] rfl
 refine rL (fun m e w'=>∃ (i1:Int) (i2:Int),qe6 a_e m i1 i2=some o1∧e=[(3,.int .i64 i1),(12,.slice p4 3 3),(13,.int .i64 ((3:Nat):Int)),(14,.int .i64 i2)]∧SH w w' [Ch.rowD w S1 (([a_e.Am,a_e.To,a_e.As]:List (List Int)):List (List Int)) p4 3]) n ⟨_,_,hF,rfl,h⟩ rfl ?_
 rintro m1 e1 w3 ⟨i1,i2,hF,rfl,h⟩
 rcases m1 with _|m1
 ·cases hF
 refine X0 5 rfl (qm rfl hF ?_ ?_)<;>intro hF
 ·refine X0 6 rfl ?_
  obtain ⟨y1,hy1,hF⟩:=qe hF
  have he1:=qbd hy1
  obtain ⟨b1,o_1,q1,cs2,hp1,hq1,-,hr1,hc2⟩:=h.atD 0 rfl hy1
  obtain ⟨p5,k4,rfl,s4⟩:=hr1
  refine zxe hp1 hq1 he1 rfl (zc 0 hc2 rfl (X0 9 rfl (qm rfl hF ?_ ?_)))<;>intro hF
  ·refine X0 3 rfl ?_
   obtain ⟨y2,hx1,hF⟩:=qe hF
   obtain ⟨g1,hx1⟩:=qjh hx1
   refine r_v (qn2 g1 rfl rfl) rfl ?_
   rw [hx1]
   exact X0 8 rfl (rK ⟨_,_,hF,rfl,h⟩ rfl)
  exact X0 6 rfl (rK ⟨_,_,hF,rfl,h⟩ rfl)
 refine qA rfl ?_
 obtain rfl:=qd hF;replace hF:=hK1
 exact X0 5 rfl (ri h hF rfl)
def qaQ (list:(List qa)) (kind:Int) (greatest:Bool):Nat→Int→Int→Int→Option (Int × Int × Int)
 | 0,_,_,_=>none
 | n+1,i1,i2,i3 =>
  bif decide (i3<(list.length:Int)) then
   (idx list i3).bind fun y1 =>
   bif (y1.Ar != kind) then qaQ list kind greatest n i1 i2 (W64 (i3+1)) else
   (qhL n y1).bind fun r1 =>
   bif decide (r1 > i1) then qaQ list kind greatest n r1 y1.Ba (W64 (i3+1)) else
   bif (r1==i1) then
    bif ((decide (y1.Ba > i2))==greatest) then qaQ list kind greatest n r1 y1.Ba (W64 (i3+1)) else
    qaQ list kind greatest n i1 i2 (W64 (i3+1))
   else
    qaQ list kind greatest n i1 i2 (W64 (i3+1))
  else
   some (i1,i2,i3)
def qem (n:Nat) (list:(List qa)) (kind:Int) (greatest:Bool):Option Int :=
 (qaQ list kind greatest n (-1) (-1) 0).bind fun o=>match o with
 | (_,i2,_) =>
  some i2
theorem qgm {list:(List qa)} {kind:Int} {greatest:Bool} (ha1:GoT.R w (old w) list cs1) {r:Int} (hF:qem n list kind greatest=some r):RetV Tryz.prog 109 [GoT.v (List qa) cs1,.int .i64 kind,.bool greatest] w r:=by
 obtain ⟨p1,k1,rfl,s1⟩:=ha1
 refine zV 45 Tryz.func109 rfl fun h=>X0 16 rfl ?_
 obtain ⟨o1,hF,hK1⟩:=qe hF
 refine qu (rL (fun m e w'=>∃ (i1:Int) (i2:Int) (i3:Int),qaQ list kind greatest m i1 i2 i3=some o1∧e=[(1,.int .i64 kind),(2,.bool greatest),(7,.int .i64 i1),(8,.int .i64 i2),(12,.slice p1 list.length k1),(13,.int .i64 (list.length:Int)),(14,.int .i64 i3)]∧SH w w' []) n ⟨_,_,_,hF,rfl,h⟩ rfl ?_)
 rintro m1 e1 w1 ⟨i1,i2,i3,hF,rfl,h⟩
 rcases m1 with _|m1
 ·cases hF
 refine X0 5 rfl (qm rfl hF ?_ ?_)<;>intro hF
 ·refine zKSBSR ?_
  obtain ⟨y1,hy1,hF,he1,b1,_,q1,cs2,hp1,hq1,hr1,hc2⟩:=s1.ix hF
  obtain ⟨p2,k2,p3,k3,p4,k4,rfl,s2,s3,s4⟩:=qB hr1
  refine zxe hp1 hq1 he1 rfl (zc 0 (hc2.below h.below) rfl (qx qb h rfl rfl rfl fun w2 bb1 h=>zs 0 h rfl fun w3 h=>X1 9 0 h rfl (qm rfl hF ?_ ?_)))<;>intro hF
  ·refine qA rfl (X0 4 rfl ?_)
   replace h:=h.pick [] rfl
   exact rK ⟨_,_,_,hF,rfl,h⟩ rfl
  refine X1 4 0 h rfl (zcI h hF (qlJ (qZ y1 (h.oldS s2) (h.oldS s3) (h.oldS s4))) rfl fun r1 w4 h hF=>X0 8 rfl (qj (t:=27) hF rfl ?_ ?_))<;>intro hF
  ·refine X0 13 rfl (qdb rfl rfl (rD (Y1 3 0 h rfl ?_)))
   refine zd2 rfl (dN h fun w5 h=>X0 5 rfl ?_)
   replace h:=h.pick [] rfl
   exact rK ⟨_,_,_,hF,rfl,h⟩ rfl
  refine X0 8 rfl (qj (t:=31) hF rfl ?_ ?_)<;>intro hF
  ·refine X1 16 0 h rfl (qm rfl hF ?_ ?_)<;>intro hF
   ·refine rD (Y1 3 0 h rfl ?_)
    refine zd2 rfl (dN h fun w6 h=>X0 5 rfl ?_)
    replace h:=h.pick [] rfl
    exact rK ⟨_,_,_,hF,rfl,h⟩ rfl
   refine X0 6 rfl ?_
   replace h:=h.pick [] rfl
   exact rK ⟨_,_,_,hF,rfl,h⟩ rfl
  refine X0 10 rfl (qbO rfl rfl (X0 6 rfl ?_))
  replace h:=h.pick [] rfl
  exact rK ⟨_,_,_,hF,rfl,h⟩ rfl
 refine qA rfl ?_
 obtain rfl:=qd hF;replace hF:=hK1
 exact X0 5 rfl (ri h hF rfl)
def qg4 (_:Nat) (a_e:qa):Option Bool :=
 some (a_e.Ar==1)
theorem qjO {a_e:qa} (ha1:GoT.R w (old w) a_e cs1) {r:Bool} (hF:qg4 n a_e=some r):RetV Tryz.prog 110 [GoT.v qa cs1] w r:=by
 obtain ⟨p1,k1,p2,k2,p3,k3,rfl,s1,s2,s3⟩:=qB ha1
 exact zV 6 Tryz.func110 rfl fun h=>zSR (qS h rfl rfl fun w1 bb1 h=>X1 9 0 h rfl (rb h hF rfl))
def qI (s:(List qa)):Nat→Int→Option (Flow Int Int)
 | 0,_=>none
 | n+1,i1 =>
  bif decide (i1<(s.length:Int)) then
   (idx s i1).bind fun y1 =>
   (qg4 n y1).bind fun r1 =>
   bif r1 then some (.ret i1) else
   qI s n (W64 (i1+1))
  else
   some (.nxt i1)
def qaM (n:Nat) (s:(List qa)):Option Int :=
 (qI s n 0).bind fun o=>match o with
 | .ret r=>some r
 | .nxt _ =>
  some (-1)
theorem qdC {s:(List qa)} (ha1:GoT.R w (old w) s cs1) {r:Int} (hF:qaM n s=some r):RetV Tryz.prog 138 [GoT.v (List qa) cs1,.func (.func 110) #[] #[]] w r:=by
 obtain ⟨p1,k1,rfl,s1⟩:=ha1
 refine zV 19 Tryz.func138 rfl fun h=>X0 11 rfl ?_
 obtain ⟨o1,hF,hK1⟩:=qe hF
 refine qu (rL (fun m e w'=>∃ (i1:Int),qI s m i1=some o1∧e=[(0,.slice p1 s.length k1),(1,.func (.func 110) #[] #[]),(7,.int .i64 (s.length:Int)),(8,.int .i64 i1)]∧SH w w' []) n ⟨_,hF,rfl,h⟩ rfl ?_)
 rintro m1 e1 w1 ⟨i1,hF,rfl,h⟩
 rcases m1 with _|m1
 ·cases hF
 refine X0 5 rfl (qm rfl hF ?_ ?_)<;>intro hF
 ·refine X0 13 rfl ?_
  obtain ⟨y1,hy1,hF,he1,b1,_,q1,cs2,hp1,hq1,hr1,hc2⟩:=s1.ix hF
  obtain ⟨p2,k2,p3,k3,p4,k4,rfl,s2,s3,s4⟩:=qB hr1
  refine zxe hp1 hq1 he1 rfl (zc 0 (hc2.below h.below) rfl (zcB h hF (qjO (qZ y1 (h.oldS s2) (h.oldS s3) (h.oldS s4))) rfl fun r1 w2 h hF=>qaW (qm rfl hF ?_ ?_)))<;>intro hF
  ·refine X0 5 rfl ?_
   obtain rfl:=qd hF;replace hF:=hK1
   exact ri h hF rfl
  exact X0 6 rfl (rK ⟨_,hF,rfl,h⟩ rfl)
 refine qA rfl ?_
 obtain rfl:=qd hF;replace hF:=hK1
 exact X0 4 rfl (ri h hF rfl)
def qan (n:Nat) (s:(List qa)):Option Bool :=
 (qaM n s).bind fun r1 =>
 some (decide (r1 ≥ 0))
theorem qc4 {s:(List qa)} (ha1:GoT.R w (old w) s cs1) {r:Bool} (hF:qan n s=some r):RetV Tryz.prog 107 [GoT.v (List qa) cs1,.func (.func 110) #[] #[]] w r:=by
 obtain ⟨p1,k1,rfl,s1⟩:=ha1
 exact zV 9 Tryz.func107 rfl fun h=>X0 8 rfl (zcI h hF (qdC ⟨_,_,rfl,(h.oldS s1)⟩) rfl fun r1 w1 h hF=>X0 3 rfl (rb h hF rfl))
def qbR (list:(List qa)) (tag:(List Int)) (a_end:Int):Nat→(List qa)→Int→Option ((List qa) × Int)
 | 0,_,_=>none
 | n+1,x1,i1 =>
  bif decide (i1<(list.length:Int)) then
   (idx list i1).bind fun y1 =>
   (idx tag i1).bind fun y2 =>
   (qbY n y1 y2 a_end).bind fun r1 =>
   bif r1 then
    (appS x1 ([y1]:List qa)).bind fun x2 =>
    qbR list tag a_end n x2 (W64 (i1+1))
   else
    qbR list tag a_end n x1 (W64 (i1+1))
  else
   some (x1,i1)
def qgH (n:Nat) (list:(List qa)) (tag:(List Int)) (a_end:Int):Option qL :=
 (qbR list tag a_end n ([]:List qa) 0).bind fun o=>match o with
 | (x1,_) =>
  (qem n x1 3 false).bind fun r2 =>
  (qem n x1 4 true).bind fun r3 =>
  (qan n x1).bind fun r4 =>
  (qem n x1 2 false).bind fun r5 =>
  bif decide (r5 > 0) then
   bif (r2==(-1)) then some (⟨r4,r5,r2,r3⟩:qL) else
   some (⟨r4,1,r2,r3⟩:qL)
  else
   some (⟨r4,1,r2,r3⟩:qL)
theorem qkh {list:(List qa)} {tag:(List Int)} {a_end:Int} (ha1:GoT.R w (old w) list cs1) (ha2:GoT.R w (old w) tag cs2) {r:qL} (hF:qgH n list tag a_end=some r):RetV Tryz.prog 62 [GoT.v (List qa) cs1,GoT.v (List Int) cs2,.int .i64 a_end] w r:=by
 obtain ⟨p1,k1,rfl,s1⟩:=ha1
 obtain ⟨p2,k2,rfl,s2⟩:=ha2
 refine zV 51 Tryz.func62 rfl fun h=>zSR (qx qb h rfl rfl rfl fun w1 bb1 h=>X0 12 rfl ?_)
 replace h:=SH.nilD (α:=qa) h
 obtain ⟨o1,hF,hK1⟩:=qe hF
 refine qu (rL (fun m e w'=>∃ (S1:Nat→Prop) (p3:Option Addr) (k3:Nat) (x1:(List qa)) (i1:Int),qbR list tag a_end m x1 i1=some o1∧e=[(1,.slice p2 tag.length k2),(2,.int .i64 a_end),(6,.pointer (some ⟨bb1,0,none⟩)),(7,.slice p3 x1.length k3),(12,.slice p1 list.length k1),(13,.int .i64 (list.length:Int)),(14,.int .i64 i1)]∧SH w w' [Ch.rowD w S1 (x1:List qa) p3 k3,Ch.box bb1 [.bool false,.int .i64 0,.int .i64 0,.int .i64 0] 55]) n ⟨_,_,_,_,_,hF,rfl,h⟩ rfl ?_)
 rintro m1 e1 w2 ⟨S1,p3,k3,x1,i1,hF,rfl,h⟩
 rcases m1 with _|m1
 ·cases hF
 refine X0 5 rfl (qm rfl hF ?_ ?_)<;>intro hF
 ·refine X0 6 rfl ?_
  obtain ⟨y1,hy1,hF,he1,b1,_,q1,cs3,hp1,hq1,hr1,hc2⟩:=s1.ix hF
  obtain ⟨p4,k4,p5,k5,p6,k6,rfl,s3,s4,s5⟩:=qB hr1
  refine zxe hp1 hq1 he1 rfl (zc 0 (hc2.below h.below) rfl (qx qb h rfl rfl rfl fun w3 bb2 h=>zp1 rfl (zs 0 h rfl fun w4 h=>zNS (rD (Y1 1 0 h rfl ?_)))))
  refine zd2 rfl ?_
  obtain ⟨y2,hy2,hF,he2,b2,_,q2,cs4,hp2,hq2,rfl,hc3⟩:=s2.ix hF
  refine zdxe hp2 hq2 he2 rfl (zdc 0 (hc3.below h.below) rfl (zd1 rfl ?_))
  obtain ⟨r1,hr3,hF⟩:=qe hF
  refine qcq r1 (vsB _) (cB 66 rfl) (fun _ hb=>qfv (qZ y1 ((h.ext hb).oldS s3) ((h.ext hb).oldS s4) ((h.ext hb).oldS s5)) hr3) rfl rfl rfl rfl (dN h fun w5 h=>qm rfl hF ?_ ?_)<;>intro hF
  ·refine X1 3 0 h rfl (qdj qb [.tmp 27] _ ([y1]:List qa) h rfl rfl rfl rfl rfl rfl rfl rfl rfl ⟨(qZ y1 s3 s4 s5),trivial⟩ rfl fun w6 p7 S2 h=>?_)
   obtain ⟨x2,hx1,hF⟩:=qe hF
   obtain ⟨g1,hx1⟩:=qk hx1
   replace h:=h.pick [0,2,1,3] rfl
   refine qp3 qb h rfl rfl rfl rfl rfl rfl rfl rfl rfl rfl rfl g1 hx1 rfl fun w7 p8 k7 S3 h=>X0 7 rfl ?_
   replace h:=h.pick [0,2] rfl
   exact rK ⟨_,_,_,_,_,hF,rfl,h⟩ rfl
  refine X0 6 rfl ?_
  replace h:=h.pick [1,2] rfl
  exact rK ⟨_,_,_,_,_,hF,rfl,h⟩ rfl
 refine qA rfl ?_
 obtain rfl:=qd hF;replace hF:=hK1
 refine X0 3 rfl (zcI h hF (qgm ⟨_,_,rfl,(h.rowS 0 rfl)⟩) rfl fun r2 w8 h hF=>zp1 rfl (zcI h hF (qgm ⟨_,_,rfl,(h.rowS 0 rfl)⟩) rfl fun r3 w9 h hF=>r_v (qai qb [1,2,3] [.const (.int .i64 (1)),.tmp 32,.tmp 34] rfl rfl rfl rfl rfl rfl rfl rfl) rfl (qx qb h rfl rfl rfl fun w10 bb3 h=>zs 0 h rfl fun w11 h=>X0 4 rfl (zcB h hF (qc4 ⟨_,_,rfl,(h.rowS 1 rfl)⟩) rfl fun r4 w12 h hF=>zp1 rfl (zs 0 h rfl fun w13 h=>X0 5 rfl (zcI h hF (qgm ⟨_,_,rfl,(h.rowS 1 rfl)⟩) rfl fun r5 w14 h hF=>X0 7 rfl (qj (t:=43) hF rfl ?_ ?_)))))))<;>intro hF
 ·refine X1 8 0 h rfl (qm rfl hF ?_ ?_)<;>intro hF
  ·refine X0 3 rfl (zs 0 h rfl fun w15 h=>X1 4 0 h rfl (zs 2 h rfl fun w16 h=>qaW ?_))
   obtain rfl:=qd hF
   exact qbB qb (ρ:=qL) [GoT.v qL [.bool r4,.int .i64 r5,.int .i64 r2,.int .i64 r3]] h ⟨⟨_,_,_,rfl,rfl,h.box 2 rfl,rfl⟩,trivial⟩ (PV.done h (qb0 (qD (S:=fun _=>False) (qcE (⟨r4,r5,r2,r3⟩:qL)))))
  refine X1 4 0 h rfl (zs 2 h rfl fun w17 h=>qaW ?_)
  obtain rfl:=qd hF
  exact qbB qb (ρ:=qL) [GoT.v qL [.bool r4,.int .i64 1,.int .i64 r2,.int .i64 r3]] h ⟨⟨_,_,_,rfl,rfl,h.box 2 rfl,rfl⟩,trivial⟩ (PV.done h (qb0 (qD (S:=fun _=>False) (qcE (⟨r4,1,r2,r3⟩:qL)))))
 refine X0 5 rfl (qbO rfl rfl (X1 4 0 h rfl (zs 2 h rfl fun w18 h=>qaW ?_)))
 obtain rfl:=qd hF
 exact qbB qb (ρ:=qL) [GoT.v qL [.bool r4,.int .i64 1,.int .i64 r2,.int .i64 r3]] h ⟨⟨_,_,_,rfl,rfl,h.box 2 rfl,rfl⟩,trivial⟩ (PV.done h (qb0 (qD (S:=fun _=>False) (qcE (⟨r4,1,r2,r3⟩:qL)))))
def qde (n:Nat) (b:qc) (list:(List qa)) (path:(List Int)):Option (qL × Int) :=
 (qeI n b list).bind fun o=>match o with
  | (r2,r3) =>
   bif (r3 != 0) then some ((⟨false,0,0,0⟩:qL),r3) else
   (qcG n r2 path).bind fun r4 =>
   bif (!r4) then some ((⟨false,0,0,0⟩:qL),2) else
   (idx path (W64 ((path.length:Int)-1))).bind fun y1 =>
   (qhC n list path).bind fun r5 =>
   (qgH n list r5 y1).bind fun r6 =>
   some (r6,0)
theorem qU {b:qc} {list:(List qa)} {path:(List Int)} (ha1:GoT.R w (old w) b cs1) (ha2:GoT.R w (old w) list cs2) (ha3:GoT.R w (old w) path cs3) {r:(qL × Int)} (hF:qde n b list path=some r):RetV Tryz.prog 27 [GoT.v qc cs1,GoT.v (List qa) cs2,GoT.v (List Int) cs3] w r:=by
 obtain ⟨p1,k1,p2,k2,p3,k3,p4,k4,p5,k5,rfl,s1,s2,s3,s4,s5⟩:=qJ ha1
 obtain ⟨p6,k6,rfl,s6⟩:=ha2
 obtain ⟨p7,k7,rfl,s7⟩:=ha3
 refine zV 38 Tryz.func27 rfl fun h=>zSR (qS h rfl rfl fun w1 bb1 h=>qx qb h rfl rfl rfl fun w2 bb2 h=>X1 6 1 h rfl ?_)
 have hg1:Rg (old w) w (old w) w:=.start (fun _ h=>h)
 obtain ⟨r1,hr1,hF⟩:=qe hF
 obtain ⟨r2,r3⟩:=r1
 refine qmG (r2,r3) hg1 h (cB 61 rfl) (qiL (hg1.regOld h) (hg1.inR h ha1) ⟨_,_,rfl,(hg1.inS h s6)⟩ hr1) rfl rfl rfl rfl fun w3 us1 B1 hg2 hu1 hz1 hv1=>?_
 have hL1:=h.ext hu1.below
 have s8:=Up.S hg1 h hu1 s6
 have s9:=Up.S hg1 h hu1 s7
 have hc1:=Up.box 0 h hu1 rfl
 have ha4:=Up.boxP (x:=(⟨false,0,0,0⟩:qL)) hg1 0 h hu1 rfl (qcE (⟨false,0,0,0⟩:qL))
 have hb1:=h.below.trans (hu1.below.mono h.below.size)
 replace h:=hz1
 obtain ⟨cs4,us2,rfl,hr2,hv2⟩:=qfq hv1
 obtain ⟨p8,rfl,s10⟩:=qfE hr2
 obtain ⟨cs5,rfl,hr3⟩:=qgA hv2
 obtain rfl:=hr3
 refine X0 14 rfl (qm rfl hF ?_ ?_)<;>intro hF
 ·refine zSR (r_v (qai qb [] [] rfl rfl rfl rfl rfl rfl rfl rfl) rfl (zp1 rfl ?_))
  replace h:=SH.back hL1 h (show NoD [] from trivial)
  refine zs 0 h rfl fun w5 h=>X0 2 rfl ?_
  replace h:=h.unbase hg1.below ⟨fun _ h=>h,⟨fun _ h=>h,trivial⟩⟩
  obtain rfl:=qd hF
  exact qbB qb (ρ:=(qL × Int)) [GoT.v qL [.bool false,.int .i64 0,.int .i64 0,.int .i64 0],GoT.v Int [.int .i64 r3]] h ⟨⟨_,_,_,rfl,rfl,h.box 0 rfl,rfl⟩,rfl,trivial⟩ (PV.done h (qek h (qD (S:=fun _=>False) (qcE (⟨false,0,0,0⟩:qL))) (qb0 (qD (S:=fun _=>False) rfl)) (by rfl)))
 refine X0 4 rfl (zcB h hF (qfX (h.old (GoT.mono s10 hg2.old)) ⟨_,_,rfl,(h.oldS (s9.mono hg2.old))⟩) rfl fun r4 w6 h hF=>X0 3 rfl (qm rfl hF ?_ ?_))<;>intro hF
 ·refine zSR (r_v (qai qb [] [] rfl rfl rfl rfl rfl rfl rfl rfl) rfl ?_)
  replace h:=SH.back hL1 h (show NoD [] from trivial)
  refine zs 0 h rfl fun w8 h=>X0 2 rfl ?_
  replace h:=h.unbase hg1.below ⟨fun _ h=>h,⟨fun _ h=>h,trivial⟩⟩
  obtain rfl:=qd hF
  exact qbB qb (ρ:=(qL × Int)) [GoT.v qL [.bool false,.int .i64 0,.int .i64 0,.int .i64 0],GoT.v Int [.int .i64 2]] h ⟨⟨_,_,_,rfl,rfl,h.box 0 rfl,rfl⟩,rfl,trivial⟩ (PV.done h (qek h (qD (S:=fun _=>False) (qcE (⟨false,0,0,0⟩:qL))) (qb0 (qD (S:=fun _=>False) rfl)) (by rfl)))
 refine X0 3 rfl ?_
 replace h:=SH.back hL1 h (show NoD [] from trivial)
 refine rA [] [] h rfl fun w9 h=>M0 247 [0,1,2,4,5,6,7] (h.pick [] rfl) rfl ?_
 obtain ⟨y1,hy1,hF,he1,b1,_,q1,cs6,hp1,hq1,rfl,hc4⟩:=s7.ix hF
 refine Ae 8 503 hp1 hq1 he1 (h.pick [] rfl) rfl (Al 9 1015 0 hc4 (h.pick [] rfl) rfl (Ao 3 1023 rfl (zcL h hF (qjC ⟨_,_,rfl,(h.oldS (s6.mono hg1.old))⟩ ⟨_,_,rfl,(h.oldS (s7.mono hg1.old))⟩) rfl fun r5 w10 S1 p9 k8 h hF=>Ag (h.pick [] rfl) (Ao 10 2047 rfl (zcO h hF (qkh ⟨_,_,rfl,(h.oldS (s6.mono hg1.old))⟩ (h.own 0 rfl)) rfl fun r6 w11 S2 cs7 h hF=>?_)))))
 obtain rfl:=qam (h.own 0 rfl)
 refine Ag (h.pick [] rfl) (Ao 11 4095 rfl (zs 2 h rfl fun w12 h=>G0 8191 [12] (h.pick [] rfl) rfl (Ad ?_)))
 replace h:=h.unbase hg1.below ⟨fun _ h=>h,⟨fun _ h=>h,⟨fun _ h=>h,⟨fun _ h=>h,trivial⟩⟩⟩⟩
 obtain rfl:=qd hF
 exact qbB qb (ρ:=(qL × Int)) [GoT.v qL (qfZ r6),GoT.v Int [.int .i64 0]] h ⟨⟨_,_,_,rfl,rfl,h.box 2 rfl,rfl⟩,rfl,trivial⟩ (PV.done h (qek h (qE 0 h rfl) (qb0 (qD (S:=fun _=>False) rfl)) (by rfl)))
def qfh (n:Nat) (b:qc) (a_e:qa) (path:(List Int)):Option Bool :=
 (qf9 n b).bind fun r1 =>
 bif (!r1) then some false else
 (qf4 n b).bind fun r2 =>
 (qcs n r2 a_e).bind fun r3 =>
 bif r3 then
  (qcG n r2 path).bind fun r4 =>
  bif r4 then
   (idx path (W64 ((path.length:Int)-1))).bind fun y1 =>
   (qhC n ([a_e]:List qa) path).bind fun r5 =>
   (idx r5 0).bind fun y2 =>
   (qbY n a_e y2 y1).bind fun r6 =>
   some r6
  else
   some false
 else
  some false
theorem qjw {b:qc} {a_e:qa} {path:(List Int)} (ha1:GoT.R w (old w) b cs1) (ha2:GoT.R w (old w) a_e cs2) (ha3:GoT.R w (old w) path cs3) {r:Bool} (hF:qfh n b a_e path=some r):RetV Tryz.prog 29 [GoT.v qc cs1,GoT.v qa cs2,GoT.v (List Int) cs3] w r:=by
 obtain ⟨p1,k1,p2,k2,p3,k3,p4,k4,p5,k5,rfl,s1,s2,s3,s4,s5⟩:=qJ ha1
 obtain ⟨p6,k6,p7,k7,p8,k8,rfl,s6,s7,s8⟩:=qB ha2
 obtain ⟨p9,k9,rfl,s9⟩:=ha3
 refine zV 37 Tryz.func29 rfl fun h=>zSR (qS h rfl rfl fun w1 bb1 h=>qS h rfl rfl fun w2 bb2 h=>X1 6 1 h rfl (zcB h hF (qiH (h.old ha1)) rfl fun r1 w3 h hF=>X0 2 rfl (qm rfl hF ?_ ?_)))<;>intro hF
 ·exact X0 4 rfl (rb h hF rfl)
 refine X1 4 1 h rfl ?_
 have hg1:Rg (old w) w (old w) w:=.start (fun _ h=>h)
 obtain ⟨r2,hr2,hF⟩:=qe hF
 refine qmG r2 hg1 h (cB 35 rfl) (qiE (hg1.regOld h) (hg1.inR h ha1) hr2) rfl rfl rfl rfl fun w4 us1 B1 hg2 hu1 hz1 hv1=>?_
 have hL1:=h.ext hu1.below
 have s10:=Up.S hg1 h hu1 s9
 have hc2:=Up.box 0 h hu1 rfl
 have s11:=Up.S hg1 h hu1 s6
 have s12:=Up.S hg1 h hu1 s7
 have s13:=Up.S hg1 h hu1 s8
 have s14:=Up.R hg1 h hu1 ha2
 have ha4:=Up.boxP (x:=a_e) hg1 0 h hu1 rfl (hg1.inR h ha2)
 have hb1:=h.below.trans (hu1.below.mono h.below.size)
 replace h:=hz1
 obtain ⟨cs4,rfl,hr3⟩:=qgA hv1
 obtain ⟨p10,rfl,s15⟩:=qfE hr3
 refine X0 3 rfl (rA [] [] h rfl fun w5 h=>M0 1 [0] (h.pick [] rfl) rfl (Al 1 3 0 hc2 (h.pick [] rfl) rfl (Ao 2 7 rfl (zcB h hF (qfD (h.old (GoT.mono s15 hg2.old)) (h.old (GoT.mono s14 hg2.old))) rfl fun r3 w6 h hF=>G0 15 [3] (h.pick [] rfl) rfl (qkg (t:=16) hF rfl ?_ ?_)))))<;>intro hF
 ·refine qaI 4 rfl (by kernel_rfl) (bits 25 31) (by kernel_rfl) (by kernel_rfl) (fun w' hw=>v_p qb rfl w') (h.pick [] rfl) rfl (qaI 5 rfl (by kernel_rfl) (bits 25 63) (by kernel_rfl) (by kernel_rfl) (fun w' hw=>v_p qb rfl w') (h.pick [] rfl) rfl (Ao 6 127 rfl (X0 1 rfl (zcB h hF (qfX (h.old (GoT.mono s15 hg2.old)) ⟨_,_,rfl,(h.oldS (s10.mono hg2.old))⟩) rfl fun r4 w7 h hF=>G0 511 [7,8] (h.pick [] rfl) rfl (qkg (t:=21) hF rfl ?_ ?_)))))<;>intro hF
  ·refine qaI 9 rfl (by kernel_rfl) (bits 25 1023) (by kernel_rfl) (by kernel_rfl) (fun w' hw=>qe2 qb (hc2.below hw.below) (j:=0) rfl rfl rfl) (h.pick [] rfl) rfl (qaI 10 rfl (by kernel_rfl) (bits 25 2047) (by kernel_rfl) (by kernel_rfl) (fun w' hw=>qe2 qb (hc2.below hw.below) (j:=0) rfl rfl rfl) (h.pick [] rfl) rfl (qaI 12 rfl (by kernel_rfl) (bits 25 6143) (by kernel_rfl) (by kernel_rfl) (fun w' hw=>v_p qb rfl w') (h.pick [] rfl) rfl (qaI 16 rfl (by kernel_rfl) (bits 25 71679) (by kernel_rfl) (by kernel_rfl) (fun w' hw=>v_p qb rfl w') (h.pick [] rfl) rfl (qaI 17 rfl (by kernel_rfl) (bits 25 202751) (by kernel_rfl) (by kernel_rfl) (fun w' hw=>v_p qb rfl w') (h.pick [] rfl) rfl (qaI 18 rfl (by kernel_rfl) (bits 25 464895) (by kernel_rfl) (by kernel_rfl) (fun w' hw=>v_p qb rfl w') (h.pick [] rfl) rfl (qaI 19 rfl (by kernel_rfl) (bits 25 989183) (by kernel_rfl) (by kernel_rfl) (fun w' hw=>v_p qb rfl w') (h.pick [] rfl) rfl ?_))))))
   obtain ⟨y1,hy1,hF,he1,b1,_,q1,cs5,hp1,hq1,rfl,hc3⟩:=s10.ix hF
   refine qaI 20 rfl (by kernel_rfl) (bits 25 2037759) (by kernel_rfl) (by kernel_rfl) (fun w' hw=>qnd qb hp1 hq1 ⟨he1.1,he1.2.1⟩ rfl rfl rfl rfl rfl rfl) (h.pick [] rfl) rfl (qaI 21 rfl (by kernel_rfl) (bits 25 4134911) (by kernel_rfl) (by kernel_rfl) (fun w' hw=>qe2 qb (hc3.below hw.below) (j:=0) rfl rfl rfl) (h.pick [] rfl) rfl (Ao 11 4136959 rfl (X0 1 rfl (qdj qb [.tmp 23] _ ([a_e]:List qa) h rfl rfl rfl rfl rfl rfl rfl rfl rfl ⟨(GoT.mono s14 hg2.old),trivial⟩ rfl fun w8 p11 S1 h=>Ag (h.pick [] rfl) (Ao 13 4145151 rfl (X0 1 rfl (zcL h hF (qjC ⟨_,_,rfl,(h.rowS 0 rfl)⟩ ⟨_,_,rfl,(h.oldS (s10.mono hg2.old))⟩) rfl fun r5 w9 S2 p12 k10 h hF=>Ag (h.pick [] rfl) ?_)))))))
   obtain ⟨y2,hy2,hF,he2,b2,_,q2,cs6,hp2,hq2,rfl,hc4⟩:=(h.sl 0 rfl).1.ix hF
   refine qaI 14 rfl (by kernel_rfl) (bits 25 4161535) (by kernel_rfl) (by kernel_rfl) (fun w' hw=>qnd qb hp2 hq2 ⟨he2.1,qab he2.2.1 (h.sl 0 rfl).2⟩ rfl rfl rfl rfl rfl rfl) (h.pick [] rfl) rfl (Ao 15 4194303 rfl (X0 1 rfl (zc 0 hc4 rfl (Ag (h.pick [] rfl) (Ao 22 8388607 rfl (X0 1 rfl (zcB h hF (qfv (h.old (GoT.mono s14 hg2.old))) rfl fun r6 w10 h hF=>G0 33554431 [23,24] (h.pick [] rfl) rfl (Ad ?_))))))))
   replace h:=h.unbase hg2.below ⟨fun _ h=>h,⟨fun _ h=>h,trivial⟩⟩
   exact rb h hF rfl
  refine qay 9 rfl (by kernel_rfl) rfl (bits 25 1023) (by kernel_rfl) (by kernel_rfl) (h.pick [] rfl) rfl (qay 10 rfl (by kernel_rfl) rfl (bits 25 2047) (by kernel_rfl) (by kernel_rfl) (h.pick [] rfl) rfl (qay 11 rfl (by kernel_rfl) rfl (bits 25 4095) (by kernel_rfl) (by kernel_rfl) (h.pick [] rfl) rfl (qay 12 rfl (by kernel_rfl) rfl (bits 25 8191) (by kernel_rfl) (by kernel_rfl) (h.pick [] rfl) rfl (qay 13 rfl (by kernel_rfl) rfl (bits 25 16383) (by kernel_rfl) (by kernel_rfl) (h.pick [] rfl) rfl (qay 14 rfl (by kernel_rfl) rfl (bits 25 32767) (by kernel_rfl) (by kernel_rfl) (h.pick [] rfl) rfl (qay 15 rfl (by kernel_rfl) rfl (bits 25 65535) (by kernel_rfl) (by kernel_rfl) (h.pick [] rfl) rfl (qay 16 rfl (by kernel_rfl) rfl (bits 25 131071) (by kernel_rfl) (by kernel_rfl) (h.pick [] rfl) rfl (qay 17 rfl (by kernel_rfl) rfl (bits 25 262143) (by kernel_rfl) (by kernel_rfl) (h.pick [] rfl) rfl (qay 18 rfl (by kernel_rfl) rfl (bits 25 524287) (by kernel_rfl) (by kernel_rfl) (h.pick [] rfl) rfl (qay 19 rfl (by kernel_rfl) rfl (bits 25 1048575) (by kernel_rfl) (by kernel_rfl) (h.pick [] rfl) rfl (qay 20 rfl (by kernel_rfl) rfl (bits 25 2097151) (by kernel_rfl) (by kernel_rfl) (h.pick [] rfl) rfl (qay 21 rfl (by kernel_rfl) rfl (bits 25 4194303) (by kernel_rfl) (by kernel_rfl) (h.pick [] rfl) rfl (qay 22 rfl (by kernel_rfl) rfl (bits 25 8388607) (by kernel_rfl) (by kernel_rfl) (h.pick [] rfl) rfl (M0 33554431 [23,24] (h.pick [] rfl) rfl (Ad ?_)))))))))))))))
  replace h:=h.unbase hg2.below (show NoD [] from trivial)
  exact rb h hF rfl
 refine qay 4 rfl (by kernel_rfl) rfl (bits 25 31) (by kernel_rfl) (by kernel_rfl) (h.pick [] rfl) rfl (qay 5 rfl (by kernel_rfl) rfl (bits 25 63) (by kernel_rfl) (by kernel_rfl) (h.pick [] rfl) rfl (qay 6 rfl (by kernel_rfl) rfl (bits 25 127) (by kernel_rfl) (by kernel_rfl) (h.pick [] rfl) rfl (M0 511 [7,8] (h.pick [] rfl) rfl (qay 9 rfl (by kernel_rfl) rfl (bits 25 1023) (by kernel_rfl) (by kernel_rfl) (h.pick [] rfl) rfl (qay 10 rfl (by kernel_rfl) rfl (bits 25 2047) (by kernel_rfl) (by kernel_rfl) (h.pick [] rfl) rfl (qay 11 rfl (by kernel_rfl) rfl (bits 25 4095) (by kernel_rfl) (by kernel_rfl) (h.pick [] rfl) rfl (qay 12 rfl (by kernel_rfl) rfl (bits 25 8191) (by kernel_rfl) (by kernel_rfl) (h.pick [] rfl) rfl (qay 13 rfl (by kernel_rfl) rfl (bits 25 16383) (by kernel_rfl) (by kernel_rfl) (h.pick [] rfl) rfl (qay 14 rfl (by kernel_rfl) rfl (bits 25 32767) (by kernel_rfl) (by kernel_rfl) (h.pick [] rfl) rfl (qay 15 rfl (by kernel_rfl) rfl (bits 25 65535) (by kernel_rfl) (by kernel_rfl) (h.pick [] rfl) rfl (qay 16 rfl (by kernel_rfl) rfl (bits 25 131071) (by kernel_rfl) (by kernel_rfl) (h.pick [] rfl) rfl (qay 17 rfl (by kernel_rfl) rfl (bits 25 262143) (by kernel_rfl) (by kernel_rfl) (h.pick [] rfl) rfl (qay 18 rfl (by kernel_rfl) rfl (bits 25 524287) (by kernel_rfl) (by kernel_rfl) (h.pick [] rfl) rfl (qay 19 rfl (by kernel_rfl) rfl (bits 25 1048575) (by kernel_rfl) (by kernel_rfl) (h.pick [] rfl) rfl (qay 20 rfl (by kernel_rfl) rfl (bits 25 2097151) (by kernel_rfl) (by kernel_rfl) (h.pick [] rfl) rfl (qay 21 rfl (by kernel_rfl) rfl (bits 25 4194303) (by kernel_rfl) (by kernel_rfl) (h.pick [] rfl) rfl (qay 22 rfl (by kernel_rfl) rfl (bits 25 8388607) (by kernel_rfl) (by kernel_rfl) (h.pick [] rfl) rfl (M0 33554431 [23,24] (h.pick [] rfl) rfl (Ad ?_)))))))))))))))))))
 replace h:=h.unbase hg2.below (show NoD [] from trivial)
 exact rb h hF rfl
end Go.Fw


namespace Go.Fw
open Go
set_option maxRecDepth 100000
def codeX (b:qc) (es:List qa):Int:=bif blockB b then (bif decide (es.length≤6) then (bif es.all (excB b) then 0 else 5) else 3) else 1
theorem qis {b:qc} {es:List qa} (h:codeX b es=0):blockB b=true∧es.length≤6∧es.all (excB b)=true:=by
 unfold codeX at h
 cases h1:blockB b
 ·rw [h1] at h;cases h
 ·rw [h1] at h
  cases h2:decide (es.length≤6)
  ·rw [h2] at h;cases h
  ·rw [h2] at h
   cases h3:es.all (excB b)
   ·rw [h3] at h;cases h
   ·exact ⟨rfl,of_decide_eq_true h2,rfl⟩
theorem qnG {b:qc} {es:List qa} (hok:qct b) (hes:okL qal es):Ev (fun n=>qhh n b es) (codeX b es):=by
 have hlen:=hes.len
 unfold qhh codeX
 refine Ev.chk1 (qhI hok) fun h=>?_
 rw [show decide ((es.length:Int) > 6) = !decide (es.length≤6) from qiC (k:=6)]
 simp only [qa0]
 refine Ev.okP1 fun _=>?_
 have hL:Ev (fun n=>qdM b es n 0) (bif es.all (excB b) then .nxt (es.length:Int) else .ret 5):=by
  rw [qgz]
  refine qed (Ev.succ ?_) (fun j hj X hX=>Ev.succ ?_)
  ·simp only [qdM,qt (jf _),cond_false];exact .done
  ·simp only [qdM,qr hj,cond_true,qae hj,je,wS j]
   have:=qkT hok (qhx hes hj)
   rw [h,jv] at this
   exact Ev.chk1 this fun _=>hX
 refine Ev.bind hL ?_
 cases es.all (excB b)<;>exact .done
theorem qm8 {b:qc} {es:List qa} (hok:qct b) (hes:okL qal es) :
  ∃ o,Ev (fun n=>qeI n b es) (o,codeX b es)∧(codeX b es=0→∃ ls lo de,o=some ⟨b,places b.Aa,ls,lo,de,[]⟩):=by
 have hlen:=hes.len
 unfold qeI codeX
 cases h:blockB b
 ·exact ⟨none,Ev.bind (qjH hok) (Ev.tt (by rw [h];rfl) .done),fun h=>by cases h⟩
 ·have hb:=qjH hok
  rw [h] at hb
  obtain ⟨ls,lo,de,ev⟩:=qlf h
  cases h6:decide (es.length≤6)
  ·exact ⟨none,Ev.bind hb (Ev.ff rfl (Ev.tt (by rw [show decide ((es.length:Int) > 6) = !decide (es.length≤6) from qiC (k:=6),h6];rfl) .done)),fun h=>by cases h⟩
  ·have hc:Ev (fun n=>qac n es (some ⟨b,places b.Aa,ls,lo,de,[]⟩)) (!es.all (excB b)):=by
    unfold qac
    refine Ev.bind (b:=ixL (fun e=>!excB b e) es) (qdA (fin:=(es.length:Int)) (Lf:=qF es (some ⟨b,places b.Aa,ls,lo,de,[]⟩))
     (pf:=fun n x=>qd6 n x (some ⟨b,places b.Aa,ls,lo,de,[]⟩)) (fun x hx=>?_)
     (fun n=>by simp only [qF,qt (jf _),cond_false])
     (fun n j x hx=>by
      have hj:=(List.getElem?_eq_some_iff.1 hx).1
      simp only [qF,qr hj,cond_true,qfx hx,je,wS j])
     (fun n=>by unfold qaC;congr 1;funext o;cases o<;>rfl)) (Ev.now ?_)
    ·unfold qd6
     exact Ev.neg (qi2 h rfl (hes.2 x hx))
    ·rw [qg0,←qj3,Bool.not_not]
   cases h3:es.all (excB b)
   ·rw [h3] at hc
    exact ⟨none,Ev.bind hb (Ev.ff rfl (Ev.ff (by rw [show decide ((es.length:Int) > 6) = !decide (es.length≤6) from qiC (k:=6),h6];rfl) (Ev.bind ev (Ev.bind hc .done)))),fun h=>by cases h⟩
   ·rw [h3] at hc
    exact ⟨_,Ev.bind hb (Ev.ff rfl (Ev.ff (by rw [show decide ((es.length:Int) > 6) = !decide (es.length≤6) from qiC (k:=6),h6];rfl) (Ev.bind ev (Ev.bind hc .done)))),fun _=>⟨ls,lo,de,rfl⟩⟩
def pre {α:Type} (f:Nat→α) (j:Nat):List α:=(List.range j).map f
def rankE (e:qa):Int:=(bif decide (e.As.length=0) then 0 else 4)+(bif decide (e.To.length=0) then 0 else 2)+(bif decide (e.Am.length=0) then 0 else 1)
theorem posL {xs:List Int}:decide ((xs.length:Int) > 0) = !decide (xs.length=0):=by cases xs<;>simp
theorem qoQ {e:qa}:Ev (fun n=>qhL n e) (rankE e):=by
 unfold qhL rankE
 refine ⟨4,fun n hn=>?_⟩
 obtain ⟨m,rfl⟩:∃ m,n=m+4:=⟨n-4,by omega⟩
 simp only [qe6]
 have i0:idx ([e.Am,e.To,e.As]:List (List Int)) 0=some e.Am:=rfl
 have i1:idx ([e.Am,e.To,e.As]:List (List Int)) (W64 (0+1))=some e.To:=rfl
 have i2:idx ([e.Am,e.To,e.As]:List (List Int)) (W64 (W64 (0+1)+1))=some e.As:=rfl
 simp only [i0,i1,i2,posL,je]
 cases decide (e.As.length=0)<;>cases decide (e.To.length=0)<;>cases decide (e.Am.length=0)<;>rfl
def pickS (k:Int) (g:Bool) (t:Int × Int) (e:qa):Int × Int :=
 bif e.Ar != k then t else bif decide (rankE e > t.1) || ((rankE e==t.1)&&(decide (e.Ba > t.2)==g)) then (rankE e,e.Ba) else t
def chooseL (k:Int) (g:Bool) (ms:List qa):Int × Int:=ms.foldl (pickS k g) (-1,-1)
theorem qiB {ms:List qa} {k:Int} {g:Bool} (hl:ms.length≤1048576):Ev (fun n=>qem n ms k g) (chooseL k g ms).2:=by
 have hL:Ev (fun n=>qaQ ms k g n (-1) (-1) 0) ((chooseL k g ms).1,(chooseL k g ms).2,(ms.length:Int)):=by
  refine (qof (xs:=ms) (τ:=Int × Int) (Lf:=fun n t j=>qaQ ms k g n t.1 t.2 j) (step:=pickS k g) (fin:=fun t=>(t.1,t.2,(ms.length:Int))) (-1,-1) (fun _ _=>True) trivial (fun _ _ _ _=>trivial) (fun n t=>?_) (fun j t hj _ X hX=>?_)).1
  ·simp only [qaQ,qt (jf _),cond_false]
  ·simp only [qaQ,qr hj,cond_true,qaS hj,je,wS j]
   unfold pickS at hX
   refine Ev.bif (fun h1=>?_) (fun h1=>?_)
   ·rw [h1] at hX;exact hX
   ·rw [h1] at hX
    refine Ev.bind qoQ (Ev.bif (fun h2=>?_) (fun h2=>?_))
    ·rw [h2] at hX;exact hX
    ·rw [h2] at hX
     refine Ev.bif (fun h3=>?_) (fun h3=>?_)
     ·rw [h3] at hX
      refine Ev.bif (fun h4=>?_) (fun h4=>?_)
      ·rw [h4] at hX;exact hX
      ·rw [h4] at hX;exact hX
     ·rw [h3] at hX;exact hX
 unfold qem
 exact Ev.bind hL .done
def selE (es:List qa) (m:Nat→Bool) (j:Nat):List qa:=(selN m j).map (gt es)
theorem qoe {es:List qa} {m:Nat→Bool} {j:Nat}:selE es m (j+1)=selE es m j++(bif m j then [gt es j] else []):=by
 unfold selE
 rw [qkp,List.map_append]
 cases m j<;>rfl
theorem qnf {es:List qa} {m:Nat→Bool} {j:Nat}:(selE es m j).length≤j:=by unfold selE;rw [jB];exact qno
def effE (ms:List qa):qL:=⟨ms.any fun e=>e.Ar==1,bif decide ((chooseL 2 false ms).2 > 0)&&((chooseL 3 false ms).2==-1) then (chooseL 2 false ms).2 else 1,(chooseL 3 false ms).2,(chooseL 4 true ms).2⟩
theorem qnE {es:List qa} {tag:List Int} {p:Int} (hes:okL qal es) (ht:tag.length=es.length):Ev (fun n=>qgH n es tag p) (effE (selE es (fun i=>matT (gt es i) (at0 tag i) p) es.length)):=by
 have hl:=hes.len
 have hL:Ev (fun n=>qbR es tag p n ([]:List qa) 0) (selE es (fun i=>matT (gt es i) (at0 tag i) p) es.length,(es.length:Int)):=by
  refine loopF (Lf:=qbR es tag p) (S:=selE es (fun i=>matT (gt es i) (at0 tag i) p)) (len:=es.length) (fun n=>?_) (fun j hj X hX=>?_)
  ·simp only [qbR,qt (jf _),cond_false]
  ·have hsl:=qnf (es:=es) (m:=fun i=>matT (gt es i) (at0 tag i) p) (j:=j)
   simp only [qbR,qr hj,cond_true,qae hj,qa5 (show j<tag.length by omega),je,wS j]
   refine Ev.bind (qlj (qhx hes hj)) ?_
   rw [qoe] at hX
   cases h1:matT (gt es j) (at0 tag j) p
   ·simp only [h1,cond_false,jL] at hX
    exact Ev.ff rfl hX
   ·simp only [h1,cond_true] at hX
    exact Ev.tt rfl (Ev.bindN (qb8 (by rw [jj];omega)) hX)
 have hsl:=qnf (es:=es) (m:=fun i=>matT (gt es i) (at0 tag i) p) (j:=es.length)
 unfold qgH
 refine Ev.bind hL ?_
 generalize selE es (fun i=>matT (gt es i) (at0 tag i) p) es.length=ms at hsl ⊢
 have hms:ms.length≤1048576:=by omega
 have hc:Ev (fun n=>qan n ms) (ms.any fun e=>e.Ar==1):=by
  unfold qan
  refine Ev.bind (b:=ixL (fun e:qa=>e.Ar==1) ms) (qdA (fin:=(ms.length:Int)) (Lf:=qI ms) (pf:=fun n x=>qg4 n x) (fun x hx=>.done)
   (fun n=>by simp only [qI,qt (jf _),cond_false])
   (fun n j x hx=>by
    have hj:=(List.getElem?_eq_some_iff.1 hx).1
    simp only [qI,qr hj,cond_true,qfx hx,je,wS j])
   (fun n=>by unfold qaM;congr 1;funext o;cases o<;>rfl)) (Ev.now ?_)
  rw [qg0]
 refine Ev.bind (qiB hms) (Ev.bind (qiB hms) (Ev.bind hc (Ev.bind (qiB hms) ?_)))
 unfold effE
 cases decide ((chooseL 2 false ms).2 > 0)<;>cases (chooseL 3 false ms).2==-1<;>exact .done
end Go.Fw


namespace Go.Fw
open Go Go.Proofs
open Go.RowKit (Below)
set_option maxRecDepth 100000
set_option maxHeartbeats 6400000
variable {n:Nat} {w:World} {cs1 cs2 cs3 cs4 cs5 cs6 cs7 cs8 cs9:List Value}
def qls (_:Nat) (code:(List (IntK .u8))):Option Bool :=
 some (decide ((code.length:Int) > 4096))
theorem qm1 {code:(List (IntK .u8))} (ha1:GoT.R w (old w) code cs1) {r:Bool} (hF:qls n code=some r):RetV Tryz.prog 7 [GoT.v (List (IntK .u8)) cs1] w r:=by
 obtain ⟨p1,k1,rfl,s1⟩:=ha1
 exact zV 6 Tryz.func7 rfl fun h=>X0 11 rfl (rb h hF rfl)
def qbI (a_0:(List (IntK .u8))) (r7:qL):Nat→(List Int)→(List qa)→qc→Int→Option (Flow Bool ((List Int) × (List qa) × qc × Int))
 | 0,_,_,_,_=>none
 | n+1,r28,r29,r30,i1 =>
  bif decide (i1<(r29.length:Int)) then
   (idx r29 i1).bind fun y1 =>
   (qfh n r30 y1 r28).bind fun r31 =>
   (qbo n a_0).bind fun o=>match o with
    | (r33,r34,r35) =>
     bif r31 then qbI a_0 r7 n r35 r34 r33 (W64 (i1+1)) else
     (subS r34 0 i1).bind fun x3 =>
     (subS r34 (W64 (i1+1)) (r34.length:Int)).bind fun x4 =>
     (appS ([]:List qa) x3).bind fun x5 =>
     (appS x5 x4).bind fun x6 =>
     (qde n r33 x6 r35).bind fun o=>match o with
      | (r37,r38) =>
       (qbo n a_0).bind fun o=>match o with
        | (r40,r41,r42) =>
         bif (r38 != 0) then some (.ret false) else
         bif (!((r37.Bs==r7.Bs)&&((r37.Bo==r7.Bo)&&((r37.Bl==r7.Bl)&&((r37.Bk==r7.Bk)&&true))))) then some (.ret false) else
         qbI a_0 r7 n r42 r41 r40 (W64 (i1+1))
  else
   some (.nxt (r28,r29,r30,i1))
def qhs (n:Nat) (a_0:(List (IntK .u8))):Option Bool :=
 (qls n a_0).bind fun r1 =>
 bif r1 then some true else
 (qbo n a_0).bind fun o=>match o with
  | (r3,r4,r5) =>
   (qde n r3 r4 r5).bind fun o=>match o with
    | (r7,r8) =>
     (qbo n a_0).bind fun o=>match o with
      | (r10,r11,r12) =>
       bif (r8 != 0) then
        (qgJ n r10 r11 r12).bind fun o=>match o with
         | (_,r15) =>
          (
           bif (r8==r15) then some ((r7.Bs==false)&&((r7.Bo==0)&&((r7.Bl==0)&&((r7.Bk==0)&&true)))) else
           some false).bind fun b1 =>
          some b1
       else
        bif ((r11.length:Int)==6) then some true else
        (appS ([]:List qa) r11).bind fun x1 =>
        (appS x1 ([(⟨1,0,[],[],[]⟩:qa)]:List qa)).bind fun x2 =>
        (qde n r10 x2 r12).bind fun o=>match o with
         | (r17,r18) =>
          (qbo n a_0).bind fun o=>match o with
           | (r25,r26,r27) =>
            (
             bif (r18 != 0) then some true else
             bif (!r17.Bs) then some true else
             bif (r17.Bo != r7.Bo) then some true else
             bif (r17.Bl != r7.Bl) then some true else
             some (r17.Bk != r7.Bk)).bind fun b2 =>
            bif b2 then some false else
            (qbI a_0 r7 n r27 r26 r25 0).bind fun o=>match o with
            | .ret r=>some r
            | .nxt (_,_,_,_) =>
             some true
theorem qj4 {a_0:(List (IntK .u8))} (ha1:GoT.R w (old w) a_0 cs1) {r:Bool} (hF:qhs n a_0=some r):RetV Tryz.prog 6 [GoT.v (List (IntK .u8)) cs1] w r:=by
 obtain ⟨p1,k1,rfl,s1⟩:=ha1
 refine zV 154 Tryz.func6 rfl fun h=>X0 8 rfl (zcB h hF (qm1 ⟨_,_,rfl,(h.oldS s1)⟩) rfl fun r1 w1 h hF=>qaW (qm rfl hF ?_ ?_))<;>intro hF
 ·exact X0 4 rfl (rb h hF rfl)
 refine X0 4 rfl ?_
 have hg1:Rg (old w) w (old w) w:=.start (fun _ h=>h)
 obtain ⟨r2,hr2,hF⟩:=qe hF
 obtain ⟨r3,r4,r5⟩:=r2
 refine qgF (r3,r4,r5) hg1 h (cB 26 rfl) (qcH (hg1.atB h) ⟨_,_,rfl,(hg1.inBS h s1)⟩ hr2) rfl rfl rfl rfl fun w2 us1 S1 h hv1=>?_
 obtain ⟨cs2,us2,rfl,hr3,hv2⟩:=qfq hv1
 have hr4:=hr3
 obtain ⟨p2,k2,p3,k3,p4,k4,p5,k5,p6,k6,rfl,s2,s3,s4,s5,s6⟩:=qJ hr3
 replace h:=h.grpAdd 0 rfl hr4
 obtain ⟨cs3,us3,rfl,hr5,hv3⟩:=qfq hv2
 have hr6:=hr5
 obtain ⟨p7,k7,rfl,s7⟩:=hr5
 replace h:=h.grpAdd 0 rfl hr6
 obtain ⟨cs4,rfl,hr7⟩:=qgA hv3
 have hr8:=hr7
 obtain ⟨p8,k8,rfl,s8⟩:=hr7
 replace h:=h.grpAdd 0 rfl hr8
 refine zp4 rfl (qx qb h rfl rfl rfl fun w3 bb1 h=>zs 0 h rfl fun w4 h=>X1 8 0 h rfl ?_)
 obtain ⟨r6,hr9,hF⟩:=qe hF
 obtain ⟨r7,r8⟩:=r6
 refine qbM (r7,r8) h (cB 27 rfl) (qU (h.grp 1 2 rfl rfl) (h.grp 1 1 rfl rfl) (h.grp 1 0 rfl rfl) hr9) rfl rfl rfl rfl fun w5 S2 us4 hv4 hr10=>?_
 obtain ⟨S3,S4,cs5,us5,rfl,hv5,hr11⟩:=hv4.cons hr10
 obtain rfl:=qam (hv5.sh.own 0 rfl)
 obtain ⟨rfl,h⟩:=hv5.lastI hr11
 refine zp3 rfl (qx qb h rfl rfl rfl fun w6 bb2 h=>zs 0 h rfl fun w7 h=>X0 5 rfl ?_)
 obtain ⟨r9,hr13,hF⟩:=qe hF
 obtain ⟨r10,r11,r12⟩:=r9
 refine qgF (r10,r11,r12) hg1 h (cB 26 rfl) (qcH (hg1.atB h) ⟨_,_,rfl,(hg1.inBS h s1)⟩ hr13) rfl rfl rfl rfl fun w8 us6 S6 h hv7=>?_
 obtain ⟨cs6,us7,rfl,hr14,hv8⟩:=qfq hv7
 have hr15:=hr14
 obtain ⟨p9,k9,p10,k10,p11,k11,p12,k12,p13,k13,rfl,s9,s10,s11,s12,s13⟩:=qJ hr14
 replace h:=h.grpAdd 0 rfl hr15
 obtain ⟨cs7,us8,rfl,hr16,hv9⟩:=qfq hv8
 have hr17:=hr16
 obtain ⟨p14,k14,rfl,s14⟩:=hr16
 replace h:=h.grpAdd 0 rfl hr17
 obtain ⟨cs8,rfl,hr18⟩:=qgA hv9
 have hr19:=hr18
 obtain ⟨p15,k15,rfl,s15⟩:=hr18
 replace h:=h.grpAdd 0 rfl hr19
 refine zp4 rfl (zs 3 h rfl fun w9 h=>X0 9 rfl (qm rfl hF ?_ ?_))<;>intro hF
 ·refine X1 5 3 h rfl ?_
  obtain ⟨r13,hr20,hF⟩:=qe hF
  obtain ⟨r14,r15⟩:=r13
  refine qbM (r14,r15) h (cB 28 rfl) (qkm (h.grp 0 2 rfl rfl) (h.grp 0 1 rfl rfl) (h.grp 0 0 rfl rfl) hr20) rfl rfl rfl rfl fun w10 S7 us9 hv10 hr21=>?_
  obtain ⟨S8,S9,cs9,us10,rfl,hv11,hr22⟩:=hv10.cons hr21
  obtain rfl:=qam (hv11.sh.own 0 rfl)
  obtain ⟨rfl,h⟩:=hv11.lastI hr22
  refine zp3 rfl (qx qb h rfl rfl rfl fun w11 bb3 h=>zs 0 h rfl fun w12 h=>X0 3 rfl ?_)
  obtain ⟨KF1,hKF1,o1,hF,hK1⟩:=bindE hF
  refine qaV (fun e w'=>∃ (b1:Bool),KF1 b1=some r∧e=[(2,.bool b1)]∧SH w w' []) ?_ ?_
  ·refine X0 5 rfl (qj (t:=50) hF rfl ?_ ?_)<;>intro hF
   ·refine X1 3 3 h rfl (r_v (qai qb [] [] rfl rfl rfl rfl rfl rfl rfl rfl) rfl (X0 1 rfl (r_v (qqj (by kernel_rfl) rfl rfl) rfl (X0 3 rfl ?_))))
    replace h:=h.grpKeep [2] 2 rfl
    replace h:=h.pick [0,1,2,3,4,5] rfl
    replace h:=h.pick [] rfl
    obtain rfl:=qd hF
    exact rG ⟨_,hK1,rfl,h⟩ rfl
   refine X0 6 rfl ?_
   replace h:=h.grpKeep [2] 2 rfl
   replace h:=h.pick [0,1,2,3,4,5] rfl
   replace h:=h.pick [] rfl
   obtain rfl:=qd hF
   exact rG ⟨_,hK1,rfl,h⟩ rfl
  rintro e1 w13 ⟨b1,hF,rfl,h⟩
  subst hKF1
  exact rb h hF rfl
 refine X0 8 rfl (qm rfl hF ?_ ?_)<;>intro hF
 ·refine X0 4 rfl ?_
  replace h:=h.pick [1,2,3] rfl
  exact rb h hF rfl
 refine zKS ?_
 obtain ⟨x1,hx1,hF⟩:=qe hF
 obtain ⟨x2,hx2,hF⟩:=qe hF
 obtain ⟨r16,hr24,hF⟩:=qe hF
 obtain ⟨r17,r18⟩:=r16
 refine qaV (fun e w'=>∃ (bb20:Nat) (S131:Nat→Prop) (r19:(List qa)) (p60:Option Addr) (k44:Nat) (r20:(List qa)) (p61:Option Addr) (k45:Nat) (r21:(List Int)) (p62:Option Addr) (k46:Nat) (r22:(List qa)) (p63:Option Addr) (k47:Nat) (r23:qc) (p64:Option Addr) (k48:Nat) (p65:Option Addr) (k49:Nat) (p66:Option Addr) (k50:Nat) (p67:Option Addr) (k51:Nat) (p68:Option Addr) (k52:Nat),e=[(0,.slice p1 a_0.length k1),(3,.pointer (some ⟨bb1,0,none⟩)),(6,.pointer (some ⟨bb2,0,none⟩)),(10,.pointer (some ⟨bb20,0,none⟩)),(11,.int .i64 r18)]∧SH w w' [Ch.box bb20 (qfZ r17) 55,Ch.grp (old w) S131 [fct (r19:(List qa)) [.slice p60 r19.length k44],fct (r20:(List qa)) [.slice p61 r20.length k45],fct (r21:(List Int)) [.slice p62 r21.length k46],fct (r22:(List qa)) [.slice p63 r22.length k47],fct (r23:qc) [.slice p64 r23.Ac.Ai.length k48,.slice p65 r23.Aa.Ab.length k49,.slice p66 r23.Aa.Aj.length k50,.slice p67 r23.Aa.Af.length k51,.slice p68 r23.Ah.length k52]],Ch.box bb2 (qfZ r7) 55,Ch.box bb1 (qp r23 p64 p65 p66 p67 p68 k48 k49 k50 k51 k52) 34]) ?_ ?_
 ·refine rA [] [3] h rfl fun w21 h=>M1 5 [0,2] 0 (h.pick [3] rfl) rfl (Aw 4 21 (fun w' hw=>qai qb [0] [.const (.int .i64 (1))] rfl rfl rfl rfl rfl rfl rfl rfl) (h.pick [3] rfl) rfl ?_)
  refine M0 149 [7] (h.pick [3] rfl) rfl (qn0 1 5 12 rfl rfl rfl (bits 15 151) (bits 15 181) (bits 15 4245) (by kernel_rfl) (by kernel_rfl) (by kernel_rfl)  (by kernel_rfl) ?_ ?_ ?_)
  ·refine qbz qb [] _ ([]:List qa) [0,1,2,3,4] h rfl rfl rfl rfl rfl rfl rfl rfl rfl qc6 rfl rfl fun w113 p69 S132 h=>Ag (h.pick [4] rfl) (qn0 3 5 12 rfl rfl rfl (bits 15 159) (bits 15 183) (bits 15 4247) (by kernel_rfl) (by kernel_rfl) (by kernel_rfl)  (by kernel_rfl) ?_ ?_ ?_)
   ·replace h:=h.toRowG.1
    obtain ⟨g29,hx1⟩:=qk hx1
    refine qcr qb h (qap (h.gS 0 1 rfl rfl)).1 rfl (qap (h.gS 0 1 rfl rfl)).2 rfl rfl rfl rfl rfl rfl rfl rfl rfl g29 hx1 rfl fun w114 p70 k53 S133 h=>Ag (h.pick [3] rfl) (At 5 12 191 4255 rfl ?_ ?_)
    ·refine qdj qb [.tmp 63] _ ([(⟨1,0,[],[],[]⟩:qa)]:List qa) h rfl rfl rfl rfl rfl rfl rfl rfl rfl ⟨(qZ (⟨1,0,[],[],[]⟩:qa) qbf qbf qbf),trivial⟩ rfl fun w115 p71 S134 h=>Ag (h.pick [4] rfl) (At 6 12 255 4287 rfl ?_ ?_)
     ·replace h:=h.pick [1,0,2,3,4,5] rfl
      replace h:=h.gTakeD
      obtain ⟨g30,hx2⟩:=qk hx2
      refine qcr qb h (qap (h.gS 0 0 rfl rfl)).1 rfl (qap (h.gS 0 0 rfl rfl)).2 rfl rfl rfl rfl rfl rfl rfl rfl rfl g30 hx2 rfl fun w116 p72 k54 S135 h=>Ag (h.pick [3] rfl) (At 8 12 511 4351 rfl ?_ ?_)
      ·replace h:=h.frzG 0 rfl
       refine qbM (r17,r18) h (cB 27 rfl) (qU (h.grp 0 4 rfl rfl) (h.grp 0 0 rfl rfl) (h.grp 0 2 rfl rfl) hr24) rfl rfl rfl rfl fun w117 S136 us49 hv70 hr82=>?_
       obtain ⟨S137,S138,cs29,us50,rfl,hv71,hr83⟩:=hv70.cons hr82
       obtain rfl:=qam (hv71.sh.own 0 rfl)
       obtain ⟨rfl,h⟩:=hv71.lastI hr83
       refine G0 4095 [9,10,11] (h.pick [4] rfl) rfl (Ao 12 8191 rfl (qx qb h rfl rfl rfl fun w118 bb21 h=>Ag (h.pick [5] rfl) (Ao 13 16383 rfl (zs 0 h rfl fun w119 h=>G0 32767 [14] (h.pick [5] rfl) rfl (Ad ?_)))))
       replace h:=h.pick [0,2,3,5] rfl
       exact rG ⟨_,_,_,_,_,_,_,_,_,_,_,_,_,_,_,_,_,_,_,_,_,_,_,_,_,rfl,h⟩ rfl
      refine qx qb h rfl rfl rfl fun w120 bb22 h=>Ag (h.pick [4] rfl) (Ao 8 4607 rfl ?_)
      replace h:=h.frzG 1 rfl
      refine qbM (r17,r18) h (cB 27 rfl) (qU (h.grp 1 4 rfl rfl) (h.grp 1 0 rfl rfl) (h.grp 1 2 rfl rfl) hr24) rfl rfl rfl rfl fun w121 S140 us51 hv73 hr85=>?_
      obtain ⟨S141,S142,cs30,us52,rfl,hv74,hr86⟩:=hv73.cons hr85
      obtain rfl:=qam (hv74.sh.own 0 rfl)
      obtain ⟨rfl,h⟩:=hv74.lastI hr86
      refine G0 8191 [9,10,11] (h.pick [5] rfl) rfl (Ao 13 16383 rfl (zs 1 h rfl fun w122 h=>G0 32767 [14] (h.pick [5] rfl) rfl (Ad ?_)))
      replace h:=h.pick [1,2,3,5] rfl
      exact rG ⟨_,_,_,_,_,_,_,_,_,_,_,_,_,_,_,_,_,_,_,_,_,_,_,_,_,rfl,h⟩ rfl
     refine qx qb h rfl rfl rfl fun w123 bb23 h=>Ag (h.pick [5] rfl) (Ao 6 4351 rfl ?_)
     replace h:=h.pick [2,1,0,3,4,5,6] rfl
     replace h:=h.gTakeD
     obtain ⟨g31,hx2⟩:=qk hx2
     refine qcr qb h (qap (h.gS 0 0 rfl rfl)).1 rfl (qap (h.gS 0 0 rfl rfl)).2 rfl rfl rfl rfl rfl rfl rfl rfl rfl g31 hx2 rfl fun w124 p73 k55 S144 h=>Ag (h.pick [4] rfl) (Ao 8 4607 rfl ?_)
     replace h:=h.frzG 0 rfl
     refine qbM (r17,r18) h (cB 27 rfl) (qU (h.grp 0 4 rfl rfl) (h.grp 0 0 rfl rfl) (h.grp 0 2 rfl rfl) hr24) rfl rfl rfl rfl fun w125 S145 us53 hv76 hr88=>?_
     obtain ⟨S146,S147,cs31,us54,rfl,hv77,hr89⟩:=hv76.cons hr88
     obtain rfl:=qam (hv77.sh.own 0 rfl)
     obtain ⟨rfl,h⟩:=hv77.lastI hr89
     refine G0 8191 [9,10,11] (h.pick [5] rfl) rfl (Ao 13 16383 rfl (zs 2 h rfl fun w126 h=>G0 32767 [14] (h.pick [5] rfl) rfl (Ad ?_)))
     replace h:=h.pick [2,1,3,5] rfl
     exact rG ⟨_,_,_,_,_,_,_,_,_,_,_,_,_,_,_,_,_,_,_,_,_,_,_,_,_,rfl,h⟩ rfl
    refine qx qb h rfl rfl rfl fun w127 bb24 h=>Ag (h.pick [4] rfl) (Ao 5 4287 rfl (qdj qb [.tmp 63] _ ([(⟨1,0,[],[],[]⟩:qa)]:List qa) h rfl rfl rfl rfl rfl rfl rfl rfl rfl ⟨(qZ (⟨1,0,[],[],[]⟩:qa) qbf qbf qbf),trivial⟩ rfl fun w128 p74 S149 h=>Ag (h.pick [5] rfl) (Ao 6 4351 rfl ?_)))
    replace h:=h.pick [2,0,1,3,4,5,6] rfl
    replace h:=h.gTakeD
    obtain ⟨g32,hx2⟩:=qk hx2
    refine qcr qb h (qap (h.gS 0 0 rfl rfl)).1 rfl (qap (h.gS 0 0 rfl rfl)).2 rfl rfl rfl rfl rfl rfl rfl rfl rfl g32 hx2 rfl fun w129 p75 k56 S150 h=>Ag (h.pick [4] rfl) (Ao 8 4607 rfl ?_)
    replace h:=h.frzG 0 rfl
    refine qbM (r17,r18) h (cB 27 rfl) (qU (h.grp 0 4 rfl rfl) (h.grp 0 0 rfl rfl) (h.grp 0 2 rfl rfl) hr24) rfl rfl rfl rfl fun w130 S151 us55 hv79 hr91=>?_
    obtain ⟨S152,S153,cs32,us56,rfl,hv80,hr92⟩:=hv79.cons hr91
    obtain rfl:=qam (hv80.sh.own 0 rfl)
    obtain ⟨rfl,h⟩:=hv80.lastI hr92
    refine G0 8191 [9,10,11] (h.pick [5] rfl) rfl (Ao 13 16383 rfl (zs 2 h rfl fun w131 h=>G0 32767 [14] (h.pick [5] rfl) rfl (Ad ?_)))
    replace h:=h.pick [2,1,3,5] rfl
    exact rG ⟨_,_,_,_,_,_,_,_,_,_,_,_,_,_,_,_,_,_,_,_,_,_,_,_,_,rfl,h⟩ rfl
   ·refine qdj qb [.tmp 63] _ ([(⟨1,0,[],[],[]⟩:qa)]:List qa) h rfl rfl rfl rfl rfl rfl rfl rfl rfl ⟨(qZ (⟨1,0,[],[],[]⟩:qa) qbf qbf qbf),trivial⟩ rfl fun w132 p76 S155 h=>Ag (h.pick [5] rfl) (At 3 12 191 4279 rfl ?_ ?_)
    ·replace h:=h.pick [1,2,0,3,4,5,6] rfl
     replace h:=h.toRowG.1
     obtain ⟨g33,hx1⟩:=qk hx1
     refine qcr qb h (qap (h.gS 0 1 rfl rfl)).1 rfl (qap (h.gS 0 1 rfl rfl)).2 rfl rfl rfl rfl rfl rfl rfl rfl rfl g33 hx1 rfl fun w133 p77 k57 S156 h=>Ag (h.pick [4] rfl) (At 6 12 255 4287 rfl ?_ ?_)
     ·replace h:=h.gTakeD
      obtain ⟨g34,hx2⟩:=qk hx2
      refine qcr qb h (qap (h.gS 0 0 rfl rfl)).1 rfl (qap (h.gS 0 0 rfl rfl)).2 rfl rfl rfl rfl rfl rfl rfl rfl rfl g34 hx2 rfl fun w134 p78 k58 S157 h=>Ag (h.pick [3] rfl) (At 8 12 511 4351 rfl ?_ ?_)
      ·replace h:=h.frzG 0 rfl
       refine qbM (r17,r18) h (cB 27 rfl) (qU (h.grp 0 4 rfl rfl) (h.grp 0 0 rfl rfl) (h.grp 0 2 rfl rfl) hr24) rfl rfl rfl rfl fun w135 S158 us57 hv82 hr94=>?_
       obtain ⟨S159,S160,cs33,us58,rfl,hv83,hr95⟩:=hv82.cons hr94
       obtain rfl:=qam (hv83.sh.own 0 rfl)
       obtain ⟨rfl,h⟩:=hv83.lastI hr95
       refine G0 4095 [9,10,11] (h.pick [4] rfl) rfl (Ao 12 8191 rfl (qx qb h rfl rfl rfl fun w136 bb25 h=>Ag (h.pick [5] rfl) (Ao 13 16383 rfl (zs 0 h rfl fun w137 h=>G0 32767 [14] (h.pick [5] rfl) rfl (Ad ?_)))))
       replace h:=h.pick [0,2,3,5] rfl
       exact rG ⟨_,_,_,_,_,_,_,_,_,_,_,_,_,_,_,_,_,_,_,_,_,_,_,_,_,rfl,h⟩ rfl
      refine qx qb h rfl rfl rfl fun w138 bb26 h=>Ag (h.pick [4] rfl) (Ao 8 4607 rfl ?_)
      replace h:=h.frzG 1 rfl
      refine qbM (r17,r18) h (cB 27 rfl) (qU (h.grp 1 4 rfl rfl) (h.grp 1 0 rfl rfl) (h.grp 1 2 rfl rfl) hr24) rfl rfl rfl rfl fun w139 S162 us59 hv85 hr97=>?_
      obtain ⟨S163,S164,cs34,us60,rfl,hv86,hr98⟩:=hv85.cons hr97
      obtain rfl:=qam (hv86.sh.own 0 rfl)
      obtain ⟨rfl,h⟩:=hv86.lastI hr98
      refine G0 8191 [9,10,11] (h.pick [5] rfl) rfl (Ao 13 16383 rfl (zs 1 h rfl fun w140 h=>G0 32767 [14] (h.pick [5] rfl) rfl (Ad ?_)))
      replace h:=h.pick [1,2,3,5] rfl
      exact rG ⟨_,_,_,_,_,_,_,_,_,_,_,_,_,_,_,_,_,_,_,_,_,_,_,_,_,rfl,h⟩ rfl
     refine qx qb h rfl rfl rfl fun w141 bb27 h=>Ag (h.pick [5] rfl) (Ao 6 4351 rfl ?_)
     replace h:=h.pick [1,2,0,3,4,5,6] rfl
     replace h:=h.gTakeD
     obtain ⟨g35,hx2⟩:=qk hx2
     refine qcr qb h (qap (h.gS 0 0 rfl rfl)).1 rfl (qap (h.gS 0 0 rfl rfl)).2 rfl rfl rfl rfl rfl rfl rfl rfl rfl g35 hx2 rfl fun w142 p79 k59 S166 h=>Ag (h.pick [4] rfl) (Ao 8 4607 rfl ?_)
     replace h:=h.frzG 0 rfl
     refine qbM (r17,r18) h (cB 27 rfl) (qU (h.grp 0 4 rfl rfl) (h.grp 0 0 rfl rfl) (h.grp 0 2 rfl rfl) hr24) rfl rfl rfl rfl fun w143 S167 us61 hv88 hr100=>?_
     obtain ⟨S168,S169,cs35,us62,rfl,hv89,hr101⟩:=hv88.cons hr100
     obtain rfl:=qam (hv89.sh.own 0 rfl)
     obtain ⟨rfl,h⟩:=hv89.lastI hr101
     refine G0 8191 [9,10,11] (h.pick [5] rfl) rfl (Ao 13 16383 rfl (zs 2 h rfl fun w144 h=>G0 32767 [14] (h.pick [5] rfl) rfl (Ad ?_)))
     replace h:=h.pick [2,1,3,5] rfl
     exact rG ⟨_,_,_,_,_,_,_,_,_,_,_,_,_,_,_,_,_,_,_,_,_,_,_,_,_,rfl,h⟩ rfl
    refine qx qb h rfl rfl rfl fun w145 bb28 h=>Ag (h.pick [6] rfl) (Ao 3 4287 rfl ?_)
    replace h:=h.pick [2,3,0,1,4,5,6,7] rfl
    replace h:=h.toRowG.1
    obtain ⟨g36,hx1⟩:=qk hx1
    refine qcr qb h (qap (h.gS 0 1 rfl rfl)).1 rfl (qap (h.gS 0 1 rfl rfl)).2 rfl rfl rfl rfl rfl rfl rfl rfl rfl g36 hx1 rfl fun w146 p80 k60 S171 h=>Ag (h.pick [5] rfl) (Ao 6 4351 rfl ?_)
    replace h:=h.pick [0,2,1,3,4,5,6] rfl
    replace h:=h.gTakeD
    obtain ⟨g37,hx2⟩:=qk hx2
    refine qcr qb h (qap (h.gS 0 0 rfl rfl)).1 rfl (qap (h.gS 0 0 rfl rfl)).2 rfl rfl rfl rfl rfl rfl rfl rfl rfl g37 hx2 rfl fun w147 p81 k61 S172 h=>Ag (h.pick [4] rfl) (Ao 8 4607 rfl ?_)
    replace h:=h.frzG 0 rfl
    refine qbM (r17,r18) h (cB 27 rfl) (qU (h.grp 0 4 rfl rfl) (h.grp 0 0 rfl rfl) (h.grp 0 2 rfl rfl) hr24) rfl rfl rfl rfl fun w148 S173 us63 hv91 hr103=>?_
    obtain ⟨S174,S175,cs36,us64,rfl,hv92,hr104⟩:=hv91.cons hr103
    obtain rfl:=qam (hv92.sh.own 0 rfl)
    obtain ⟨rfl,h⟩:=hv92.lastI hr104
    refine G0 8191 [9,10,11] (h.pick [5] rfl) rfl (Ao 13 16383 rfl (zs 2 h rfl fun w149 h=>G0 32767 [14] (h.pick [5] rfl) rfl (Ad ?_)))
    replace h:=h.pick [2,1,3,5] rfl
    exact rG ⟨_,_,_,_,_,_,_,_,_,_,_,_,_,_,_,_,_,_,_,_,_,_,_,_,_,rfl,h⟩ rfl
   refine qx qb h rfl rfl rfl fun w150 bb29 h=>Ag (h.pick [5] rfl) (At 3 5 4255 4279 rfl ?_ ?_)
   ·replace h:=h.pick [1,2,0,3,4,5,6] rfl
    replace h:=h.toRowG.1
    obtain ⟨g38,hx1⟩:=qk hx1
    refine qcr qb h (qap (h.gS 0 1 rfl rfl)).1 rfl (qap (h.gS 0 1 rfl rfl)).2 rfl rfl rfl rfl rfl rfl rfl rfl rfl g38 hx1 rfl fun w151 p82 k62 S177 h=>Ag (h.pick [4] rfl) (Ao 5 4287 rfl (qdj qb [.tmp 63] _ ([(⟨1,0,[],[],[]⟩:qa)]:List qa) h rfl rfl rfl rfl rfl rfl rfl rfl rfl ⟨(qZ (⟨1,0,[],[],[]⟩:qa) qbf qbf qbf),trivial⟩ rfl fun w152 p83 S178 h=>Ag (h.pick [5] rfl) (Ao 6 4351 rfl ?_)))
    replace h:=h.pick [1,0,2,3,4,5,6] rfl
    replace h:=h.gTakeD
    obtain ⟨g39,hx2⟩:=qk hx2
    refine qcr qb h (qap (h.gS 0 0 rfl rfl)).1 rfl (qap (h.gS 0 0 rfl rfl)).2 rfl rfl rfl rfl rfl rfl rfl rfl rfl g39 hx2 rfl fun w153 p84 k63 S179 h=>Ag (h.pick [4] rfl) (Ao 8 4607 rfl ?_)
    replace h:=h.frzG 0 rfl
    refine qbM (r17,r18) h (cB 27 rfl) (qU (h.grp 0 4 rfl rfl) (h.grp 0 0 rfl rfl) (h.grp 0 2 rfl rfl) hr24) rfl rfl rfl rfl fun w154 S180 us65 hv94 hr106=>?_
    obtain ⟨S181,S182,cs37,us66,rfl,hv95,hr107⟩:=hv94.cons hr106
    obtain rfl:=qam (hv95.sh.own 0 rfl)
    obtain ⟨rfl,h⟩:=hv95.lastI hr107
    refine G0 8191 [9,10,11] (h.pick [5] rfl) rfl (Ao 13 16383 rfl (zs 2 h rfl fun w155 h=>G0 32767 [14] (h.pick [5] rfl) rfl (Ad ?_)))
    replace h:=h.pick [2,1,3,5] rfl
    exact rG ⟨_,_,_,_,_,_,_,_,_,_,_,_,_,_,_,_,_,_,_,_,_,_,_,_,_,rfl,h⟩ rfl
   refine qdj qb [.tmp 63] _ ([(⟨1,0,[],[],[]⟩:qa)]:List qa) h rfl rfl rfl rfl rfl rfl rfl rfl rfl ⟨(qZ (⟨1,0,[],[],[]⟩:qa) qbf qbf qbf),trivial⟩ rfl fun w156 p85 S184 h=>Ag (h.pick [6] rfl) (Ao 3 4287 rfl ?_)
   replace h:=h.pick [2,3,0,1,4,5,6,7] rfl
   replace h:=h.toRowG.1
   obtain ⟨g40,hx1⟩:=qk hx1
   refine qcr qb h (qap (h.gS 0 1 rfl rfl)).1 rfl (qap (h.gS 0 1 rfl rfl)).2 rfl rfl rfl rfl rfl rfl rfl rfl rfl g40 hx1 rfl fun w157 p86 k64 S185 h=>Ag (h.pick [5] rfl) (Ao 6 4351 rfl ?_)
   replace h:=h.gTakeD
   obtain ⟨g41,hx2⟩:=qk hx2
   refine qcr qb h (qap (h.gS 0 0 rfl rfl)).1 rfl (qap (h.gS 0 0 rfl rfl)).2 rfl rfl rfl rfl rfl rfl rfl rfl rfl g41 hx2 rfl fun w158 p87 k65 S186 h=>Ag (h.pick [4] rfl) (Ao 8 4607 rfl ?_)
   replace h:=h.frzG 0 rfl
   refine qbM (r17,r18) h (cB 27 rfl) (qU (h.grp 0 4 rfl rfl) (h.grp 0 0 rfl rfl) (h.grp 0 2 rfl rfl) hr24) rfl rfl rfl rfl fun w159 S187 us67 hv97 hr109=>?_
   obtain ⟨S188,S189,cs38,us68,rfl,hv98,hr110⟩:=hv97.cons hr109
   obtain rfl:=qam (hv98.sh.own 0 rfl)
   obtain ⟨rfl,h⟩:=hv98.lastI hr110
   refine G0 8191 [9,10,11] (h.pick [5] rfl) rfl (Ao 13 16383 rfl (zs 2 h rfl fun w160 h=>G0 32767 [14] (h.pick [5] rfl) rfl (Ad ?_)))
   replace h:=h.pick [2,1,3,5] rfl
   exact rG ⟨_,_,_,_,_,_,_,_,_,_,_,_,_,_,_,_,_,_,_,_,_,_,_,_,_,rfl,h⟩ rfl
  ·refine qdj qb [.tmp 63] _ ([(⟨1,0,[],[],[]⟩:qa)]:List qa) h rfl rfl rfl rfl rfl rfl rfl rfl rfl ⟨(qZ (⟨1,0,[],[],[]⟩:qa) qbf qbf qbf),trivial⟩ rfl fun w161 p88 S191 h=>Ag (h.pick [4] rfl) (At 1 12 183 4277 rfl ?_ ?_)
   ·refine qbz qb [] _ ([]:List qa) [0,1,2,3,4,5] h rfl rfl rfl rfl rfl rfl rfl rfl rfl qc6 rfl rfl fun w162 p89 S192 h=>Ag (h.pick [5] rfl) (At 3 12 191 4279 rfl ?_ ?_)
    ·replace h:=h.pick [0,2,1,3,4,5,6] rfl
     replace h:=h.toRowG.1
     obtain ⟨g42,hx1⟩:=qk hx1
     refine qcr qb h (qap (h.gS 0 1 rfl rfl)).1 rfl (qap (h.gS 0 1 rfl rfl)).2 rfl rfl rfl rfl rfl rfl rfl rfl rfl g42 hx1 rfl fun w163 p90 k66 S193 h=>Ag (h.pick [4] rfl) (At 6 12 255 4287 rfl ?_ ?_)
     ·replace h:=h.gTakeD
      obtain ⟨g43,hx2⟩:=qk hx2
      refine qcr qb h (qap (h.gS 0 0 rfl rfl)).1 rfl (qap (h.gS 0 0 rfl rfl)).2 rfl rfl rfl rfl rfl rfl rfl rfl rfl g43 hx2 rfl fun w164 p91 k67 S194 h=>Ag (h.pick [3] rfl) (At 8 12 511 4351 rfl ?_ ?_)
      ·replace h:=h.frzG 0 rfl
       refine qbM (r17,r18) h (cB 27 rfl) (qU (h.grp 0 4 rfl rfl) (h.grp 0 0 rfl rfl) (h.grp 0 2 rfl rfl) hr24) rfl rfl rfl rfl fun w165 S195 us69 hv100 hr112=>?_
       obtain ⟨S196,S197,cs39,us70,rfl,hv101,hr113⟩:=hv100.cons hr112
       obtain rfl:=qam (hv101.sh.own 0 rfl)
       obtain ⟨rfl,h⟩:=hv101.lastI hr113
       refine G0 4095 [9,10,11] (h.pick [4] rfl) rfl (Ao 12 8191 rfl (qx qb h rfl rfl rfl fun w166 bb30 h=>Ag (h.pick [5] rfl) (Ao 13 16383 rfl (zs 0 h rfl fun w167 h=>G0 32767 [14] (h.pick [5] rfl) rfl (Ad ?_)))))
       replace h:=h.pick [0,2,3,5] rfl
       exact rG ⟨_,_,_,_,_,_,_,_,_,_,_,_,_,_,_,_,_,_,_,_,_,_,_,_,_,rfl,h⟩ rfl
      refine qx qb h rfl rfl rfl fun w168 bb31 h=>Ag (h.pick [4] rfl) (Ao 8 4607 rfl ?_)
      replace h:=h.frzG 1 rfl
      refine qbM (r17,r18) h (cB 27 rfl) (qU (h.grp 1 4 rfl rfl) (h.grp 1 0 rfl rfl) (h.grp 1 2 rfl rfl) hr24) rfl rfl rfl rfl fun w169 S199 us71 hv103 hr115=>?_
      obtain ⟨S200,S201,cs40,us72,rfl,hv104,hr116⟩:=hv103.cons hr115
      obtain rfl:=qam (hv104.sh.own 0 rfl)
      obtain ⟨rfl,h⟩:=hv104.lastI hr116
      refine G0 8191 [9,10,11] (h.pick [5] rfl) rfl (Ao 13 16383 rfl (zs 1 h rfl fun w170 h=>G0 32767 [14] (h.pick [5] rfl) rfl (Ad ?_)))
      replace h:=h.pick [1,2,3,5] rfl
      exact rG ⟨_,_,_,_,_,_,_,_,_,_,_,_,_,_,_,_,_,_,_,_,_,_,_,_,_,rfl,h⟩ rfl
     refine qx qb h rfl rfl rfl fun w171 bb32 h=>Ag (h.pick [5] rfl) (Ao 6 4351 rfl ?_)
     replace h:=h.pick [1,2,0,3,4,5,6] rfl
     replace h:=h.gTakeD
     obtain ⟨g44,hx2⟩:=qk hx2
     refine qcr qb h (qap (h.gS 0 0 rfl rfl)).1 rfl (qap (h.gS 0 0 rfl rfl)).2 rfl rfl rfl rfl rfl rfl rfl rfl rfl g44 hx2 rfl fun w172 p92 k68 S203 h=>Ag (h.pick [4] rfl) (Ao 8 4607 rfl ?_)
     replace h:=h.frzG 0 rfl
     refine qbM (r17,r18) h (cB 27 rfl) (qU (h.grp 0 4 rfl rfl) (h.grp 0 0 rfl rfl) (h.grp 0 2 rfl rfl) hr24) rfl rfl rfl rfl fun w173 S204 us73 hv106 hr118=>?_
     obtain ⟨S205,S206,cs41,us74,rfl,hv107,hr119⟩:=hv106.cons hr118
     obtain rfl:=qam (hv107.sh.own 0 rfl)
     obtain ⟨rfl,h⟩:=hv107.lastI hr119
     refine G0 8191 [9,10,11] (h.pick [5] rfl) rfl (Ao 13 16383 rfl (zs 2 h rfl fun w174 h=>G0 32767 [14] (h.pick [5] rfl) rfl (Ad ?_)))
     replace h:=h.pick [2,1,3,5] rfl
     exact rG ⟨_,_,_,_,_,_,_,_,_,_,_,_,_,_,_,_,_,_,_,_,_,_,_,_,_,rfl,h⟩ rfl
    refine qx qb h rfl rfl rfl fun w175 bb33 h=>Ag (h.pick [6] rfl) (Ao 3 4287 rfl ?_)
    replace h:=h.pick [1,3,0,2,4,5,6,7] rfl
    replace h:=h.toRowG.1
    obtain ⟨g45,hx1⟩:=qk hx1
    refine qcr qb h (qap (h.gS 0 1 rfl rfl)).1 rfl (qap (h.gS 0 1 rfl rfl)).2 rfl rfl rfl rfl rfl rfl rfl rfl rfl g45 hx1 rfl fun w176 p93 k69 S208 h=>Ag (h.pick [5] rfl) (Ao 6 4351 rfl ?_)
    replace h:=h.pick [0,2,1,3,4,5,6] rfl
    replace h:=h.gTakeD
    obtain ⟨g46,hx2⟩:=qk hx2
    refine qcr qb h (qap (h.gS 0 0 rfl rfl)).1 rfl (qap (h.gS 0 0 rfl rfl)).2 rfl rfl rfl rfl rfl rfl rfl rfl rfl g46 hx2 rfl fun w177 p94 k70 S209 h=>Ag (h.pick [4] rfl) (Ao 8 4607 rfl ?_)
    replace h:=h.frzG 0 rfl
    refine qbM (r17,r18) h (cB 27 rfl) (qU (h.grp 0 4 rfl rfl) (h.grp 0 0 rfl rfl) (h.grp 0 2 rfl rfl) hr24) rfl rfl rfl rfl fun w178 S210 us75 hv109 hr121=>?_
    obtain ⟨S211,S212,cs42,us76,rfl,hv110,hr122⟩:=hv109.cons hr121
    obtain rfl:=qam (hv110.sh.own 0 rfl)
    obtain ⟨rfl,h⟩:=hv110.lastI hr122
    refine G0 8191 [9,10,11] (h.pick [5] rfl) rfl (Ao 13 16383 rfl (zs 2 h rfl fun w179 h=>G0 32767 [14] (h.pick [5] rfl) rfl (Ad ?_)))
    replace h:=h.pick [2,1,3,5] rfl
    exact rG ⟨_,_,_,_,_,_,_,_,_,_,_,_,_,_,_,_,_,_,_,_,_,_,_,_,_,rfl,h⟩ rfl
   refine qx qb h rfl rfl rfl fun w180 bb34 h=>Ag (h.pick [5] rfl) (Ao 1 4279 rfl (qbz qb [] _ ([]:List qa) [0,1,2,3,4,5,6] h rfl rfl rfl rfl rfl rfl rfl rfl rfl qc6 rfl rfl fun w181 p95 S214 h=>Ag (h.pick [6] rfl) (Ao 3 4287 rfl ?_)))
   replace h:=h.pick [0,3,1,2,4,5,6,7] rfl
   replace h:=h.toRowG.1
   obtain ⟨g47,hx1⟩:=qk hx1
   refine qcr qb h (qap (h.gS 0 1 rfl rfl)).1 rfl (qap (h.gS 0 1 rfl rfl)).2 rfl rfl rfl rfl rfl rfl rfl rfl rfl g47 hx1 rfl fun w182 p96 k71 S215 h=>Ag (h.pick [5] rfl) (Ao 6 4351 rfl ?_)
   replace h:=h.pick [0,2,1,3,4,5,6] rfl
   replace h:=h.gTakeD
   obtain ⟨g48,hx2⟩:=qk hx2
   refine qcr qb h (qap (h.gS 0 0 rfl rfl)).1 rfl (qap (h.gS 0 0 rfl rfl)).2 rfl rfl rfl rfl rfl rfl rfl rfl rfl g48 hx2 rfl fun w183 p97 k72 S216 h=>Ag (h.pick [4] rfl) (Ao 8 4607 rfl ?_)
   replace h:=h.frzG 0 rfl
   refine qbM (r17,r18) h (cB 27 rfl) (qU (h.grp 0 4 rfl rfl) (h.grp 0 0 rfl rfl) (h.grp 0 2 rfl rfl) hr24) rfl rfl rfl rfl fun w184 S217 us77 hv112 hr124=>?_
   obtain ⟨S218,S219,cs43,us78,rfl,hv113,hr125⟩:=hv112.cons hr124
   obtain rfl:=qam (hv113.sh.own 0 rfl)
   obtain ⟨rfl,h⟩:=hv113.lastI hr125
   refine G0 8191 [9,10,11] (h.pick [5] rfl) rfl (Ao 13 16383 rfl (zs 2 h rfl fun w185 h=>G0 32767 [14] (h.pick [5] rfl) rfl (Ad ?_)))
   replace h:=h.pick [2,1,3,5] rfl
   exact rG ⟨_,_,_,_,_,_,_,_,_,_,_,_,_,_,_,_,_,_,_,_,_,_,_,_,_,rfl,h⟩ rfl
  refine qx qb h rfl rfl rfl fun w186 bb35 h=>Ag (h.pick [4] rfl) (At 1 5 4247 4277 rfl ?_ ?_)
  ·refine qbz qb [] _ ([]:List qa) [0,1,2,3,4,5] h rfl rfl rfl rfl rfl rfl rfl rfl rfl qc6 rfl rfl fun w187 p98 S221 h=>Ag (h.pick [5] rfl) (At 3 5 4255 4279 rfl ?_ ?_)
   ·replace h:=h.pick [0,2,1,3,4,5,6] rfl
    replace h:=h.toRowG.1
    obtain ⟨g49,hx1⟩:=qk hx1
    refine qcr qb h (qap (h.gS 0 1 rfl rfl)).1 rfl (qap (h.gS 0 1 rfl rfl)).2 rfl rfl rfl rfl rfl rfl rfl rfl rfl g49 hx1 rfl fun w188 p99 k73 S222 h=>Ag (h.pick [4] rfl) (Ao 5 4287 rfl (qdj qb [.tmp 63] _ ([(⟨1,0,[],[],[]⟩:qa)]:List qa) h rfl rfl rfl rfl rfl rfl rfl rfl rfl ⟨(qZ (⟨1,0,[],[],[]⟩:qa) qbf qbf qbf),trivial⟩ rfl fun w189 p100 S223 h=>Ag (h.pick [5] rfl) (Ao 6 4351 rfl ?_)))
    replace h:=h.pick [1,0,2,3,4,5,6] rfl
    replace h:=h.gTakeD
    obtain ⟨g50,hx2⟩:=qk hx2
    refine qcr qb h (qap (h.gS 0 0 rfl rfl)).1 rfl (qap (h.gS 0 0 rfl rfl)).2 rfl rfl rfl rfl rfl rfl rfl rfl rfl g50 hx2 rfl fun w190 p101 k74 S224 h=>Ag (h.pick [4] rfl) (Ao 8 4607 rfl ?_)
    replace h:=h.frzG 0 rfl
    refine qbM (r17,r18) h (cB 27 rfl) (qU (h.grp 0 4 rfl rfl) (h.grp 0 0 rfl rfl) (h.grp 0 2 rfl rfl) hr24) rfl rfl rfl rfl fun w191 S225 us79 hv115 hr127=>?_
    obtain ⟨S226,S227,cs44,us80,rfl,hv116,hr128⟩:=hv115.cons hr127
    obtain rfl:=qam (hv116.sh.own 0 rfl)
    obtain ⟨rfl,h⟩:=hv116.lastI hr128
    refine G0 8191 [9,10,11] (h.pick [5] rfl) rfl (Ao 13 16383 rfl (zs 2 h rfl fun w192 h=>G0 32767 [14] (h.pick [5] rfl) rfl (Ad ?_)))
    replace h:=h.pick [2,1,3,5] rfl
    exact rG ⟨_,_,_,_,_,_,_,_,_,_,_,_,_,_,_,_,_,_,_,_,_,_,_,_,_,rfl,h⟩ rfl
   refine qdj qb [.tmp 63] _ ([(⟨1,0,[],[],[]⟩:qa)]:List qa) h rfl rfl rfl rfl rfl rfl rfl rfl rfl ⟨(qZ (⟨1,0,[],[],[]⟩:qa) qbf qbf qbf),trivial⟩ rfl fun w193 p102 S229 h=>Ag (h.pick [6] rfl) (Ao 3 4287 rfl ?_)
   replace h:=h.pick [1,3,0,2,4,5,6,7] rfl
   replace h:=h.toRowG.1
   obtain ⟨g51,hx1⟩:=qk hx1
   refine qcr qb h (qap (h.gS 0 1 rfl rfl)).1 rfl (qap (h.gS 0 1 rfl rfl)).2 rfl rfl rfl rfl rfl rfl rfl rfl rfl g51 hx1 rfl fun w194 p103 k75 S230 h=>Ag (h.pick [5] rfl) (Ao 6 4351 rfl ?_)
   replace h:=h.gTakeD
   obtain ⟨g52,hx2⟩:=qk hx2
   refine qcr qb h (qap (h.gS 0 0 rfl rfl)).1 rfl (qap (h.gS 0 0 rfl rfl)).2 rfl rfl rfl rfl rfl rfl rfl rfl rfl g52 hx2 rfl fun w195 p104 k76 S231 h=>Ag (h.pick [4] rfl) (Ao 8 4607 rfl ?_)
   replace h:=h.frzG 0 rfl
   refine qbM (r17,r18) h (cB 27 rfl) (qU (h.grp 0 4 rfl rfl) (h.grp 0 0 rfl rfl) (h.grp 0 2 rfl rfl) hr24) rfl rfl rfl rfl fun w196 S232 us81 hv118 hr130=>?_
   obtain ⟨S233,S234,cs45,us82,rfl,hv119,hr131⟩:=hv118.cons hr130
   obtain rfl:=qam (hv119.sh.own 0 rfl)
   obtain ⟨rfl,h⟩:=hv119.lastI hr131
   refine G0 8191 [9,10,11] (h.pick [5] rfl) rfl (Ao 13 16383 rfl (zs 2 h rfl fun w197 h=>G0 32767 [14] (h.pick [5] rfl) rfl (Ad ?_)))
   replace h:=h.pick [2,1,3,5] rfl
   exact rG ⟨_,_,_,_,_,_,_,_,_,_,_,_,_,_,_,_,_,_,_,_,_,_,_,_,_,rfl,h⟩ rfl
  refine qdj qb [.tmp 63] _ ([(⟨1,0,[],[],[]⟩:qa)]:List qa) h rfl rfl rfl rfl rfl rfl rfl rfl rfl ⟨(qZ (⟨1,0,[],[],[]⟩:qa) qbf qbf qbf),trivial⟩ rfl fun w198 p105 S236 h=>Ag (h.pick [5] rfl) (Ao 1 4279 rfl (qbz qb [] _ ([]:List qa) [0,1,2,3,4,5,6] h rfl rfl rfl rfl rfl rfl rfl rfl rfl qc6 rfl rfl fun w199 p106 S237 h=>Ag (h.pick [6] rfl) (Ao 3 4287 rfl ?_)))
  replace h:=h.pick [0,3,1,2,4,5,6,7] rfl
  replace h:=h.toRowG.1
  obtain ⟨g53,hx1⟩:=qk hx1
  refine qcr qb h (qap (h.gS 0 1 rfl rfl)).1 rfl (qap (h.gS 0 1 rfl rfl)).2 rfl rfl rfl rfl rfl rfl rfl rfl rfl g53 hx1 rfl fun w200 p107 k77 S238 h=>Ag (h.pick [5] rfl) (Ao 6 4351 rfl ?_)
  replace h:=h.gTakeD
  obtain ⟨g54,hx2⟩:=qk hx2
  refine qcr qb h (qap (h.gS 0 0 rfl rfl)).1 rfl (qap (h.gS 0 0 rfl rfl)).2 rfl rfl rfl rfl rfl rfl rfl rfl rfl g54 hx2 rfl fun w201 p108 k78 S239 h=>Ag (h.pick [4] rfl) (Ao 8 4607 rfl ?_)
  replace h:=h.frzG 0 rfl
  refine qbM (r17,r18) h (cB 27 rfl) (qU (h.grp 0 4 rfl rfl) (h.grp 0 0 rfl rfl) (h.grp 0 2 rfl rfl) hr24) rfl rfl rfl rfl fun w202 S240 us83 hv121 hr133=>?_
  obtain ⟨S241,S242,cs46,us84,rfl,hv122,hr134⟩:=hv121.cons hr133
  obtain rfl:=qam (hv122.sh.own 0 rfl)
  obtain ⟨rfl,h⟩:=hv122.lastI hr134
  refine G0 8191 [9,10,11] (h.pick [5] rfl) rfl (Ao 13 16383 rfl (zs 2 h rfl fun w203 h=>G0 32767 [14] (h.pick [5] rfl) rfl (Ad ?_)))
  replace h:=h.pick [2,1,3,5] rfl
  exact rG ⟨_,_,_,_,_,_,_,_,_,_,_,_,_,_,_,_,_,_,_,_,_,_,_,_,_,rfl,h⟩ rfl
 rintro e2 w204 ⟨bb20,S131,r19,p60,k44,r20,p61,k45,r21,p62,k46,r22,p63,k47,r23,p64,k48,p65,k49,p66,k50,p67,k51,p68,k52,rfl,h⟩
 refine X0 3 rfl ?_
 obtain ⟨r24,hr136,hF⟩:=qe hF
 obtain ⟨r25,r26,r27⟩:=r24
 refine qgF (r25,r26,r27) hg1 h (cB 26 rfl) (qcH (hg1.atB h) ⟨_,_,rfl,(hg1.inBS h s1)⟩ hr136) rfl rfl rfl rfl fun w205 us85 S244 h hv124=>?_
 obtain ⟨cs47,us86,rfl,hr137,hv125⟩:=qfq hv124
 have hr138:=hr137
 obtain ⟨p109,k79,p110,k80,p111,k81,p112,k82,p113,k83,rfl,s16,s17,s18,s19,s20⟩:=qJ hr137
 replace h:=h.grpAdd 0 rfl hr138
 obtain ⟨cs48,us87,rfl,hr139,hv126⟩:=qfq hv125
 have hr140:=hr139
 obtain ⟨p114,k84,rfl,s21⟩:=hr139
 replace h:=h.grpAdd 0 rfl hr140
 obtain ⟨cs49,rfl,hr141⟩:=qgA hv126
 have hr142:=hr141
 obtain ⟨p115,k85,rfl,s22⟩:=hr141
 replace h:=h.grpAdd 0 rfl hr142
 refine zp4 rfl (zs 4 h rfl fun w206 h=>X0 5 rfl ?_)
 obtain ⟨KF2,hKF2,o3,hF,hK3⟩:=bindE hF
 refine qaV (fun e w'=>∃ (b2:Bool),KF2 b2=some r∧e=[(0,.slice p1 a_0.length k1),(3,.pointer (some ⟨bb1,0,none⟩)),(4,.slice p114 r26.length k84),(5,.slice p115 r27.length k85),(6,.pointer (some ⟨bb2,0,none⟩)),(103,.bool b2)]∧SH w w' [Ch.grp (old w) S244 [fct (r27:(List Int)) [.slice p115 r27.length k85],fct (r26:(List qa)) [.slice p114 r26.length k84],fct (r25:qc) [.slice p109 r25.Ac.Ai.length k79,.slice p110 r25.Aa.Ab.length k80,.slice p111 r25.Aa.Aj.length k81,.slice p112 r25.Aa.Af.length k82,.slice p113 r25.Ah.length k83]],Ch.box bb2 (qfZ r7) 55,Ch.box bb1 (qp r25 p109 p110 p111 p112 p113 k79 k80 k81 k82 k83) 34]) ?_ ?_
 ·refine X0 4 rfl (qj (t:=78) hF rfl ?_ ?_)<;>intro hF
  ·refine X0 26 rfl ?_
   replace h:=h.pick [0,1,3,4] rfl
   replace h:=h.pick [0,2,3] rfl
   obtain rfl:=qd hF
   exact rG ⟨_,hK3,rfl,h⟩ rfl
  refine X1 8 1 h rfl (qj (t:=83) hF rfl ?_ ?_)<;>intro hF
  ·refine X0 21 rfl ?_
   replace h:=h.pick [0,1,3,4] rfl
   replace h:=h.pick [0,2,3] rfl
   obtain rfl:=qd hF
   exact rG ⟨_,hK3,rfl,h⟩ rfl
  refine X2 12 1 3 h rfl (qj (t:=90) hF rfl ?_ ?_)<;>intro hF
  ·refine X0 14 rfl ?_
   replace h:=h.pick [0,1,3,4] rfl
   replace h:=h.pick [0,2,3] rfl
   obtain rfl:=qd hF
   exact rG ⟨_,hK3,rfl,h⟩ rfl
  refine X2 12 1 3 h rfl (qj (t:=97) hF rfl ?_ ?_)<;>intro hF
  ·refine X0 7 rfl ?_
   replace h:=h.pick [0,1,3,4] rfl
   replace h:=h.pick [0,2,3] rfl
   obtain rfl:=qd hF
   exact rG ⟨_,hK3,rfl,h⟩ rfl
  refine X2 12 1 3 h rfl ?_
  replace h:=h.pick [0,1,3,4] rfl
  replace h:=h.pick [0,2,3] rfl
  obtain rfl:=qd hF
  exact rG ⟨_,hK3,rfl,h⟩ rfl
 rintro e4 w220 ⟨b2,hF,rfl,h⟩
 subst hKF2
 refine qm rfl hF ?_ ?_<;>intro hF
 ·refine X0 4 rfl ?_
  replace h:=h.pick [1,2] rfl
  exact rb h hF rfl
 refine X0 6 rfl ?_
 obtain ⟨o2,hF,hK2⟩:=qe hF
 refine qu (rL (fun m e w'=>∃ (S245:Nat→Prop) (r28:(List Int)) (p116:Option Addr) (k86:Nat) (r29:(List qa)) (p117:Option Addr) (k87:Nat) (r30:qc) (p118:Option Addr) (k88:Nat) (p119:Option Addr) (k89:Nat) (p120:Option Addr) (k90:Nat) (p121:Option Addr) (k91:Nat) (p122:Option Addr) (k92:Nat) (i1:Int),qbI a_0 r7 m r28 r29 r30 i1=some o2∧e=[(0,.slice p1 a_0.length k1),(3,.pointer (some ⟨bb1,0,none⟩)),(4,.slice p117 r29.length k87),(5,.slice p116 r28.length k86),(6,.pointer (some ⟨bb2,0,none⟩)),(12,.int .i64 i1)]∧SH w w' [Ch.grp (old w) S245 [fct (r28:(List Int)) [.slice p116 r28.length k86],fct (r29:(List qa)) [.slice p117 r29.length k87],fct (r30:qc) [.slice p118 r30.Ac.Ai.length k88,.slice p119 r30.Aa.Ab.length k89,.slice p120 r30.Aa.Aj.length k90,.slice p121 r30.Aa.Af.length k91,.slice p122 r30.Ah.length k92]],Ch.box bb2 (qfZ r7) 55,Ch.box bb1 (qp r30 p118 p119 p120 p121 p122 k88 k89 k90 k91 k92) 34]) n ⟨_,_,_,_,_,_,_,_,_,_,_,_,_,_,_,_,_,_,_,hF,rfl,h⟩ rfl ?_)
 rintro m1 e3 w207 ⟨S245,r28,p116,k86,r29,p117,k87,r30,p118,k88,p119,k89,p120,k90,p121,k91,p122,k92,i1,hF,rfl,h⟩
 rcases m1 with _|m1
 ·cases hF
 refine X0 8 rfl (qm rfl hF ?_ ?_)<;>intro hF
 ·refine X0 4 rfl (rD (Y1 1 2 h rfl ?_))
  refine zd2 rfl ?_
  obtain ⟨y1,hy1,hF,he1,b3,_,q1,cs50,hp1,hq1,hr143,hc6⟩:=(qap (h.grpS 0 1 rfl rfl)).1.ix hF
  have hr144:=hr143
  obtain ⟨p123,k93,p124,k94,p125,k95,rfl,s23,s24,s25⟩:=qB hr143
  replace h:=h.grpAdd 0 rfl hr144
  refine zdx hp1 hq1 ⟨he1.1,qab he1.2.1 (qap (h.grpS 0 2 rfl rfl)).2⟩ rfl (zdc 0 hc6 rfl (zd1 rfl ?_))
  obtain ⟨r31,hr145,hF⟩:=qe hF
  refine qcq r31 (vsB _) (cB 29 rfl) (fun _ hb=>qjw ((h.ext hb).grp 0 3 rfl rfl) ⟨[.int .i64 y1.Ar],[.int .i64 y1.Ba,.slice p123 y1.As.length k93,.slice p124 y1.Am.length k94,.slice p125 y1.To.length k95],rfl,rfl,⟨[.int .i64 y1.Ba],[.slice p123 y1.As.length k93,.slice p124 y1.Am.length k94,.slice p125 y1.To.length k95],rfl,rfl,⟨[.slice p123 y1.As.length k93],[.slice p124 y1.Am.length k94,.slice p125 y1.To.length k95],rfl,⟨_,_,rfl,(qhu ((h.ext hb).grp 0 0 rfl rfl)).1.1⟩,⟨[.slice p124 y1.Am.length k94],[.slice p125 y1.To.length k95],rfl,⟨_,_,rfl,(qhu ((h.ext hb).grp 0 0 rfl rfl)).2.1.1⟩,⟨_,_,rfl,(qhu ((h.ext hb).grp 0 0 rfl rfl)).2.2.1⟩⟩⟩⟩⟩ ((h.ext hb).grp 0 1 rfl rfl) hr145) rfl rfl rfl rfl (zd1 rfl (dN h fun w208 h=>X0 3 rfl ?_))
  obtain ⟨r32,hr146,hF⟩:=qe hF
  obtain ⟨r33,r34,r35⟩:=r32
  refine qgF (r33,r34,r35) hg1 h (cB 26 rfl) (qcH (hg1.atB h) ⟨_,_,rfl,(hg1.inBS h s1)⟩ hr146) rfl rfl rfl rfl fun w209 us88 S246 h hv127=>?_
  obtain ⟨cs51,us89,rfl,hr147,hv128⟩:=qfq hv127
  have hr148:=hr147
  obtain ⟨p126,k96,p127,k97,p128,k98,p129,k99,p130,k100,rfl,s26,s27,s28,s29,s30⟩:=qJ hr147
  replace h:=h.grpAdd 0 rfl hr148
  obtain ⟨cs52,us90,rfl,hr149,hv129⟩:=qfq hv128
  have hr150:=hr149
  obtain ⟨p131,k101,rfl,s31⟩:=hr149
  replace h:=h.grpAdd 0 rfl hr150
  obtain ⟨cs53,rfl,hr151⟩:=qgA hv129
  have hr152:=hr151
  obtain ⟨p132,k102,rfl,s32⟩:=hr151
  replace h:=h.grpAdd 0 rfl hr152
  refine zp4 rfl (zs 3 h rfl fun w210 h=>X0 8 rfl (qm rfl hF ?_ ?_))<;>intro hF
  ·refine qA rfl (X0 5 rfl ?_)
   replace h:=h.pick [0,2,3] rfl
   exact rK ⟨_,_,_,_,_,_,_,_,_,_,_,_,_,_,_,_,_,_,_,hF,rfl,h⟩ rfl
  refine zKS (rA [] [] h rfl fun w211 h=>M0 6 [1,2] (h.pick [] rfl) rfl ?_)
  obtain ⟨x3,hx3,hF⟩:=qe hF
  obtain ⟨p133,k103,hp2,hk1,hl1,g55⟩:=qkI (qap (h.grp 0 1 rfl rfl)).1 hx3
  refine Aw 3 14 (fun w' hw=>qh0 qb rfl rfl rfl (qkk g55 (qap (h.grp 0 1 rfl rfl)).2) hp2 hk1 hl1 rfl rfl rfl rfl) (h.pick [] rfl) rfl ?_
  refine M0 238 [5,6,7] (h.pick [] rfl) rfl ?_
  obtain ⟨x4,hx4,hF⟩:=qe hF
  obtain ⟨p134,k104,hp3,hk2,hl2,g56⟩:=qkI (qap (h.grp 0 1 rfl rfl)).1 hx4
  refine Aw 8 494 (fun w' hw=>qh0 qb rfl rfl rfl (qkk g56 (qap (h.grp 0 1 rfl rfl)).2) hp3 hk2 hl2 rfl rfl rfl rfl) (h.pick [] rfl) rfl ?_
  refine Ao 0 495 rfl (qbz qb [] _ ([]:List qa) [0,1,2,3] h rfl rfl rfl rfl rfl rfl rfl rfl rfl qc6 rfl rfl fun w212 p135 S247 h=>Ag (h.pick [] rfl) (Ao 4 511 rfl ?_))
  replace h:=h.toRowG.1
  obtain ⟨x5,hx5,hF⟩:=qe hF
  obtain ⟨g57,hx5⟩:=qk hx5
  refine qcr qb h (qkD (qap (h.gS 0 1 rfl rfl)).1 hx3 hp2 hk1) rfl rfl rfl rfl rfl rfl rfl rfl rfl rfl rfl g57 hx5 rfl fun w213 p136 k105 S248 h=>Ag (h.pick [] rfl) (Ao 9 1023 rfl ?_)
  obtain ⟨x6,hx6,hF⟩:=qe hF
  obtain ⟨g58,hx6⟩:=qk hx6
  refine qcr qb h (qkD (qap (h.gS 0 1 rfl rfl)).1 hx4 hp3 hk2) rfl rfl rfl rfl rfl rfl rfl rfl rfl rfl rfl g58 hx6 rfl fun w214 p137 k106 S249 h=>G0 2047 [10] (h.pick [] rfl) rfl (Ad (X1 5 3 h rfl ?_))
  replace h:=h.frzG 0 rfl
  obtain ⟨r36,hr153,hF⟩:=qe hF
  obtain ⟨r37,r38⟩:=r36
  refine qbM (r37,r38) h (cB 27 rfl) (qU (h.grp 0 3 rfl rfl) (h.grp 0 0 rfl rfl) (h.grp 0 1 rfl rfl) hr153) rfl rfl rfl rfl fun w215 S250 us91 hv130 hr154=>?_
  obtain ⟨S251,S252,cs54,us92,rfl,hv131,hr155⟩:=hv130.cons hr154
  obtain rfl:=qam (hv131.sh.own 0 rfl)
  obtain ⟨rfl,h⟩:=hv131.lastI hr155
  refine zp3 rfl (qx qb h rfl rfl rfl fun w216 bb36 h=>zs 0 h rfl fun w217 h=>X0 5 rfl ?_)
  obtain ⟨r39,hr157,hF⟩:=qe hF
  obtain ⟨r40,r41,r42⟩:=r39
  refine qgF (r40,r41,r42) hg1 h (cB 26 rfl) (qcH (hg1.atB h) ⟨_,_,rfl,(hg1.inBS h s1)⟩ hr157) rfl rfl rfl rfl fun w218 us93 S254 h hv133=>?_
  obtain ⟨cs55,us94,rfl,hr158,hv134⟩:=qfq hv133
  have hr159:=hr158
  obtain ⟨p138,k107,p139,k108,p140,k109,p141,k110,p142,k111,rfl,s33,s34,s35,s36,s37⟩:=qJ hr158
  replace h:=h.grpAdd 0 rfl hr159
  obtain ⟨cs56,us95,rfl,hr160,hv135⟩:=qfq hv134
  have hr161:=hr160
  obtain ⟨p143,k112,rfl,s38⟩:=hr160
  replace h:=h.grpAdd 0 rfl hr161
  obtain ⟨cs57,rfl,hr162⟩:=qgA hv135
  have hr163:=hr162
  obtain ⟨p144,k113,rfl,s39⟩:=hr162
  replace h:=h.grpAdd 0 rfl hr163
  refine zp4 rfl (zs 6 h rfl fun w219 h=>X0 8 rfl (qj (t:=149) hF rfl ?_ ?_))<;>intro hF
  ·refine X0 5 rfl (qdb rfl rfl (X0 4 rfl ?_))
   replace h:=h.pick [1,2,5,6] rfl
   obtain rfl:=qd hF;replace hF:=hK2
   exact rb h hF rfl
  refine X2 5 1 5 h rfl (r_v (qqv (by kernel_rfl) rfl rfl) rfl (X0 2 rfl (qm rfl hF ?_ ?_)))<;>intro hF
  ·refine X0 4 rfl ?_
   replace h:=h.pick [1,2,5,6] rfl
   obtain rfl:=qd hF;replace hF:=hK2
   exact rb h hF rfl
  refine X0 7 rfl ?_
  replace h:=h.pick [0,1,2,4,5,6] rfl
  replace h:=h.pick [0,1,2,4,5] rfl
  replace h:=h.pick [0,3,4] rfl
  exact rK ⟨_,_,_,_,_,_,_,_,_,_,_,_,_,_,_,_,_,_,_,hF,rfl,h⟩ rfl
 refine qA rfl ?_
 obtain rfl:=qd hF;replace hF:=hK2
 refine X0 4 rfl ?_
 replace h:=h.pick [1,2] rfl
 exact rb h hF rfl
end Go.Fw


namespace Go.Fw
open Go
set_option maxRecDepth 100000
def matchesB (b:qc) (e:qa) (path:List Int):Bool:=(blockB b&&excB b e)&&(dpathB b path&&matchB e path)
theorem qlG {b:qc} {e:qa} {path:List Int} (hok:qct b) (he:qal e) (hl:path.length≤1048576):Ev (fun n=>qfh n b e path) (matchesB b e path):=by
 unfold qfh matchesB
 rw [jP]
 refine Ev.bind (qjH hok) ?_
 cases h:blockB b
 ·exact .done
 ·refine Ev.ff rfl ?_
  rw [jv]
  obtain ⟨ls,lo,de,ev⟩:=qlf h
  refine Ev.bind ev (Ev.and (qi2 h rfl he) fun _=>Ev.and (qhX h rfl rfl hl) fun hd=>?_)
  obtain ⟨h1,h60⟩:=qlk hd
  have hes:okL qal [e]:=⟨by simp,fun x hx=>by rw [List.mem_singleton.1 hx];exact he⟩
  have iE:idx path (W64 ((path.length:Int)-1))=some (lastP path):=by
   rw [qbn (by omega),show (path.length:Int)-1=((path.length-1:Nat):Int) by omega,qa5 (by omega)];rfl
  rw [iE]
  simp only [je]
  refine Ev.bind (qm2 hes h1 hl) (Ev.bindN (b:=runT e path) rfl (Ev.last ((qlj he).cast (qmL h1))))
theorem qnL {es:List qa} {m m':Nat→Bool} {j:Nat} (h:∀ i,i<j→m i=m' i):selE es m j=selE es m' j:=by
 unfold selE selN
 congr 1
 exact List.filter_congr fun i hi=>h i (List.mem_range.1 hi)
theorem qmQ {es:List qa} {q:qa→Bool}:selE es (fun i=>q (gt es i)) es.length=es.filter q:=by
 have e:(List.range es.length).map (gt es)=es:=by
  refine List.ext_getElem (by simp) fun i h1 h2=>?_
  simp [qg8 h2]
 have h:((List.range es.length).map (gt es)).filter q=((List.range es.length).filter (q ∘ gt es)).map (gt es):=by rw [List.filter_map]
 rw [e] at h
 exact h.symm
def effL (es:List qa) (path:List Int):qL:=effE (es.filter fun e=>matchB e path)
theorem qlI {b:qc} {es:List qa} {path:List Int} (hok:qct b) (hes:okL qal es) (hp:path.length≤1048576) (h0:codeX b es=0) (hd:dpathB b path=true):Ev (fun n=>qde n b es path) (effL es path,0):=by
 obtain ⟨o,ev,hv⟩:=qm8 hok hes
 unfold qde
 obtain ⟨hb,_,hx⟩:=qis h0
 obtain ⟨ls,lo,de,rfl⟩:=hv h0
 rw [h0] at ev
 have d2:=qhX (V:=⟨b,places b.Aa,ls,lo,de,[]⟩) (path:=path) hb rfl rfl hp
 obtain ⟨h1,_⟩:=qlk hd
 rw [hd] at d2
 have iE:idx path (W64 ((path.length:Int)-1))=some (lastP path):=by
  rw [qbn (by omega),show (path.length:Int)-1=((path.length-1:Nat):Int) by omega,qa5 (by omega)];rfl
 have e:=qnE (tag:=es.map fun e=>runT e path) (p:=lastP path) hes (by simp)
 rw [qnL (m':=fun i=>matchB (gt es i) path) (fun i hi=>by
  show matT (gt es i) (at0 (es.map fun e=>runT e path) i) (lastP path)=_
  rw [←qmL h1]
  congr 1
  simp [at0,hi,qg8 hi]),qmQ (q:=fun e=>matchB e path)] at e
 exact Ev.bind ev (Ev.ff rfl (Ev.bind d2 (Ev.ff rfl (Ev.bindN iE (Ev.bind (qm2 hes h1 hp) (Ev.bind e .done))))))
theorem qop {b:qc} {es:List qa} {path:List Int} (hok:qct b) (hes:okL qal es) (hp:path.length≤1048576) :
  (∃ c:Int,(c != 0)=true∧Ev (fun n=>qgJ n b es path) (⟨false,0,0,0⟩,c)∧Ev (fun n=>qde n b es path) (⟨false,0,0,0⟩,c))∨(codeX b es=0∧dpathB b path=true):=by
 obtain ⟨o,ev,hv⟩:=qm8 hok hes
 have hc:=qnG hok hes
 unfold qgJ qde
 by_cases h0:codeX b es=0
 ·obtain ⟨hb,_,hx⟩:=qis h0
  obtain ⟨ls,lo,de,rfl⟩:=hv h0
  rw [h0] at ev hc
  have d1:=qlq (path:=path) hok hp
  have d2:=qhX (V:=⟨b,places b.Aa,ls,lo,de,[]⟩) (path:=path) hb rfl rfl hp
  rw [hb,jv] at d1
  cases hd:dpathB b path
  ·rw [hd] at d1 d2
   exact .inl ⟨2,rfl,Ev.bind hc (Ev.ff rfl (Ev.bind d1 (Ev.tt rfl .done))),Ev.bind ev (Ev.ff rfl (Ev.bind d2 (Ev.tt rfl .done)))⟩
  ·exact .inr ⟨h0,rfl⟩
 ·have hne:(codeX b es != 0)=true:=by simpa using h0
  exact .inl ⟨codeX b es,hne,Ev.bind hc (Ev.tt hne .done),Ev.bind ev (Ev.tt hne .done)⟩
def fpE:qa:=⟨1,0,[],[],[]⟩
theorem qn7:∀ xs:List Int,xs.foldl (stepT fpE) 0=0
 | []=>rfl
 | x::xs=>by rw [List.foldl_cons,show stepT fpE 0 x=0 from rfl];exact qn7 xs
theorem qo2 {path:List Int}:matchB fpE path=true:=by
 unfold matchB
 rw [qn7]
 rfl
theorem qkw {k:Int} {g:Bool} (hk:((1:Int) != k)=true) {ms:List qa}:chooseL k g (ms++[fpE])=chooseL k g ms:=by
 unfold chooseL
 rw [List.foldl_append]
 show pickS k g _ fpE=_
 unfold pickS
 rw [show (fpE.Ar != k)=true from hk]
 rfl
theorem qpR {es:List qa} {path:List Int}:effL (es++[fpE]) path=⟨true,(effL es path).Bo,(effL es path).Bl,(effL es path).Bk⟩:=by
 unfold effL
 rw [List.filter_append,show [fpE].filter (fun e=>matchB e path)=[fpE] by simp [qo2]]
 unfold effE
 rw [qkw rfl,qkw rfl,qkw rfl,List.any_append]
 simp [fpE]
theorem qnq {b:qc} {es:List qa} (hb:blockB b=true) (hl:es.length≤6) (hx:es.all (excB b)=true):codeX b es=0:=by
 unfold codeX
 rw [hb,decide_eq_true hl,hx]
 rfl
theorem qoH {α:Type} {xs:List α} {j:Nat} (h:j≤xs.length):subS xs (j:Int) (xs.length:Int)=some (xs.drop j):=by
 unfold subS
 rw [if_pos ⟨by omega,by omega,by omega⟩]
 simp
section
variable {code:List (IntK .u8)}
theorem qqg (hc:CodeOk code):EvQ (fun n=>qbo n code) (fun o=>CaseI o.1 o.2.1 o.2.2):=by
 unfold qbo
 refine EvQ.bind (qqu hc) ?_
 rintro ⟨b,es,p⟩ h
 exact EvQ.done h
theorem qpx {b:qc} {es:List qa} {path:List Int} (hok:qct b) (hes:okL qal es) (hp:path.length≤1048576) (h0:codeX b es=0) (hdp:dpathB b path=true) (hd:Ev (fun n=>qbo n code) (b,es,path)) :
  Ev (fun n=>qbI code (effL es path) n path es b 0) (.nxt (path,es,b,(es.length:Int))):=by
 have hl:=hes.len
 obtain ⟨hb,h6,hx⟩:=qis h0
 refine loopF (τ:=Unit) (Lf:=fun n _ i=>qbI code (effL es path) n path es b i) (S:=fun _=>()) (len:=es.length) (fun n=>by simp only [qbI,qt (jf _),cond_false]) (fun i hi X hX=>?_)
 simp only [qbI,qr hi,cond_true,qaS hi,je,wS i]
 refine Ev.bind (qlG hok (hes.at hi) hp) (Ev.bind hd ?_)
 cases hm:matchesB b es[i] path
 ·have hxi:excB b es[i]=true:=List.all_eq_true.1 hx _ (jq hi)
  have hmi:matchB es[i] path=false:=by
   unfold matchesB at hm
   rw [hb,hxi,hdp] at hm
   simpa using hm
  have hsp:es=es.take i++es[i]::es.drop (i+1):=by rw [List.getElem_cons_drop,List.take_append_drop]
  have hmem:∀ x,x ∈ es.take i++es.drop (i+1)→x ∈ es:=fun x hx=>by
   rcases List.mem_append.1 hx with hx|hx
   ·exact List.mem_of_mem_take hx
   ·exact List.mem_of_mem_drop hx
  have hlen:(es.take i++es.drop (i+1)).length≤es.length:=by rw [jg,List.length_take,List.length_drop];omega
  have e:effL (es.take i++es.drop (i+1)) path=effL es path:=by
   unfold effL
   conv=>rhs;rw [hsp]
   rw [List.filter_append,List.filter_append,List.filter_cons_of_neg (by rw [hmi];decide)]
  have iE:=qlI (es:=es.take i++es.drop (i+1)) hok ⟨by omega,fun x hx=>hes.2 x (hmem x hx)⟩ hp (qnq hb (by omega) (List.all_eq_true.2 fun x hx'=>List.all_eq_true.1 hx x (hmem x hx'))) hdp
  rw [e] at iE
  refine Ev.ff rfl (Ev.bindN (qmc (xs:=es) (j:=i) (by omega)) (Ev.bindN (qoH (xs:=es) (j:=i+1) (by omega)) (Ev.bindN (qhe (xs:=es.take i) (by rw [List.length_take];omega)) (Ev.bindN (qb8 (xs:=es.take i) (ys:=es.drop (i+1)) (by rw [List.length_take,List.length_drop];omega)) (Ev.bind iE (Ev.bind hd (Ev.ff rfl (Ev.ff ?_ hX))))))))
  simp
 ·exact Ev.tt rfl hX
theorem qlV (hk:rngL rng8 code):Ev (fun n=>qhs n code) true:=by
 unfold qhs qls
 refine Ev.bindN rfl (Ev.bif (fun _=>.done) (fun hl=>?_))
 have hl:code.length≤4096:=by have:=of_decide_eq_false hl;omega
 obtain ⟨⟨b,es,path⟩,hd,hcase⟩:=qqg (code:=code) ⟨by omega,hk.2⟩
 dsimp only at hcase
 have hok:=hcase.blk.ok
 have hes:=hcase.es
 have hp:path.length≤1048576:=by have:=hcase.l2;omega
 rcases qop hok hes hp with ⟨c,hc,sE,iE⟩|⟨h0,hdp⟩
 ·exact Ev.bind hd (Ev.bind iE (Ev.bind hd (Ev.tt hc (Ev.bind sE (Ev.bind (b:=true) (Ev.tt (by simp) (Ev.now rfl)) .done)))))
 ·obtain ⟨hb,h6,hx⟩:=qis h0
  have iE:=qlI hok hes hp h0 hdp
  refine Ev.bind hd (Ev.bind iE (Ev.bind hd (Ev.ff rfl (Ev.bif (fun _=>.done) (fun hne=>?_)))))
  have hne:es.length≤5:=by
   have:es.length ≠ 6:=by
    intro h
    rw [h] at hne
    simp at hne
   omega
  have iF:=qlI (es:=es++[fpE]) hok ⟨by rw [jg];show es.length+1≤_;omega,fun x hx=>by
   rcases List.mem_append.1 hx with hx|hx
   ·exact hes.2 x hx
   ·rw [List.mem_singleton.1 hx]
    exact ⟨qV (x:=1) (by decide) (by decide),qV (x:=0) (by decide) (by decide),⟨jw _,fun _ h=>by cases h⟩,⟨jw _,fun _ h=>by cases h⟩,⟨jw _,fun _ h=>by cases h⟩⟩⟩ hp
   (qnq hb (by rw [jg];show es.length+1≤_;omega) (by rw [List.all_append,hx];rfl)) hdp
  rw [qpR] at iF
  refine Ev.bindN (qhe (by omega)) (Ev.bindN (b:=es++[fpE]) (qbN (by omega)) (Ev.bind iF (Ev.bind hd (Ev.bind (b:=false) (Ev.ff rfl (Ev.ff rfl (Ev.ff (by simp) (Ev.ff (by simp) (Ev.now (by simp)))))) (Ev.ff rfl (Ev.bind (qpx hok hes hp h0 hdp hd) .done))))))
end
end Go.Fw
