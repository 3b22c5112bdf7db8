/- By a program of mine (gen.py): for each function a plain function and the proof that the code computes it. -/
import Derived.Test.YtmemiabhkcdgcaaGreatDoorD1
import Derived.Test.YtmemiabhkcdgcaaGreatDoorFw27
import Derived.Test.YtmemiabhkcdgcaaGreatDoorFw38
open Option renaming bind_some → je, map_some → jV
open Nat renaming le_refl → jf, le_of_ble_eq_true → jt, mul_le_mul_right → ju, lt_of_lt_of_le → jz, zero_le → jG, succ_mul → jP, le_trans → jS, add_zero → jY, zero_add → Ji
open List renaming getElem?_eq_getElem → jg, mem_cons_of_mem → jm, mem_cons_self → jn, length_append → jo, getElem_mem → jp, getElem?_append_left → jq, getElem?_take → jr, take_succ_eq_append_getElem → js, length_singleton → jw, getElem?_append_right → jy, mem_of_getElem? → jA, getElem?_drop → jB, take_length → jC, drop_eq_getElem_cons → jD, eq_nil_of_length_eq_zero → jE, getElem?_toArray → jF, map_append → jH, getElem_of_mem → jI, getD_eq_getElem?_getD → jK, getElem?_cons_succ → jL, append_nil → jM, length_map → jN, size_toArray → jQ, mem_append_left → jR, range_succ → jT, map_cons → jU, all_eq_true → jW, length_cons → jZ, drop_eq_nil_of_le → Ja, length_take → Jb, ext_getElem → Jc, append_assoc → Jd, length_filter_le → Je, getElem?_set_ne → Jf, not_mem_nil → Jg, mem_cons → Jh
open Go.Result renaming andThen_ok → jh
open Bool renaming and_eq_true → ji, eq_iff_iff → jk, true_and → jJ, not_eq_true' → jO, not_true → Jj, false_or → Jk
open Go.Sem renaming run_bind → jj, run_pure → jl
open Int renaming toNat_natCast → jx
open Array renaming getElem?_append_left → jX

namespace Go.Fw
open Go Go.Proofs
open Go.RowKit (Below)
set_option maxRecDepth 100000
set_option maxHeartbeats 6400000
variable {n:Nat} {w:World} {cs1 cs2 cs3 cs4 cs5 cs6 cs7 cs8 cs9:List Value}
def qbJ (n:Nat) (b:qg):Option Int :=
 (qdd n (⟨b.Ab.Aa,b.Ab.Af,b.Ab.Ac⟩:qf)).bind fun r1 =>
 some (r1.length:Int)
theorem qfb {b:qg} (ha1:GoT.R w (old w) b cs1) {r:Int} (hF:qbJ n b=some r):RetV Tryz.prog 70 [GoT.v qg cs1] w r:=by
 obtain ⟨p1,k1,p2,k2,p3,k3,p4,k4,p5,k5,rfl,s1,s2,s3,s4,s5⟩:=qK ha1
 exact zV 7 Tryz.func70 rfl fun h=>zSR (qu h rfl rfl fun w1 bb1 h=>X1 6 0 h rfl (zcL h hF (qeT (qaz _ (h.oldS s2) (h.oldS s3) (h.oldS s4))) rfl fun r1 w2 S1 p6 k6 h hF=>X0 3 rfl (ri h hF rfl)))
def qbX (b:qg) (list:(List Int)) (sorted:Bool):Nat→Int→Option (Flow Bool Int)
 | 0,_=>none
 | n+1,i1 =>
  bif decide (i1<(list.length:Int)) then
   (idx list i1).bind fun y1 =>
   (qbJ n b).bind fun r1 =>
   (qan n y1 0 (W64 (r1-1))).bind fun r2 =>
   bif (!r2) then some (.ret false) else
   bif sorted then
    bif decide (i1 > 0) then
     (idx list (W64 (i1-1))).bind fun y2 =>
     (idx list i1).bind fun y3 =>
     bif decide (y2 ≥ y3) then some (.ret false) else
     qbX b list sorted n (W64 (i1+1))
    else
     qbX b list sorted n (W64 (i1+1))
   else
    qbX b list sorted n (W64 (i1+1))
  else
   some (.nxt i1)
def qfE (n:Nat) (b:qg) (list:(List Int)) (sorted:Bool):Option Bool :=
 (qbX b list sorted n 0).bind fun o=>match o with
 | .ret r=>some r
 | .nxt _ =>
  some (decide ((list.length:Int)≤4))
theorem qhI {b:qg} {list:(List Int)} {sorted:Bool} (ha1:GoT.R w (old w) b cs1) (ha2:GoT.R w (old w) list cs2) {r:Bool} (hF:qfE n b list sorted=some r):RetV Tryz.prog 150 [GoT.v qg cs1,GoT.v (List Int) cs2,.bool sorted] w r:=by
 obtain ⟨p1,k1,p2,k2,p3,k3,p4,k4,p5,k5,rfl,s1,s2,s3,s4,s5⟩:=qK ha1
 obtain ⟨p6,k6,rfl,s6⟩:=ha2
 refine zV 45 Tryz.func150 rfl fun h=>zSR (qu h rfl rfl fun w1 bb1 h=>X0 7 rfl ?_)
 obtain ⟨o1,hF,hK1⟩:=qd hF
 refine qk (rL (fun m e w'=>∃ (i1:Int),qbX b list sorted m i1=some o1∧e=[(1,.slice p6 list.length k6),(2,.bool sorted),(3,.pointer (some ⟨bb1,0,none⟩)),(7,.int .i64 i1)]∧SH w w' [Ch.box bb1 (qal b p1 p2 p3 p4 p5 k1 k2 k3 k4 k5) 34]) n ⟨_,hF,rfl,h⟩ rfl ?_)
 rintro m1 e1 w2 ⟨i1,hF,rfl,h⟩
 rcases m1 with _|m1
 ·cases hF
 refine X0 8 rfl (qi rfl hF ?_ ?_)<;>intro hF
 ·refine X0 4 rfl (rD (zd2 rfl ?_))
  obtain ⟨y1,hy1,hF,he1,b1,_,q1,cs3,hp1,hq1,rfl,hc2⟩:=s6.ix hF
  refine zdxe hp1 hq1 he1 rfl (zdc 0 (hc2.below h.below) rfl (Y1 1 0 h rfl ?_))
  obtain ⟨r1,hr2,hF⟩:=qd hF
  refine qbR r1 (vsI _) (cB 70 rfl) (fun _ hb=>qfb ((h.ext hb).old ha1) hr2) rfl rfl rfl rfl (zd1 rfl ?_)
  obtain ⟨r2,hr3,hF⟩:=qd hF
  refine qbR r2 (vsB _) (cB 88 rfl) (fun _ hb=>qV  hr3) rfl rfl rfl rfl (zd2 rfl (qbx (t:=23) hF rfl ?_ ?_))<;>intro hF
  ·refine Y0 18 rfl (dN h fun w3 h=>qes rfl rfl (X0 4 rfl ?_))
   obtain rfl:=qb hF;replace hF:=hK1
   exact rb h hF rfl
  refine Y0 4 rfl (qbx (t:=25) hF rfl ?_ ?_)<;>intro hF
  ·refine Y0 8 rfl (qbx (t:=29) hF rfl ?_ ?_)<;>intro hF
   ·refine Y0 7 rfl ?_
    obtain ⟨y2,hy2,hF,he2,b2,_,q2,cs4,hp2,hq2,rfl,hc3⟩:=s6.ix hF
    refine zdxe hp2 hq2 he2 rfl (Y0 1 rfl (zdc 0 (hc3.below h.below) rfl (Y0 5 rfl ?_)))
    obtain ⟨y3,hy3,hF,he3,b3,_,q3,cs5,hp3,hq3,rfl,hc4⟩:=s6.ix hF
    refine zdxe hp3 hq3 he3 rfl (Y0 1 rfl (zdc 0 (hc4.below h.below) rfl (Y0 5 rfl (dN h fun w4 h=>qi rfl hF ?_ ?_))))<;>intro hF
    ·refine X0 4 rfl ?_
     obtain rfl:=qb hF;replace hF:=hK1
     exact rb h hF rfl
    exact X0 7 rfl (rK ⟨_,hF,rfl,h⟩ rfl)
   exact Y0 13 rfl (dN h fun w5 h=>qbK rfl rfl (X0 7 rfl (rK ⟨_,hF,rfl,h⟩ rfl)))
  exact Y0 19 rfl (dN h fun w6 h=>qbK rfl rfl (X0 7 rfl (rK ⟨_,hF,rfl,h⟩ rfl)))
 refine qm rfl ?_
 obtain rfl:=qb hF;replace hF:=hK1
 exact X0 7 rfl (rb h hF rfl)
def qgK (n:Nat) (b:qg) (a_e:qa):Option Bool :=
 (
  (qhz n b).bind fun r4 =>
  bif (!r4) then some true else
  (qfE n b a_e.Au true).bind fun r5 =>
  bif (!r5) then some true else
  (qfE n b a_e.Aq false).bind fun r6 =>
  bif (!r6) then some true else
  (qfE n b a_e.To true).bind fun r7 =>
  some (!r7)).bind fun b1 =>
 bif b1 then some false else
 bif (a_e.Ar==1) then some (a_e.Bb==0) else
 bif (a_e.Ar==2) then
  (qan n a_e.Bb 1 10).bind fun r1 =>
  some r1
 else
  bif (a_e.Ar==3) then
   bif (a_e.Ar==3) then
    (qan n a_e.Bb 0 1000000000).bind fun r2 =>
    some r2
   else
    some false
  else
   bif (a_e.Ar==4) then
    (qan n a_e.Bb 0 1000000000).bind fun r3 =>
    some r3
   else
    some false
theorem qmy {b:qg} {a_e:qa} (ha1:GoT.R w (old w) b cs1) (ha2:GoT.R w (old w) a_e cs2) {r:Bool} (hF:qgK n b a_e=some r):RetV Tryz.prog 87 [GoT.v qg cs1,GoT.v qa cs2] w r:=by
 obtain ⟨p1,k1,p2,k2,p3,k3,p4,k4,p5,k5,rfl,s1,s2,s3,s4,s5⟩:=qK ha1
 obtain ⟨p6,k6,p7,k7,p8,k8,rfl,s6,s7,s8⟩:=qq ha2
 refine zV 47 Tryz.func87 rfl fun h=>zSR (qu h rfl rfl fun w1 bb1 h=>qu h rfl rfl fun w2 bb2 h=>X0 4 rfl ?_)
 obtain ⟨KF1,hKF1,o1,hF,hK1⟩:=bindE hF
 refine qcB (fun e w'=>∃ (b1:Bool),KF1 b1=some r∧e=[(3,.pointer (some ⟨bb2,0,none⟩)),(28,.bool b1)]∧SH w w' [Ch.box bb2 (qgJ a_e p6 p7 p8 k6 k7 k8) 106]) ?_ ?_
 ·refine X1 2 1 h rfl (zcB h hF (qlt (h.old ha1)) rfl fun r4 w6 h hF=>zp2 rfl (ql (t:=8) hF rfl ?_ ?_))<;>intro hF
  ·refine X0 21 rfl ?_
   replace h:=h.pick [0] rfl
   obtain rfl:=qb hF
   exact rG ⟨_,hK1,rfl,h⟩ rfl
  refine X2 7 1 0 h rfl (zcB h hF (qhI (h.old ha1) ⟨_,_,rfl,(h.oldS s6)⟩) rfl fun r5 w7 h hF=>X0 4 rfl (ql (t:=15) hF rfl ?_ ?_))<;>intro hF
  ·refine X0 14 rfl ?_
   replace h:=h.pick [0] rfl
   obtain rfl:=qb hF
   exact rG ⟨_,hK1,rfl,h⟩ rfl
  refine X2 7 1 0 h rfl (zcB h hF (qhI (h.old ha1) ⟨_,_,rfl,(h.oldS s7)⟩) rfl fun r6 w8 h hF=>X0 4 rfl (ql (t:=22) hF rfl ?_ ?_))<;>intro hF
  ·refine X0 7 rfl ?_
   replace h:=h.pick [0] rfl
   obtain rfl:=qb hF
   exact rG ⟨_,hK1,rfl,h⟩ rfl
  refine X2 7 1 0 h rfl (zcB h hF (qhI (h.old ha1) ⟨_,_,rfl,(h.oldS s8)⟩) rfl fun r7 w9 h hF=>X0 4 rfl ?_)
  replace h:=h.pick [0] rfl
  obtain rfl:=qb hF
  exact rG ⟨_,hK1,rfl,h⟩ rfl
 rintro e1 w10 ⟨b1,hF,rfl,h⟩
 subst hKF1
 refine qi rfl hF ?_ ?_<;>intro hF
 ·exact X0 4 rfl (rb h hF rfl)
 refine X1 13 0 h rfl (qi rfl hF ?_ ?_)<;>intro hF
 ·exact X1 7 0 h rfl (rb h hF rfl)
 refine X0 5 rfl (qi rfl hF ?_ ?_)<;>intro hF
 ·exact X1 4 0 h rfl (zcB h hF qV rfl fun r1 w3 h hF=>X0 2 rfl (rb h hF rfl))
 refine X0 6 rfl (qi rfl hF ?_ ?_)<;>intro hF
 ·refine qhk (qi rfl hF ?_ ?_)<;>intro hF
  ·exact X1 4 0 h rfl (zcB h hF qV rfl fun r2 w4 h hF=>X0 2 rfl (rb h hF rfl))
  exact X0 6 rfl (rb h hF rfl)
 refine X0 4 rfl (qi rfl hF ?_ ?_)<;>intro hF
 ·exact X1 4 0 h rfl (zcB h hF qV rfl fun r3 w5 h hF=>X0 2 rfl (rb h hF rfl))
 exact X0 6 rfl (rb h hF rfl)
def qbk (_:Nat) (list:(List Tplace)):Option Int :=
 some (list.length:Int)
theorem qgS {list:(List Tplace)} (ha1:GoT.R w (old w) list cs1) {r:Int} (hF:qbk n list=some r):RetV Tryz.prog 82 [GoT.v (List Tplace) cs1] w r:=by
 obtain ⟨p1,k1,rfl,s1⟩:=ha1
 exact zV 5 Tryz.func82 rfl fun h=>X0 10 rfl (ri h hF rfl)
def qjg (n:Nat) (kind:Int) (value:Int):Option Bool :=
 bif (kind==1) then some (value==0) else
 bif (kind==2) then
  (qaE n value 1 10).bind fun r1 =>
  some r1
 else
  bif (kind==3) then
   bif (kind==3) then
    (qaE n value 0 1000000000).bind fun r2 =>
    some r2
   else
    some false
  else
   bif (kind==4) then
    (qaE n value 0 1000000000).bind fun r3 =>
    some r3
   else
    some false
theorem qou {kind:Int} {value:Int}  {r:Bool} (hF:qjg n kind value=some r):RetV Tryz.prog 139 [.int .i64 kind,.int .i64 value] w r:=by
 refine zV 19 Tryz.func139 rfl fun h=>X0 15 rfl (qi rfl hF ?_ ?_)<;>intro hF
 ·exact X0 6 rfl (rb h hF rfl)
 refine X0 5 rfl (qi rfl hF ?_ ?_)<;>intro hF
 ·exact X0 3 rfl (zcB h hF qar rfl fun r1 w1 h hF=>X0 2 rfl (rb h hF rfl))
 refine X0 6 rfl (qi rfl hF ?_ ?_)<;>intro hF
 ·refine qhk (qi rfl hF ?_ ?_)<;>intro hF
  ·exact X0 3 rfl (zcB h hF qar rfl fun r2 w2 h hF=>X0 2 rfl (rb h hF rfl))
  exact X0 6 rfl (rb h hF rfl)
 refine X0 4 rfl (qi rfl hF ?_ ?_)<;>intro hF
 ·exact X0 3 rfl (zcB h hF qar rfl fun r3 w3 h hF=>X0 2 rfl (rb h hF rfl))
 exact X0 6 rfl (rb h hF rfl)
def qaf (v:(Option Tview)) (a_e:qa):Nat→Int→Option (Flow Bool Int)
 | 0,_=>none
 | n+1,i1 =>
  bif decide (i1<((3:Nat):Int)) then
   (idx ([a_e.Au,a_e.Aq,a_e.To]:List (List Int)) i1).bind fun y1 =>
   bif decide ((y1.length:Int) > 4) then some (.ret false) else
   (v).bind fun y2 =>
   (qbk n y2.places).bind fun r1 =>
   (qbI n y1 0 (W64 (r1-1))).bind fun r2 =>
   bif (!r2) then some (.ret false) else
   qaf v a_e n (W64 (i1+1))
  else
   some (.nxt i1)
def qeu (n:Nat) (v:(Option Tview)) (a_e:qa):Option Bool :=
 (qaf v a_e n 0).bind fun o=>match o with
 | .ret r=>some r
 | .nxt _ =>
  (qjg n a_e.Ar a_e.Bb).bind fun r3 =>
  bif r3 then
   (qdq n a_e.Au).bind fun r4 =>
   bif r4 then
    (qdq n a_e.To).bind fun r5 =>
    some r5
   else
    some false
  else
   some false
theorem qkx {v:(Option Tview)} {a_e:qa} (ha1:GoT.R w (old w) v cs1) (ha2:GoT.R w (old w) a_e cs2) {r:Bool} (hF:qeu n v a_e=some r):RetV Tryz.prog 78 [GoT.v (Option Tview) cs1,GoT.v qa cs2] w r:=by
 obtain ⟨p1,rfl,s1⟩:=qfs ha1
 obtain ⟨p2,k1,p3,k2,p4,k3,rfl,s2,s3,s4⟩:=qq ha2
 refine zV 49 Tryz.func78 rfl fun h=>zSR (qu h rfl rfl fun w1 bb1 h=>X3 11 0 0 0 h rfl (qn8 qc [.tmp 8,.tmp 10,.tmp 12] _ ([a_e.Au,a_e.Aq,a_e.To]:List (List Int)) h rfl rfl rfl rfl rfl rfl rfl rfl rfl ⟨⟨_,_,rfl,s2⟩,⟨_,_,rfl,s3⟩,⟨_,_,rfl,s4⟩,trivial⟩ rfl fun w2 p5 S1 h=>X0 3 rfl ?_))
 obtain ⟨o1,hF,hK1⟩:=qd hF
 refine qk (rL (fun m e w'=>∃ (i1:Int),qaf v a_e m i1=some o1∧e=[(0,.pointer p1),(3,.pointer (some ⟨bb1,0,none⟩)),(13,.slice p5 3 3),(14,.int .i64 ((3:Nat):Int)),(15,.int .i64 i1)]∧SH w w' [Ch.rowD w S1 (([a_e.Au,a_e.Aq,a_e.To]:List (List Int)):List (List Int)) p5 3,Ch.box bb1 (qgJ a_e p2 p3 p4 k1 k2 k3) 106]) n ⟨_,hF,rfl,h⟩ rfl ?_)
 rintro m1 e1 w3 ⟨i1,hF,rfl,h⟩
 rcases m1 with _|m1
 ·cases hF
 refine X0 5 rfl (qi rfl hF ?_ ?_)<;>intro hF
 ·refine zKSBSR ?_
  obtain ⟨y1,hy1,hF⟩:=qd hF
  have he1:=qax hy1
  obtain ⟨b1,o_1,q1,cs3,hp1,hq1,-,hr1,hc2⟩:=h.atD 0 rfl hy1
  obtain ⟨p6,k4,rfl,s5⟩:=hr1
  refine zxe hp1 hq1 he1 rfl (zc 0 hc2 rfl (X0 8 rfl (ql (t:=22) hF rfl ?_ ?_)))<;>intro hF
  ·refine X0 11 rfl (qes rfl rfl (X0 4 rfl ?_))
   obtain rfl:=qb hF;replace hF:=hK1
   exact rb h hF rfl
  refine X0 5 rfl ?_
  obtain ⟨y2,hy2,hF⟩:=qd hF
  obtain ⟨b2,o_2,cs4,rfl,-,hr2,hc3⟩:=PtR.get s1 hy2
  obtain ⟨p7,k5,p8,k6,p9,k7,p10,k8,p11,k9,p12,k10,p13,k11,p14,k12,p15,k13,p16,k14,rfl,s6,s7,s8,s9,s10,s11,s12,s13,s14,s15⟩:=qir hr2
  refine X0 4 rfl (zc 5 (hc3.below h.below) rfl (X0 1 rfl (zcI h hF (qgS ⟨_,_,rfl,(h.oldS s11)⟩) rfl fun r1 w4 h hF=>X0 3 rfl (zcB h hF (qcC ⟨_,_,rfl,(h.oldS s5)⟩) rfl fun r2 w5 h hF=>X0 4 rfl (qi rfl hF ?_ ?_)))))<;>intro hF
  ·refine X0 4 rfl ?_
   obtain rfl:=qb hF;replace hF:=hK1
   exact rb h hF rfl
  exact X0 6 rfl (rK ⟨_,hF,rfl,h⟩ rfl)
 refine qm rfl ?_
 obtain rfl:=qb hF;replace hF:=hK1
 refine X2 6 1 1 h rfl (zcB h hF qou rfl fun r3 w6 h hF=>zp1 rfl (ql (t:=39) hF rfl ?_ ?_))<;>intro hF
 ·refine X1 5 1 h rfl (zcB h hF (qgp ⟨_,_,rfl,(h.oldS s2)⟩) rfl fun r4 w7 h hF=>zp2 rfl (ql (t:=44) hF rfl ?_ ?_))<;>intro hF
  ·exact X1 5 1 h rfl (zcB h hF (qgp ⟨_,_,rfl,(h.oldS s4)⟩) rfl fun r5 w8 h hF=>X0 3 rfl (rb h hF rfl))
  exact X0 6 rfl (rb h hF rfl)
 exact X0 11 rfl (rb h hF rfl)
def qe9 (n:Nat) (a:qa) (left:Int):Option Int :=
 (qa8 n a.Au left).bind fun r1 =>
 bif decide (r1<0) then some (-1) else
 (qa8 n a.Aq r1).bind fun r2 =>
 bif decide (r2<0) then some (-1) else
 (qa8 n a.To r2).bind fun r3 =>
 bif decide (r3<0) then some (-1) else
 some r3
theorem qmt {a:qa} {left:Int} (ha1:GoT.R w (old w) a cs1) {r:Int} (hF:qe9 n a left=some r):RetV Tryz.prog 52 [GoT.v qa cs1,.int .i64 left] w r:=by
 obtain ⟨p1,k1,p2,k2,p3,k3,rfl,s1,s2,s3⟩:=qq ha1
 refine zV 24 Tryz.func52 rfl fun h=>zSR (qu h rfl rfl fun w1 bb1 h=>X1 7 0 h rfl (zcI h hF (qaO ⟨_,_,rfl,(h.oldS s1)⟩) rfl fun r1 w2 h hF=>X0 8 rfl (qi rfl hF ?_ ?_)))<;>intro hF
 ·exact X0 4 rfl (ri h hF rfl)
 refine X1 6 0 h rfl (zcI h hF (qaO ⟨_,_,rfl,(h.oldS s2)⟩) rfl fun r2 w3 h hF=>X0 8 rfl (qi rfl hF ?_ ?_))<;>intro hF
 ·exact X0 4 rfl (ri h hF rfl)
 refine X1 6 0 h rfl (zcI h hF (qaO ⟨_,_,rfl,(h.oldS s3)⟩) rfl fun r3 w4 h hF=>X0 8 rfl (qi rfl hF ?_ ?_))<;>intro hF
 ·exact X0 4 rfl (ri h hF rfl)
 exact X0 6 rfl (ri h hF rfl)
def qcj (a:(List qa)):Nat→Int→Int→Option (Flow Int (Int × Int))
 | 0,_,_=>none
 | n+1,i1,i2 =>
  bif decide (i2<(a.length:Int)) then
   (idx a i2).bind fun y1 =>
   (qe9 n y1 i1).bind fun r1 =>
   bif decide (r1<0) then some (.ret (-1)) else
   qcj a n r1 (W64 (i2+1))
  else
   some (.nxt (i1,i2))
def qhT (n:Nat) (a:(List qa)) (left:Int):Option Int :=
 bif decide ((W64 (left-(a.length:Int)))<0) then some (-1) else
 (qcj a n (W64 (left-(a.length:Int))) 0).bind fun o=>match o with
 | .ret r=>some r
 | .nxt (i1,_) =>
  some i1
theorem qlX {a:(List qa)} {left:Int} (ha1:GoT.R w (old w) a cs1) {r:Int} (hF:qhT n a left=some r):RetV Tryz.prog 19 [GoT.v (List qa) cs1,.int .i64 left] w r:=by
 obtain ⟨p1,k1,rfl,s1⟩:=ha1
 refine zV 27 Tryz.func19 rfl fun h=>X0 18 rfl (qi rfl hF ?_ ?_)<;>intro hF
 ·exact X0 4 rfl (ri h hF rfl)
 refine X0 6 rfl ?_
 obtain ⟨o1,hF,hK1⟩:=qd hF
 refine qk (rL (fun m e w'=>∃ (i1:Int) (i2:Int),qcj a m i1 i2=some o1∧e=[(0,.slice p1 a.length k1),(1,.int .i64 i1),(5,.int .i64 i2)]∧SH w w' []) n ⟨_,_,hF,rfl,h⟩ rfl ?_)
 rintro m1 e1 w1 ⟨i1,i2,hF,rfl,h⟩
 rcases m1 with _|m1
 ·cases hF
 refine X0 8 rfl (qi rfl hF ?_ ?_)<;>intro hF
 ·refine X0 7 rfl ?_
  obtain ⟨y1,hy1,hF,he1,b1,_,q1,cs2,hp1,hq1,hr1,hc3⟩:=s1.ix hF
  obtain ⟨p2,k2,p3,k3,p4,k4,rfl,s2,s3,s4⟩:=qq hr1
  refine zxe hp1 hq1 he1 rfl (zc 0 (hc3.below h.below) rfl (zp1 rfl (zcI h hF (qmt (qav y1 (h.oldS s2) (h.oldS s3) (h.oldS s4))) rfl fun r1 w2 h hF=>X0 7 rfl (qi rfl hF ?_ ?_))))<;>intro hF
  ·refine X0 4 rfl ?_
   obtain rfl:=qb hF;replace hF:=hK1
   exact ri h hF rfl
  exact X0 7 rfl (rK ⟨_,_,hF,rfl,h⟩ rfl)
 refine qm rfl ?_
 obtain rfl:=qb hF;replace hF:=hK1
 exact X0 5 rfl (ri h hF rfl)
def qfn (n:Nat) (a:qa):Option qa :=
 (qaV n a.Au).bind fun r1 =>
 (qaV n a.Aq).bind fun r2 =>
 (qaV n a.To).bind fun r3 =>
 some (⟨a.Ar,a.Bb,r1,r2,r3⟩:qa)
theorem qmu {a:qa} (ha1:GoT.R w (old w) a cs1) {r:qa} (hF:qfn n a=some r):RetV Tryz.prog 56 [GoT.v qa cs1] w r:=by
 obtain ⟨p1,k1,p2,k2,p3,k3,rfl,s1,s2,s3⟩:=qq ha1
 refine zV 23 Tryz.func56 rfl fun h=>zSR (qu h rfl rfl fun w1 bb1 h=>qA qc h rfl rfl rfl fun w2 bb2 h=>zNSR (qA qc h rfl rfl rfl fun w3 bb3 h=>X1 6 2 h rfl (zs 0 h rfl fun w4 h=>X1 6 2 h rfl (zs 0 h rfl fun w5 h=>X1 5 2 h rfl (zcL h hF (qaN ⟨_,_,rfl,(h.oldS s1)⟩) rfl fun r1 w6 S1 p4 k4 h hF=>zp1 rfl (zs 1 h rfl fun w7 h=>X1 5 3 h rfl (zcL h hF (qaN ⟨_,_,rfl,(h.oldS s2)⟩) rfl fun r2 w8 S2 p5 k5 h hF=>zp1 rfl (zs 2 h rfl fun w9 h=>X1 5 4 h rfl (zcL h hF (qaN ⟨_,_,rfl,(h.oldS s3)⟩) rfl fun r3 w10 S3 p6 k6 h hF=>zp1 rfl (zs 3 h rfl fun w11 h=>X1 4 3 h rfl (zs 4 h rfl fun w12 h=>qcw ?_)))))))))))
 obtain rfl:=qb hF
 exact qak qc (ρ:=qa) [GoT.v qa [.int .i64 a.Ar,.int .i64 a.Bb,.slice p4 r1.length k4,.slice p5 r2.length k5,.slice p6 r3.length k6]] h ⟨⟨_,_,_,rfl,rfl,h.box 4 rfl,rfl⟩,trivial⟩ (PV.done h (qat (qmF (⟨a.Ar,a.Bb,r1,r2,r3⟩:qa) h (qy (S:=fun _=>False) rfl) (qy (S:=fun _=>False) rfl) (qay 2 h rfl) (qay 1 h rfl) (qay 0 h rfl) (by rfl) (by rfl) (by rfl) (by rfl))))
def qdi (a:(List qa)):Nat→(List qa)→Int→Option ((List qa) × Int)
 | 0,_,_=>none
 | n+1,x2,i1 =>
  bif decide (i1<(a.length:Int)) then
   (idx a i1).bind fun y1 =>
   (qfn n y1).bind fun r1 =>
   (idx x2 i1).bind fun _ =>
   qdi a n (setS x2 i1 r1) (W64 (i1+1))
  else
   some (x2,i1)
def qcv (n:Nat) (a:(List qa)):Option (List qa) :=
 (mkS (a.length:Int) ((⟨0,0,[],[],[]⟩:qa):qa)).bind fun x1 =>
 (qdi a n x1 0).bind fun o=>match o with
 | (x2,_) =>
  some x2
theorem qeS {a:(List qa)} (ha1:GoT.R w (old w) a cs1) {r:(List qa)} (hF:qcv n a=some r):RetV Tryz.prog 21 [GoT.v (List qa) cs1] w r:=by
 obtain ⟨p1,k1,rfl,s1⟩:=ha1
 refine zV 23 Tryz.func21 rfl fun h=>X0 8 rfl ?_
 obtain ⟨x1,hx1,hF⟩:=qd hF
 obtain ⟨g1,g2,hx1⟩:=qb3 hx1
 refine qc9 qc qa h rfl rfl rfl rfl rfl rfl rfl rfl rfl g1 g2 hx1 rfl fun w1 S1 p2 h=>X0 7 rfl ?_
 obtain ⟨o1,hF,hK1⟩:=qd hF
 refine qk (rL (fun m e w'=>∃ (S2:Nat→Prop) (x2:(List qa)) (i1:Int),qdi a m x2 i1=some o1∧e=[(0,.slice p1 a.length k1),(3,.slice p2 x1.length x1.length),(4,.int .i64 i1)]∧SH w w' [Ch.own S2 (x2:List qa) [.slice p2 x1.length x1.length]]) n ⟨_,_,_,hF,rfl,h⟩ rfl ?_)
 rintro m1 e1 w2 ⟨S2,x2,i1,hF,rfl,h⟩
 rcases m1 with _|m1
 ·cases hF
 refine X0 8 rfl (qi rfl hF ?_ ?_)<;>intro hF
 ·refine X0 8 rfl ?_
  obtain ⟨y1,hy1,hF,he1,b1,_,q1,cs2,hp1,hq1,hr1,hc2⟩:=s1.ix hF
  obtain ⟨p3,k2,p4,k3,p5,k4,rfl,s2,s3,s4⟩:=qq hr1
  refine zxe hp1 hq1 he1 rfl (zc 0 (hc2.below h.below) rfl (zcO h hF (qmu (qav y1 (h.oldS s2) (h.oldS s3) (h.oldS s4))) rfl fun r1 w3 S3 cs3 h hF=>?_))
  obtain ⟨p6,k5,p7,k6,p8,k7,rfl,-,-,-⟩:=qq (h.own 0 rfl)
  obtain ⟨y2,hy2,hF⟩:=qd hF
  have he2:=qax hy2
  replace h:=h.lrn0 1 rfl
  obtain ⟨b2,o_2,q2,cs4,hp2,hq2,-,hr3,hc3⟩:=(qib (h.lrnO 1 rfl)).1.at hy2
  have hr4:=hr3
  obtain ⟨p9,k8,p10,k9,p11,k10,rfl,s8,s9,s10⟩:=qq hr3
  replace h:=h.lrnAdd 1 rfl hr4
  refine zx hp2 hq2 ⟨he2.1,qx he2.2.1 (qib (h.lrnO 1 rfl)).2⟩ rfl ?_
  replace h:=h.unlrn 1 rfl
  exact qkB qc r1 h hy2 hp2 hq2 rfl rfl rfl rfl rfl fun w4 S4 h=>X0 7 rfl (rK ⟨_,_,_,hF,rfl,h⟩ rfl)
 refine qm rfl ?_
 obtain rfl:=qb hF;replace hF:=hK1
 refine X0 5 rfl ?_
 obtain rfl:=qb hF
 exact rO 0 h rfl ⟨rfl,trivial⟩
def qfr (n:Nat) (a:qa) (b:qa):Option Bool :=
 bif (a.Ar != b.Ar) then some false else
 bif (a.Bb != b.Bb) then some false else
 (qaD n a.Au b.Au).bind fun r1 =>
 bif (!r1) then some false else
 (qaD n a.Aq b.Aq).bind fun r2 =>
 bif (!r2) then some false else
 (qaD n a.To b.To).bind fun r3 =>
 bif (!r3) then some false else
 some true
theorem qmB {a:qa} {b:qa} (ha1:GoT.R w (old w) a cs1) (ha2:GoT.R w (old w) b cs2) {r:Bool} (hF:qfr n a b=some r):RetV Tryz.prog 61 [GoT.v qa cs1,GoT.v qa cs2] w r:=by
 obtain ⟨p1,k1,p2,k2,p3,k3,rfl,s1,s2,s3⟩:=qq ha1
 obtain ⟨p4,k4,p5,k5,p6,k6,rfl,s4,s5,s6⟩:=qq ha2
 refine zV 33 Tryz.func61 rfl fun h=>zSR (qu h rfl rfl fun w1 bb1 h=>qu h rfl rfl fun w2 bb2 h=>X2 11 1 0 h rfl (qi rfl hF ?_ ?_))<;>intro hF
 ·exact X0 4 rfl (rb h hF rfl)
 refine X2 10 1 0 h rfl (qi rfl hF ?_ ?_)<;>intro hF
 ·exact X0 4 rfl (rb h hF rfl)
 refine X2 8 1 0 h rfl (zcB h hF (qaG ⟨_,_,rfl,(h.oldS s1)⟩ ⟨_,_,rfl,(h.oldS s4)⟩) rfl fun r1 w3 h hF=>X0 2 rfl (qi rfl hF ?_ ?_))<;>intro hF
 ·exact X0 4 rfl (rb h hF rfl)
 refine X2 8 1 0 h rfl (zcB h hF (qaG ⟨_,_,rfl,(h.oldS s2)⟩ ⟨_,_,rfl,(h.oldS s5)⟩) rfl fun r2 w4 h hF=>X0 2 rfl (qi rfl hF ?_ ?_))<;>intro hF
 ·exact X0 4 rfl (rb h hF rfl)
 refine X2 8 1 0 h rfl (zcB h hF (qaG ⟨_,_,rfl,(h.oldS s3)⟩ ⟨_,_,rfl,(h.oldS s6)⟩) rfl fun r3 w5 h hF=>X0 2 rfl (qi rfl hF ?_ ?_))<;>intro hF
 ·exact X0 4 rfl (rb h hF rfl)
 exact X0 5 rfl (rb h hF rfl)
def qdh (a:(List qa)) (b:(List qa)):Nat→Int→Option (Flow Bool Int)
 | 0,_=>none
 | n+1,i1 =>
  bif decide (i1<(a.length:Int)) then
   (idx a i1).bind fun y1 =>
   (idx b i1).bind fun y2 =>
   (qfr n y1 y2).bind fun r1 =>
   bif (!r1) then some (.ret false) else
   qdh a b n (W64 (i1+1))
  else
   some (.nxt i1)
def qgi (n:Nat) (a:(List qa)) (b:(List qa)):Option Bool :=
 bif ((a.length:Int) != (b.length:Int)) then some false else
 (qdh a b n 0).bind fun o=>match o with
 | .ret r=>some r
 | .nxt _ =>
  some true
theorem qmc {a:(List qa)} {b:(List qa)} (ha1:GoT.R w (old w) a cs1) (ha2:GoT.R w (old w) b cs2) {r:Bool} (hF:qgi n a b=some r):RetV Tryz.prog 24 [GoT.v (List qa) cs1,GoT.v (List qa) cs2] w r:=by
 obtain ⟨p1,k1,rfl,s1⟩:=ha1
 obtain ⟨p2,k2,rfl,s2⟩:=ha2
 refine zV 27 Tryz.func24 rfl fun h=>X0 13 rfl (qi rfl hF ?_ ?_)<;>intro hF
 ·exact X0 4 rfl (rb h hF rfl)
 refine X0 6 rfl ?_
 obtain ⟨o1,hF,hK1⟩:=qd hF
 refine qk (rL (fun m e w'=>∃ (i1:Int),qdh a b m i1=some o1∧e=[(0,.slice p1 a.length k1),(1,.slice p2 b.length k2),(5,.int .i64 i1)]∧SH w w' []) n ⟨_,hF,rfl,h⟩ rfl ?_)
 rintro m1 e1 w1 ⟨i1,hF,rfl,h⟩
 rcases m1 with _|m1
 ·cases hF
 refine X0 8 rfl (qi rfl hF ?_ ?_)<;>intro hF
 ·refine X0 4 rfl (rD (zd2 rfl ?_))
  obtain ⟨y1,hy1,hF,he1,b1,_,q1,cs3,hp1,hq1,hr1,hc3⟩:=s1.ix hF
  obtain ⟨p3,k3,p4,k4,p5,k5,rfl,s3,s4,s5⟩:=qq hr1
  refine zdxe hp1 hq1 he1 rfl (zdc 0 (hc3.below h.below) rfl (zd2 rfl ?_))
  obtain ⟨y2,hy2,hF,he2,b2,_,q2,cs4,hp2,hq2,hr2,hc4⟩:=s2.ix hF
  obtain ⟨p6,k6,p7,k7,p8,k8,rfl,s6,s7,s8⟩:=qq hr2
  refine zdxe hp2 hq2 he2 rfl (zdc 0 (hc4.below h.below) rfl ?_)
  obtain ⟨r1,hr3,hF⟩:=qd hF
  refine qbR r1 (vsB _) (cB 61 rfl) (fun _ hb=>qmB (qav y1 ((h.ext hb).oldS s3) ((h.ext hb).oldS s4) ((h.ext hb).oldS s5)) (qav y2 ((h.ext hb).oldS s6) ((h.ext hb).oldS s7) ((h.ext hb).oldS s8)) hr3) rfl rfl rfl rfl (zd1 rfl (dN h fun w2 h=>qi rfl hF ?_ ?_))<;>intro hF
  ·refine X0 4 rfl ?_
   obtain rfl:=qb hF;replace hF:=hK1
   exact rb h hF rfl
  exact X0 7 rfl (rK ⟨_,hF,rfl,h⟩ rfl)
 refine qm rfl ?_
 obtain rfl:=qb hF;replace hF:=hK1
 exact X0 4 rfl (rb h hF rfl)
end Go.Fw


namespace Go.Fw
open Go Go.Proofs
open Go.RowKit (Below)
set_option maxRecDepth 100000
set_option maxHeartbeats 6400000
variable {n:Nat} {w:World} {cs1 cs2 cs3 cs4 cs5 cs6 cs7 cs8 cs9:List Value}
def qb1 (s:(List Int)) (v:Int):Nat→Int→Option (Flow Int Int)
 | 0,_=>none
 | n+1,i1 =>
  bif decide (i1<(s.length:Int)) then
   (idx s i1).bind fun y1 =>
   bif (v==y1) then some (.ret i1) else
   qb1 s v n (W64 (i1+1))
  else
   some (.nxt i1)
def qho (n:Nat) (s:(List Int)) (v:Int):Option Int :=
 (qb1 s v n 0).bind fun o=>match o with
 | .ret r=>some r
 | .nxt _ =>
  some (-1)
theorem qlw {s:(List Int)} {v:Int} (ha1:GoT.R w (old w) s cs1) {r:Int} (hF:qho n s v=some r):RetV Tryz.prog 143 [GoT.v (List Int) cs1,.int .i64 v] w r:=by
 obtain ⟨p1,k1,rfl,s1⟩:=ha1
 refine zV 19 Tryz.func143 rfl fun h=>X0 11 rfl ?_
 obtain ⟨o1,hF,hK1⟩:=qd hF
 refine qk (rL (fun m e w'=>∃ (i1:Int),qb1 s v m i1=some o1∧e=[(0,.slice p1 s.length k1),(1,.int .i64 v),(7,.int .i64 (s.length:Int)),(8,.int .i64 i1)]∧SH w w' []) n ⟨_,hF,rfl,h⟩ rfl ?_)
 rintro m1 e1 w1 ⟨i1,hF,rfl,h⟩
 rcases m1 with _|m1
 ·cases hF
 refine X0 5 rfl (qi rfl hF ?_ ?_)<;>intro hF
 ·refine X0 13 rfl ?_
  obtain ⟨y1,hy1,hF,he1,b1,_,q1,cs2,hp1,hq1,rfl,hc2⟩:=s1.ix hF
  refine zxe hp1 hq1 he1 rfl (zc 0 (hc2.below h.below) rfl (X0 2 rfl (qi rfl hF ?_ ?_)))<;>intro hF
  ·refine X0 5 rfl ?_
   obtain rfl:=qb hF;replace hF:=hK1
   exact ri h hF rfl
  exact X0 6 rfl (rK ⟨_,hF,rfl,h⟩ rfl)
 refine qm rfl ?_
 obtain rfl:=qb hF;replace hF:=hK1
 exact X0 4 rfl (ri h hF rfl)
def qcV (n:Nat) (s:(List Int)) (v:Int):Option Bool :=
 (qho n s v).bind fun r1 =>
 some (decide (r1 ≥ 0))
theorem qg5 {s:(List Int)} {v:Int} (ha1:GoT.R w (old w) s cs1) {r:Bool} (hF:qcV n s v=some r):RetV Tryz.prog 83 [GoT.v (List Int) cs1,.int .i64 v] w r:=by
 obtain ⟨p1,k1,rfl,s1⟩:=ha1
 exact zV 9 Tryz.func83 rfl fun h=>X0 8 rfl (zcI h hF (qlw ⟨_,_,rfl,(h.oldS s1)⟩) rfl fun r1 w1 h hF=>X0 3 rfl (rb h hF rfl))
def qbS (n:Nat) (a_e:qa) (found:Int) (place:Int):Option Int :=
 bif decide (found ≥ 0) then
  (qas n a_e.Aq).bind fun r1 =>
  bif decide (found<r1) then
   (idx a_e.Aq found).bind fun y1 =>
   bif (y1==place) then some (W64 (found+1)) else
   some found
  else
   some found
 else
  some found
theorem qdR {a_e:qa} {found:Int} {place:Int} (ha1:GoT.R w (old w) a_e cs1) {r:Int} (hF:qbS n a_e found place=some r):RetV Tryz.prog 86 [GoT.v qa cs1,.int .i64 found,.int .i64 place] w r:=by
 obtain ⟨p1,k1,p2,k2,p3,k3,rfl,s1,s2,s3⟩:=qq ha1
 refine zV 28 Tryz.func86 rfl fun h=>zSR (qu h rfl rfl fun w1 bb1 h=>X0 8 rfl (ql (t:=9) hF rfl ?_ ?_))<;>intro hF
 ·refine X1 7 0 h rfl (zcI h hF (qbb ⟨_,_,rfl,(h.oldS s2)⟩) rfl fun r1 w2 h hF=>X0 4 rfl (ql (t:=16) hF rfl ?_ ?_))<;>intro hF
  ·refine X1 7 0 h rfl ?_
   obtain ⟨y1,hy1,hF,he1,b1,_,q1,cs2,hp1,hq1,rfl,hc1⟩:=s2.ix hF
   refine zxe hp1 hq1 he1 rfl (X0 1 rfl (zc 0 (hc1.below h.below) rfl (X0 6 rfl (qi rfl hF ?_ ?_))))<;>intro hF
   ·exact X0 6 rfl (ri h hF rfl)
   exact X0 6 rfl (ri h hF rfl)
  exact X0 9 rfl (qbK rfl rfl (X0 6 rfl (ri h hF rfl)))
 exact X0 16 rfl (qbK rfl rfl (X0 6 rfl (ri h hF rfl)))
def qeI (n:Nat) (a_e:qa) (place:Int):Option Int :=
 bif decide ((a_e.Au.length:Int) > 0) then
  (qcV n a_e.Au place).bind fun r1 =>
  bif (!r1) then some (-1) else
  (qbS n a_e 0 place).bind fun r2 =>
  some r2
 else
  (qbS n a_e 0 place).bind fun r3 =>
  some r3
theorem qkK {a_e:qa} {place:Int} (ha1:GoT.R w (old w) a_e cs1) {r:Int} (hF:qeI n a_e place=some r):RetV Tryz.prog 85 [GoT.v qa cs1,.int .i64 place] w r:=by
 obtain ⟨p1,k1,p2,k2,p3,k3,rfl,s1,s2,s3⟩:=qq ha1
 refine zV 19 Tryz.func85 rfl fun h=>zSR (qu h rfl rfl fun w1 bb1 h=>X1 10 0 h rfl (ql (t:=9) hF rfl ?_ ?_))<;>intro hF
 ·refine X1 7 0 h rfl (zcB h hF (qg5 ⟨_,_,rfl,(h.oldS s1)⟩) rfl fun r1 w2 h hF=>X0 4 rfl (qi rfl hF ?_ ?_))<;>intro hF
  ·exact X0 4 rfl (ri h hF rfl)
  exact X1 5 0 h rfl (zcI h hF (qdR (h.old ha1)) rfl fun r2 w3 h hF=>X0 2 rfl (ri h hF rfl))
 exact X0 7 rfl (qbK rfl rfl (X1 5 0 h rfl (zcI h hF (qdR (h.old ha1)) rfl fun r3 w4 h hF=>X0 2 rfl (ri h hF rfl))))
def qe1 (y1:qa) (x2:(List Int)):Nat→Int→Int→Option (Int × Int)
 | 0,_,_=>none
 | n+1,i2,i3 =>
  bif decide (i3<(x2.length:Int)) then
   (idx x2 i3).bind fun y3 =>
   (qbS n y1 i2 y3).bind fun r2 =>
   qe1 y1 x2 n r2 (W64 (i3+1))
  else
   some (i2,i3)
def qeY (list:(List qa)) (path:(List Int)):Nat→(List Int)→Int→Option ((List Int) × Int)
 | 0,_,_=>none
 | n+1,x1,i1 =>
  bif decide (i1<(list.length:Int)) then
   (idx list i1).bind fun y1 =>
   (idx path 0).bind fun y2 =>
   (qeI n y1 y2).bind fun r1 =>
   (subS path 1 (path.length:Int)).bind fun x2 =>
   (qe1 y1 x2 n r1 0).bind fun o=>match o with
   | (i2,_) =>
    (appS x1 ([i2]:List Int)).bind fun x3 =>
    qeY list path n x3 (W64 (i1+1))
  else
   some (x1,i1)
def qio (n:Nat) (list:(List qa)) (path:(List Int)):Option (List Int) :=
 (qeY list path n ([]:List Int) 0).bind fun o=>match o with
 | (x1,_) =>
  some x1
theorem qpV {list:(List qa)} {path:(List Int)} (ha1:GoT.R w (old w) list cs1) (ha2:GoT.R w (old w) path cs2) {r:(List Int)} (hF:qio n list path=some r):RetV Tryz.prog 33 [GoT.v (List qa) cs1,GoT.v (List Int) cs2] w r:=by
 obtain ⟨p1,k1,rfl,s1⟩:=ha1
 obtain ⟨p2,k2,rfl,s2⟩:=ha2
 refine zV 40 Tryz.func33 rfl fun h=>X0 15 rfl ?_
 replace h:=h.nil (α:=Int)
 obtain ⟨o1,hF,hK1⟩:=qd hF
 refine qk (rL (fun m e w'=>∃ (S1:Nat→Prop) (p3:Option Addr) (ln1:Nat) (k3:Nat) (x1:(List Int)) (i1:Int),qeY list path m x1 i1=some o1∧e=[(1,.slice p2 path.length k2),(5,.slice p3 ln1 k3),(11,.slice p1 list.length k1),(12,.int .i64 (list.length:Int)),(13,.int .i64 i1)]∧SH w w' [Ch.own S1 (x1:List Int) [.slice p3 ln1 k3]]) n ⟨_,_,_,_,_,_,hF,rfl,h⟩ rfl ?_)
 rintro m1 e1 w1 ⟨S1,p3,ln1,k3,x1,i1,hF,rfl,h⟩
 obtain rfl:=(h.sl 0 rfl).2
 rcases m1 with _|m1
 ·cases hF
 refine X0 5 rfl (qi rfl hF ?_ ?_)<;>intro hF
 ·refine zKSBSR ?_
  obtain ⟨y1,hy1,hF,he1,b1,_,q1,cs3,hp1,hq1,hr1,hc2⟩:=s1.ix hF
  obtain ⟨p4,k4,p5,k5,p6,k6,rfl,s3,s4,s5⟩:=qq hr1
  refine zxe hp1 hq1 he1 rfl (zc 0 (hc2.below h.below) rfl (qA qc h rfl rfl rfl fun w2 bb1 h=>zs 0 h rfl fun w3 h=>zNS (rD (Y1 1 0 h rfl ?_))))
  refine zd1 rfl ?_
  obtain ⟨y2,hy2,hF,he2,b2,_,q2,cs4,hp2,hq2,rfl,hc3⟩:=s2.ix hF
  refine zdxe hp2 hq2 he2 rfl (zdc 0 (hc3.below h.below) rfl ?_)
  obtain ⟨r1,hr3,hF⟩:=qd hF
  refine qbR r1 (vsI _) (cB 85 rfl) (fun _ hb=>qkK (qav y1 ((h.ext hb).oldS s3) ((h.ext hb).oldS s4) ((h.ext hb).oldS s5)) hr3) rfl rfl rfl rfl (zd1 rfl (dN h fun w4 h=>X0 4 rfl ?_))
  obtain ⟨x2,hx1,hF⟩:=qd hF
  obtain ⟨p7,k7,hp3,hk1,hl1,g1⟩:=qsF (h.oldS s2) hx1
  refine r_v (qdI qc rfl rfl rfl (qsS g1 rfl) hp3 hk1 hl1 rfl rfl rfl rfl) rfl ?_
  have s6:=qs9 s2 hx1 hp3 hk1
  refine X0 3 rfl ?_
  obtain ⟨o2,hF,hK2⟩:=qd hF
  refine qk (rL (fun m e w'=>∃ (i2:Int) (i3:Int),qe1 y1 x2 m i2 i3=some o2∧e=[(1,.slice p2 path.length k2),(5,.slice p3 x1.length k3),(7,.pointer (some ⟨bb1,0,none⟩)),(8,.int .i64 i2),(11,.slice p1 list.length k1),(12,.int .i64 (list.length:Int)),(13,.int .i64 i1),(23,.slice p7 x2.length k7),(24,.int .i64 (x2.length:Int)),(25,.int .i64 i3)]∧SH w w' [Ch.box bb1 (qgJ y1 p4 p5 p6 k4 k5 k6) 106,Ch.own S1 (x1:List Int) [.slice p3 x1.length k3]]) m1 ⟨_,_,hF,rfl,h⟩ rfl ?_)
  rintro m2 e2 w5 ⟨i2,i3,hF,rfl,h⟩
  rcases m2 with _|m2
  ·cases hF
  refine X0 5 rfl (qi rfl hF ?_ ?_)<;>intro hF
  ·refine zKSBSR ?_
   obtain ⟨y3,hy3,hF,he3,b3,_,q3,cs5,hp4,hq3,rfl,hc5⟩:=s6.ix hF
   exact zxe hp4 hq3 he3 rfl (zc 0 (hc5.below h.below) rfl (X1 6 0 h rfl (zcI h hF (qdR (qav y1 (h.oldS s3) (h.oldS s4) (h.oldS s5))) rfl fun r2 w6 h hF=>X0 7 rfl (rK ⟨_,_,hF,rfl,h⟩ rfl))))
  refine qm rfl ?_
  obtain rfl:=qb hF;replace hF:=hK2
  refine X0 3 rfl (qG qc [.tmp 35] _ ([i2]:List Int) h rfl rfl rfl rfl rfl rfl rfl rfl rfl ⟨rfl,trivial⟩ rfl fun w7 p8 S2 h=>?_)
  obtain ⟨x3,hx2,hF⟩:=qd hF
  obtain ⟨g2,hx2⟩:=qae hx2
  refine qcg qc 2 h rfl (h.sl 0 rfl).1 (h.sl 0 rfl).2 rfl rfl rfl rfl rfl rfl rfl rfl rfl g2 hx2 rfl fun w8 p9 k8 S3 h=>X0 7 rfl ?_
  replace h:=h.pick [2] rfl
  exact rK ⟨_,_,_,_,_,_,hF,rfl,h⟩ rfl
 refine qm rfl ?_
 obtain rfl:=qb hF;replace hF:=hK1
 refine X0 5 rfl ?_
 obtain rfl:=qb hF
 exact rO 0 h rfl ⟨rfl,trivial⟩
def qdL (n:Nat) (a_e:qa) (found:Int) (a_end:Int):Option Bool :=
 (qas n a_e.Aq).bind fun r1 =>
 bif (found==r1) then
  bif ((a_e.To.length:Int)==0) then some true else
  (qcV n a_e.To a_end).bind fun r2 =>
  some r2
 else
  some false
theorem qj8 {a_e:qa} {found:Int} {a_end:Int} (ha1:GoT.R w (old w) a_e cs1) {r:Bool} (hF:qdL n a_e found a_end=some r):RetV Tryz.prog 92 [GoT.v qa cs1,.int .i64 found,.int .i64 a_end] w r:=by
 obtain ⟨p1,k1,p2,k2,p3,k3,rfl,s1,s2,s3⟩:=qq ha1
 refine zV 24 Tryz.func92 rfl fun h=>zSR (qu h rfl rfl fun w1 bb1 h=>X1 7 0 h rfl (zcI h hF (qbb ⟨_,_,rfl,(h.oldS s2)⟩) rfl fun r1 w2 h hF=>zp2 rfl (ql (t:=12) hF rfl ?_ ?_)))<;>intro hF
 ·refine X1 10 0 h rfl (ql (t:=17) hF rfl ?_ ?_)<;>intro hF
  ·exact X0 9 rfl (rb h hF rfl)
  exact X1 7 0 h rfl (zcB h hF (qg5 ⟨_,_,rfl,(h.oldS s3)⟩) rfl fun r2 w3 h hF=>X0 5 rfl (rb h hF rfl))
 exact X0 13 rfl (rb h hF rfl)
end Go.Fw


namespace Go.Fw
open Go Go.Proofs
open Go.RowKit (Below)
set_option maxRecDepth 100000
set_option maxHeartbeats 6400000
variable {n:Nat} {w:World} {cs1 cs2 cs3 cs4 cs5 cs6 cs7 cs8 cs9:List Value}
def qc3 (r2:(List Int)):Nat→(List Int)→Int→Option ((List Int) × Int)
 | 0,_,_=>none
 | n+1,x3,i2 =>
  bif decide (i2<(r2.length:Int)) then
   (idx r2 i2).bind fun y1 =>
   (idx x3 y1).bind fun y2 =>
   (idx x3 y1).bind fun _ =>
   qc3 r2 n (setS x3 y1 (W64 (y2+1))) (W64 (i2+1))
  else
   some (x3,i2)
def qbP (r3:(List Int)):Nat→(List Int)→(List Int)→Int→Option ((List Int) × (List Int) × Int)
 | 0,_,_,_=>none
 | n+1,x8,x9,i5 =>
  bif decide (i5<(r3.length:Int)) then
   (idx r3 i5).bind fun y6 =>
   (idx x9 y6).bind fun y7 =>
   (idx x9 y6).bind fun _ =>
   (idx (setS x9 y6 (W64 (y7-1))) y6).bind fun y9 =>
   bif (y9==0) then
    (appS x8 ([y6]:List Int)).bind fun x10 =>
    qbP r3 n x10 (setS x9 y6 (W64 (y7-1))) (W64 (i5+1))
   else
    qbP r3 n x8 (setS x9 y6 (W64 (y7-1))) (W64 (i5+1))
  else
   some (x8,x9,i5)
def qc7 (a_0:qg):Nat→(List Int)→(List Int)→Int→Option ((List Int) × (List Int) × Int)
 | 0,_,_,_=>none
 | n+1,x6,x7,i4 =>
  bif decide (i4<(x6.length:Int)) then
   (idx x6 i4).bind fun y5 =>
   (qga n a_0 y5).bind fun r3 =>
   (qbP r3 n x6 x7 0).bind fun o=>match o with
   | (x8,x9,_) =>
    qc7 a_0 n x8 x9 (W64 (i4+1))
  else
   some (x6,x7,i4)
def qco (r1:Int) (x2:(List Int)):Nat→(List Int)→Int→Option ((List Int) × Int)
 | 0,_,_=>none
 | n+1,x4,i3 =>
  bif decide (i3<r1) then
   (idx x2 i3).bind fun y4 =>
   bif (y4==0) then
    (appS x4 ([i3]:List Int)).bind fun x5 =>
    qco r1 x2 n x5 (W64 (i3+1))
   else
    qco r1 x2 n x4 (W64 (i3+1))
  else
   some (x4,i3)
def qc6 (a_0:qg) (r1:Int):Nat→(List Int)→Int→Option ((List Int) × Int)
 | 0,_,_=>none
 | n+1,x2,i1 =>
  bif decide (i1<r1) then
   (qga n a_0 i1).bind fun r2 =>
   (qc3 r2 n x2 0).bind fun o=>match o with
   | (x3,_) =>
    qc6 a_0 r1 n x3 (W64 (i1+1))
  else
   some (x2,i1)
def qiy (n:Nat) (a_0:qg):Option ((List Int) × Bool) :=
 (qbJ n a_0).bind fun r1 =>
 (mkS r1 (0:Int)).bind fun x1 =>
 (qc6 a_0 r1 n x1 0).bind fun o=>match o with
 | (x2,_) =>
  (qco r1 x2 n ([]:List Int) 0).bind fun o=>match o with
  | (x4,_) =>
   (qc7 a_0 n x4 x2 0).bind fun o=>match o with
   | (x6,_,_) =>
    some (x6,((x6.length:Int)==r1))
theorem qoe {a_0:qg} (ha1:GoT.R w (old w) a_0 cs1) {r:((List Int) × Bool)} (hF:qiy n a_0=some r):RetV Tryz.prog 45 [GoT.v qg cs1] w r:=by
 obtain ⟨p1,k1,p2,k2,p3,k3,p4,k4,p5,k5,rfl,s1,s2,s3,s4,s5⟩:=qK ha1
 refine zV 101 Tryz.func45 rfl fun h=>zSR (qu h rfl rfl fun w1 bb1 h=>X1 6 0 h rfl (zcI h hF (qfb (h.old ha1)) rfl fun r1 w2 h hF=>X0 5 rfl ?_))
 obtain ⟨x1,hx1,hF⟩:=qd hF
 obtain ⟨g1,g2,hx1⟩:=qb3 hx1
 refine qc9 qc Int h rfl rfl rfl rfl rfl rfl rfl rfl rfl g1 g2 hx1 rfl fun w3 S1 p6 h=>X0 7 rfl ?_
 obtain ⟨o1,hF,hK1⟩:=qd hF
 refine qk (rL (fun m e w'=>∃ (x2:(List Int)) (i1:Int),qc6 a_0 r1 m x2 i1=some o1∧e=[(1,.pointer (some ⟨bb1,0,none⟩)),(4,.int .i64 r1),(5,.slice p6 x1.length x1.length),(6,.int .i64 i1)]∧SH w w' [Ch.own S1 (x2:List Int) [.slice p6 x1.length x1.length],Ch.box bb1 (qal a_0 p1 p2 p3 p4 p5 k1 k2 k3 k4 k5) 34]) n ⟨_,_,hF,rfl,h⟩ rfl ?_)
 rintro m1 e1 w4 ⟨x2,i1,hF,rfl,h⟩
 rcases m1 with _|m1
 ·cases hF
 refine X0 7 rfl (qi rfl hF ?_ ?_)<;>intro hF
 ·refine X1 7 1 h rfl (zcL h hF (qie (h.old ha1)) rfl fun r2 w5 S2 p7 k6 h hF=>X0 6 rfl ?_)
  obtain ⟨o2,hF,hK2⟩:=qd hF
  refine qk (rL (fun m e w'=>∃ (x3:(List Int)) (i2:Int),qc3 r2 m x3 i2=some o2∧e=[(1,.pointer (some ⟨bb1,0,none⟩)),(4,.int .i64 r1),(5,.slice p6 x1.length x1.length),(6,.int .i64 i1),(7,.slice p7 r2.length k6),(8,.int .i64 i2)]∧SH w w' [Ch.own S2 (r2:List Int) [.slice p7 r2.length k6],Ch.own S1 (x3:List Int) [.slice p6 x1.length x1.length],Ch.box bb1 (qal a_0 p1 p2 p3 p4 p5 k1 k2 k3 k4 k5) 34]) m1 ⟨_,_,hF,rfl,h⟩ rfl ?_)
  rintro m2 e2 w6 ⟨x3,i2,hF,rfl,h⟩
  rcases m2 with _|m2
  ·cases hF
  refine X0 8 rfl (qi rfl hF ?_ ?_)<;>intro hF
  ·refine X0 7 rfl ?_
   obtain ⟨y1,hy1,hF,he1,b1,_,q1,cs2,hp1,hq1,rfl,hc3⟩:=(h.sl 0 rfl).1.ix hF
   refine zx hp1 hq1 ⟨he1.1,qx he1.2.1 (h.sl 0 rfl).2⟩ rfl (zc 0 hc3 rfl (X0 5 rfl ?_))
   obtain ⟨y2,hy2,hF,he2,b2,_,q2,cs3,hp2,hq2,rfl,hc4⟩:=(h.sl 1 rfl).1.ix hF
   refine zx hp2 hq2 ⟨he2.1,qx he2.2.1 (h.sl 1 rfl).2⟩ rfl (zc 0 hc4 rfl (zp1 rfl ?_))
   obtain ⟨y3,hy3,hF,he3,b3,_,q3,cs4,hp3,hq3,rfl,hc5⟩:=(h.sl 1 rfl).1.ix hF
   exact zx hp3 hq3 ⟨he3.1,qx he3.2.1 (h.sl 1 rfl).2⟩ rfl (qaX qc 1 0 (W64 (y2+1)) h rfl hy3 hp3 hq3 rfl hc5 rfl rfl rfl rfl rfl rfl rfl fun w7 h=>X0 7 rfl (rK ⟨_,_,hF,rfl,h⟩ rfl))
  refine qm rfl ?_
  obtain rfl:=qb hF;replace hF:=hK2
  refine X0 6 rfl ?_
  replace h:=h.pick [1,2] rfl
  exact rK ⟨_,_,hF,rfl,h⟩ rfl
 refine qm rfl ?_
 obtain rfl:=qb hF;replace hF:=hK1
 refine zSR (qG qc [] _ ([]:List Int) h rfl rfl rfl rfl rfl rfl rfl rfl rfl trivial rfl fun w8 p8 S3 h=>X0 7 rfl ?_)
 obtain ⟨o3,hF,hK3⟩:=qd hF
 refine qk (rL (fun m e w'=>∃ (S4:Nat→Prop) (p9:Option Addr) (ln1:Nat) (k7:Nat) (x4:(List Int)) (i3:Int),qco r1 x2 m x4 i3=some o3∧e=[(1,.pointer (some ⟨bb1,0,none⟩)),(4,.int .i64 r1),(5,.slice p6 x1.length x1.length),(10,.slice p9 ln1 k7),(11,.int .i64 i3)]∧SH w w' [Ch.own S4 (x4:List Int) [.slice p9 ln1 k7],Ch.own S1 (x2:List Int) [.slice p6 x1.length x1.length],Ch.box bb1 (qal a_0 p1 p2 p3 p4 p5 k1 k2 k3 k4 k5) 34]) n ⟨_,_,_,_,_,_,hF,rfl,h⟩ rfl ?_)
 rintro m3 e3 w9 ⟨S4,p9,ln1,k7,x4,i3,hF,rfl,h⟩
 obtain rfl:=(h.sl 0 rfl).2
 rcases m3 with _|m3
 ·cases hF
 refine X0 7 rfl (qi rfl hF ?_ ?_)<;>intro hF
 ·refine X0 7 rfl ?_
  obtain ⟨y4,hy4,hF,he4,b4,_,q4,cs5,hp4,hq4,rfl,hc7⟩:=(h.sl 1 rfl).1.ix hF
  refine zx hp4 hq4 ⟨he4.1,qx he4.2.1 (h.sl 1 rfl).2⟩ rfl (zc 0 hc7 rfl (X0 2 rfl (qi rfl hF ?_ ?_)))<;>intro hF
  ·refine X0 3 rfl (qG qc [.tmp 56] _ ([i3]:List Int) h rfl rfl rfl rfl rfl rfl rfl rfl rfl ⟨rfl,trivial⟩ rfl fun w10 p10 S5 h=>?_)
   obtain ⟨x5,hx2,hF⟩:=qd hF
   obtain ⟨g3,hx2⟩:=qae hx2
   refine qcg qc 1 h rfl (h.sl 0 rfl).1 (h.sl 0 rfl).2 rfl rfl rfl rfl rfl rfl rfl rfl rfl g3 hx2 rfl fun w11 p11 k8 S6 h=>X0 8 rfl ?_
   replace h:=h.pick [1,2,3] rfl
   exact rK ⟨_,_,_,_,_,_,hF,rfl,h⟩ rfl
  exact X0 7 rfl (rK ⟨_,_,_,_,_,_,hF,rfl,h⟩ rfl)
 refine qm rfl ?_
 obtain rfl:=qb hF;replace hF:=hK3
 refine X0 5 rfl ?_
 obtain ⟨o4,hF,hK4⟩:=qd hF
 refine qk (rL (fun m e w'=>∃ (S7:Nat→Prop) (p12:Option Addr) (ln2:Nat) (k9:Nat) (x6:(List Int)) (x7:(List Int)) (i4:Int),qc7 a_0 m x6 x7 i4=some o4∧e=[(1,.pointer (some ⟨bb1,0,none⟩)),(4,.int .i64 r1),(5,.slice p6 x1.length x1.length),(10,.slice p12 ln2 k9),(12,.int .i64 i4)]∧SH w w' [Ch.own S7 (x6:List Int) [.slice p12 ln2 k9],Ch.own S1 (x7:List Int) [.slice p6 x1.length x1.length],Ch.box bb1 (qal a_0 p1 p2 p3 p4 p5 k1 k2 k3 k4 k5) 34]) n ⟨_,_,_,_,_,_,_,hF,rfl,h⟩ rfl ?_)
 rintro m4 e4 w12 ⟨S7,p12,ln2,k9,x6,x7,i4,hF,rfl,h⟩
 obtain rfl:=(h.sl 0 rfl).2
 rcases m4 with _|m4
 ·cases hF
 refine X0 8 rfl (qi rfl hF ?_ ?_)<;>intro hF
 ·refine X0 4 rfl (rA [] [0,2] h rfl fun w13 h=>M1 7 [0,1,2] 1 (h.pick [0,2] rfl) rfl ?_)
  obtain ⟨y5,hy5,hF,he5,b5,_,q5,cs6,hp5,hq5,rfl,hc10⟩:=(h.sl 0 rfl).1.ix hF
  refine Ax 3 15 hp5 hq5 ⟨he5.1,qx he5.2.1 (h.sl 0 rfl).2⟩ (h.pick [0,2] rfl) rfl (Aw 4 31 (fun w' hw=>qim qc (qcJ (w1:=w) (S1:=fun _=>False) hw 0 rfl hy5 hp5 hq5 rfl) (j:=0) rfl rfl rfl) (h.pick [0,2] rfl) rfl ?_)
  refine Ao 5 63 rfl (zcL h hF (qie (h.old ha1)) rfl fun r3 w14 S8 p13 k10 h hF=>G0 127 [6] (h.pick [1,3] rfl) rfl (Ad (X0 4 rfl ?_)))
  obtain ⟨o5,hF,hK5⟩:=qd hF
  refine qk (rL (fun m e w'=>∃ (S9:Nat→Prop) (p14:Option Addr) (ln3:Nat) (k11:Nat) (x8:(List Int)) (x9:(List Int)) (i5:Int),qbP r3 m x8 x9 i5=some o5∧e=[(1,.pointer (some ⟨bb1,0,none⟩)),(4,.int .i64 r1),(5,.slice p6 x1.length x1.length),(10,.slice p14 ln3 k11),(12,.int .i64 i4),(13,.slice p13 r3.length k10),(14,.int .i64 i5)]∧SH w w' [Ch.own S8 (r3:List Int) [.slice p13 r3.length k10],Ch.own S9 (x8:List Int) [.slice p14 ln3 k11],Ch.own S1 (x9:List Int) [.slice p6 x1.length x1.length],Ch.box bb1 (qal a_0 p1 p2 p3 p4 p5 k1 k2 k3 k4 k5) 34]) m4 ⟨_,_,_,_,_,_,_,hF,rfl,h⟩ rfl ?_)
  rintro m5 e5 w15 ⟨S9,p14,ln3,k11,x8,x9,i5,hF,rfl,h⟩
  obtain rfl:=(h.sl 1 rfl).2
  rcases m5 with _|m5
  ·cases hF
  refine X0 8 rfl (qi rfl hF ?_ ?_)<;>intro hF
  ·refine X0 7 rfl ?_
   obtain ⟨y6,hy6,hF,he6,b6,_,q6,cs7,hp6,hq6,rfl,hc12⟩:=(h.sl 0 rfl).1.ix hF
   refine zx hp6 hq6 ⟨he6.1,qx he6.2.1 (h.sl 0 rfl).2⟩ rfl (zc 0 hc12 rfl (X0 6 rfl ?_))
   obtain ⟨y7,hy7,hF,he7,b7,_,q7,cs8,hp7,hq7,rfl,hc13⟩:=(h.sl 2 rfl).1.ix hF
   refine zx hp7 hq7 ⟨he7.1,qx he7.2.1 (h.sl 2 rfl).2⟩ rfl (zc 0 hc13 rfl (zp1 rfl ?_))
   obtain ⟨y8,hy8,hF,he8,b8,_,q8,cs9,hp8,hq8,rfl,hc14⟩:=(h.sl 2 rfl).1.ix hF
   refine zx hp8 hq8 ⟨he8.1,qx he8.2.1 (h.sl 2 rfl).2⟩ rfl (qaX qc 2 0 (W64 (y7-1)) h rfl hy8 hp8 hq8 rfl hc14 rfl rfl rfl rfl rfl rfl rfl fun w16 h=>X0 5 rfl ?_)
   obtain ⟨y9,hy9,hF,he9,b9,_,q9,cs10,hp9,hq9,rfl,hc15⟩:=(h.sl 2 rfl).1.ix hF
   refine zx hp9 hq9 ⟨he9.1,qx he9.2.1 (h.sl 2 rfl).2⟩ rfl (zc 0 hc15 rfl (X0 2 rfl (qi rfl hF ?_ ?_)))<;>intro hF
   ·refine X0 3 rfl (qG qc [.tmp 93] _ ([y6]:List Int) h rfl rfl rfl rfl rfl rfl rfl rfl rfl ⟨rfl,trivial⟩ rfl fun w17 p15 S10 h=>?_)
    obtain ⟨x10,hx3,hF⟩:=qd hF
    obtain ⟨g4,hx3⟩:=qae hx3
    refine qcg qc 2 h rfl (h.sl 0 rfl).1 (h.sl 0 rfl).2 rfl rfl rfl rfl rfl rfl rfl rfl rfl g4 hx3 rfl fun w18 p16 k12 S11 h=>X0 8 rfl ?_
    replace h:=h.pick [1,2,3,4] rfl
    exact rK ⟨_,_,_,_,_,_,_,hF,rfl,h⟩ rfl
   exact X0 7 rfl (rK ⟨_,_,_,_,_,_,_,hF,rfl,h⟩ rfl)
  refine qm rfl ?_
  obtain rfl:=qb hF;replace hF:=hK5
  refine X0 6 rfl ?_
  replace h:=h.pick [1,2,3] rfl
  exact rK ⟨_,_,_,_,_,_,_,hF,rfl,h⟩ rfl
 refine qm rfl ?_
 obtain rfl:=qb hF;replace hF:=hK4
 refine X0 10 rfl ?_
 obtain rfl:=qb hF
 exact qak qc (ρ:=((List Int) × Bool)) [GoT.v (List Int) [.slice p12 x6.length k9],GoT.v Bool [.bool ((x6.length:Int)==r1)]] h ⟨rfl,rfl,trivial⟩ (PV.done h (qbn h (qay 0 h rfl) (qat (qy (S:=fun _=>False) rfl)) (by rfl)))
def qcK (s:(List Int)) (v:Int):Nat→Int→Option (Flow Int Int)
 | 0,_=>none
 | n+1,i1 =>
  bif decide (i1<(s.length:Int)) then
   (idx s i1).bind fun y1 =>
   bif (v==y1) then some (.ret i1) else
   qcK s v n (W64 (i1+1))
  else
   some (.nxt i1)
def qgC (n:Nat) (s:(List Int)) (v:Int):Option Int :=
 (qcK s v n 0).bind fun o=>match o with
 | .ret r=>some r
 | .nxt _ =>
  some (-1)
theorem qmz {s:(List Int)} {v:Int} (ha1:GoT.R w (old w) s cs1) {r:Int} (hF:qgC n s v=some r):RetV Tryz.prog 159 [GoT.v (List Int) cs1,.int .i64 v] w r:=by
 obtain ⟨p1,k1,rfl,s1⟩:=ha1
 refine zV 19 Tryz.func159 rfl fun h=>X0 11 rfl ?_
 obtain ⟨o1,hF,hK1⟩:=qd hF
 refine qk (rL (fun m e w'=>∃ (i1:Int),qcK s v m i1=some o1∧e=[(0,.slice p1 s.length k1),(1,.int .i64 v),(7,.int .i64 (s.length:Int)),(8,.int .i64 i1)]∧SH w w' []) n ⟨_,hF,rfl,h⟩ rfl ?_)
 rintro m1 e1 w1 ⟨i1,hF,rfl,h⟩
 rcases m1 with _|m1
 ·cases hF
 refine X0 5 rfl (qi rfl hF ?_ ?_)<;>intro hF
 ·refine X0 13 rfl ?_
  obtain ⟨y1,hy1,hF,he1,b1,_,q1,cs2,hp1,hq1,rfl,hc2⟩:=s1.ix hF
  refine zxe hp1 hq1 he1 rfl (zc 0 (hc2.below h.below) rfl (X0 2 rfl (qi rfl hF ?_ ?_)))<;>intro hF
  ·refine X0 5 rfl ?_
   obtain rfl:=qb hF;replace hF:=hK1
   exact ri h hF rfl
  exact X0 6 rfl (rK ⟨_,hF,rfl,h⟩ rfl)
 refine qm rfl ?_
 obtain rfl:=qb hF;replace hF:=hK1
 exact X0 4 rfl (ri h hF rfl)
def qbg (r1:(List Int)):Nat→(List Int)→Int→Option ((List Int) × Int)
 | 0,_,_=>none
 | n+1,x3,i2 =>
  bif decide (i2<(r1.length:Int)) then
   (idx r1 i2).bind fun y2 =>
   (idx x3 y2).bind fun y3 =>
   (idx x3 y2).bind fun _ =>
   qbg r1 n (setS x3 y2 (W64 (y3+1))) (W64 (i2+1))
  else
   some (x3,i2)
def qbi (r3:(List Int)):Nat→(List Int)→Int→Option ((List Int) × Int)
 | 0,_,_=>none
 | n+1,x7,i4 =>
  bif decide (i4<(r3.length:Int)) then
   (idx r3 i4).bind fun y6 =>
   (idx x7 y6).bind fun y7 =>
   (idx x7 y6).bind fun _ =>
   qbi r3 n (setS x7 y6 (W64 (y7-1))) (W64 (i4+1))
  else
   some (x7,i4)
def qaB (a_0:(Option Tview)) (x1:(List Int)):Nat→(List Int)→(List Int)→Int→Option (Flow ((List Int) × Bool) ((List Int) × (List Int) × Int))
 | 0,_,_,_=>none
 | n+1,x4,x5,i3 =>
  bif decide (i3<(x1.length:Int)) then
   (qgC n x5 0).bind fun r2 =>
   bif decide (r2<0) then some (.ret ([],false)) else
   (idx x5 r2).bind fun _ =>
   (appS x4 ([r2]:List Int)).bind fun x6 =>
   (qbH n a_0 r2).bind fun r3 =>
   (qbi r3 n (setS x5 r2 (-1)) 0).bind fun o=>match o with
   | (x7,_) =>
    qaB a_0 x1 n x6 x7 (W64 (i3+1))
  else
   some (.nxt (x4,x5,i3))
def qbj (a_0:(Option Tview)) (y1:Tview):Nat→(List Int)→Int→Option ((List Int) × Int)
 | 0,_,_=>none
 | n+1,x2,i1 =>
  bif decide (i1<(y1.places.length:Int)) then
   (qbH n a_0 i1).bind fun r1 =>
   (qbg r1 n x2 0).bind fun o=>match o with
   | (x3,_) =>
    qbj a_0 y1 n x3 (W64 (i1+1))
  else
   some (x2,i1)
def qdK (n:Nat) (a_0:(Option Tview)):Option ((List Int) × Bool) :=
 (a_0).bind fun y1 =>
 (mkS (y1.places.length:Int) (0:Int)).bind fun x1 =>
 (qbj a_0 y1 n x1 0).bind fun o=>match o with
 | (x2,_) =>
  (qaB a_0 x1 n ([]:List Int) x2 0).bind fun o=>match o with
  | .ret r=>some r
  | .nxt (x4,_,_) =>
   some (x4,true)
theorem qlr {a_0:(Option Tview)} (ha1:GoT.R w (old w) a_0 cs1) {r:((List Int) × Bool)} (hF:qdK n a_0=some r):RetV Tryz.prog 100 [GoT.v (Option Tview) cs1] w r:=by
 obtain ⟨p1,rfl,s1⟩:=qfs ha1
 refine zV 74 Tryz.func100 rfl fun h=>X0 8 rfl ?_
 obtain ⟨y1,hy1,hF⟩:=qd hF
 obtain ⟨b1,o_1,cs2,rfl,-,hr1,hc1⟩:=PtR.get s1 hy1
 obtain ⟨p2,k1,p3,k2,p4,k3,p5,k4,p6,k5,p7,k6,p8,k7,p9,k8,p10,k9,p11,k10,rfl,s2,s3,s4,s5,s6,s7,s8,s9,s10,s11⟩:=qir hr1
 refine zp2 rfl (zc 5 (hc1.below h.below) rfl (zp1 rfl ?_))
 obtain ⟨x1,hx1,hF⟩:=qd hF
 obtain ⟨g1,g2,hx1⟩:=qb3 hx1
 refine qc9 qc Int h rfl rfl rfl rfl rfl rfl rfl rfl rfl g1 g2 hx1 rfl fun w1 S1 p12 h=>X0 8 rfl (zc 5 (hc1.below h.below) rfl (X0 3 rfl ?_))
 obtain ⟨o1,hF,hK1⟩:=qd hF
 refine qk (rL (fun m e w'=>∃ (x2:(List Int)) (i1:Int),qbj a_0 y1 m x2 i1=some o1∧e=[(0,.pointer (some ⟨b1,o_1,none⟩)),(4,.slice p12 x1.length x1.length),(22,.int .i64 (y1.places.length:Int)),(23,.int .i64 i1)]∧SH w w' [Ch.own S1 (x2:List Int) [.slice p12 x1.length x1.length]]) n ⟨_,_,hF,rfl,h⟩ rfl ?_)
 rintro m1 e1 w2 ⟨x2,i1,hF,rfl,h⟩
 rcases m1 with _|m1
 ·cases hF
 refine X0 5 rfl (qi rfl hF ?_ ?_)<;>intro hF
 ·refine X0 12 rfl (zcL h hF (qfe (h.old s1)) rfl fun r1 w3 S2 p13 k11 h hF=>X0 3 rfl ?_)
  obtain ⟨o2,hF,hK2⟩:=qd hF
  refine qk (rL (fun m e w'=>∃ (x3:(List Int)) (i2:Int),qbg r1 m x3 i2=some o2∧e=[(0,.pointer (some ⟨b1,o_1,none⟩)),(4,.slice p12 x1.length x1.length),(22,.int .i64 (y1.places.length:Int)),(23,.int .i64 i1),(28,.slice p13 r1.length k11),(29,.int .i64 (r1.length:Int)),(30,.int .i64 i2)]∧SH w w' [Ch.own S2 (r1:List Int) [.slice p13 r1.length k11],Ch.own S1 (x3:List Int) [.slice p12 x1.length x1.length]]) m1 ⟨_,_,hF,rfl,h⟩ rfl ?_)
  rintro m2 e2 w4 ⟨x3,i2,hF,rfl,h⟩
  rcases m2 with _|m2
  ·cases hF
  refine X0 5 rfl (qi rfl hF ?_ ?_)<;>intro hF
  ·refine zKSBSR ?_
   obtain ⟨y2,hy2,hF,he1,b2,_,q1,cs3,hp1,hq1,rfl,hc4⟩:=(h.sl 0 rfl).1.ix hF
   refine zx hp1 hq1 ⟨he1.1,qx he1.2.1 (h.sl 0 rfl).2⟩ rfl (zc 0 hc4 rfl (X0 5 rfl ?_))
   obtain ⟨y3,hy3,hF,he2,b3,_,q2,cs4,hp2,hq2,rfl,hc5⟩:=(h.sl 1 rfl).1.ix hF
   refine zx hp2 hq2 ⟨he2.1,qx he2.2.1 (h.sl 1 rfl).2⟩ rfl (zc 0 hc5 rfl (zp1 rfl ?_))
   obtain ⟨y4,hy4,hF,he3,b4,_,q3,cs5,hp3,hq3,rfl,hc6⟩:=(h.sl 1 rfl).1.ix hF
   exact zx hp3 hq3 ⟨he3.1,qx he3.2.1 (h.sl 1 rfl).2⟩ rfl (qaX qc 1 0 (W64 (y3+1)) h rfl hy4 hp3 hq3 rfl hc6 rfl rfl rfl rfl rfl rfl rfl fun w5 h=>X0 6 rfl (rK ⟨_,_,hF,rfl,h⟩ rfl))
  refine qm rfl ?_
  obtain rfl:=qb hF;replace hF:=hK2
  refine X0 5 rfl ?_
  replace h:=h.pick [1] rfl
  exact rK ⟨_,_,hF,rfl,h⟩ rfl
 refine qm rfl ?_
 obtain rfl:=qb hF;replace hF:=hK1
 refine X0 11 rfl ?_
 replace h:=h.nil (α:=Int)
 obtain ⟨o3,hF,hK3⟩:=qd hF
 refine qk (rL (fun m e w'=>∃ (S3:Nat→Prop) (p14:Option Addr) (ln1:Nat) (k12:Nat) (x4:(List Int)) (x5:(List Int)) (i3:Int),qaB a_0 x1 m x4 x5 i3=some o3∧e=[(0,.pointer (some ⟨b1,o_1,none⟩)),(4,.slice p12 x1.length x1.length),(8,.slice p14 ln1 k12),(43,.int .i64 (x1.length:Int)),(44,.int .i64 i3)]∧SH w w' [Ch.own S3 (x4:List Int) [.slice p14 ln1 k12],Ch.own S1 (x5:List Int) [.slice p12 x1.length x1.length]]) n ⟨_,_,_,_,_,_,_,hF,rfl,h⟩ rfl ?_)
 rintro m3 e3 w6 ⟨S3,p14,ln1,k12,x4,x5,i3,hF,rfl,h⟩
 obtain rfl:=(h.sl 0 rfl).2
 rcases m3 with _|m3
 ·cases hF
 refine X0 5 rfl (qi rfl hF ?_ ?_)<;>intro hF
 ·refine X0 6 rfl (zcI h hF (qmz (h.own 1 rfl)) rfl fun r2 w7 h hF=>X0 8 rfl (qi rfl hF ?_ ?_))<;>intro hF
  ·refine X0 5 rfl ?_
   obtain rfl:=qb hF;replace hF:=hK3
   obtain rfl:=qb hF
   exact qak qc (ρ:=((List Int) × Bool)) [GoT.v (List Int) [.slice none 0 0],GoT.v Bool [.bool false]] h ⟨rfl,rfl,trivial⟩ (PV.done h (qbn h qhH (qat (qy (S:=fun _=>False) rfl)) (by rfl)))
  refine X0 5 rfl ?_
  obtain ⟨y5,hy5,hF,he4,b5,_,q4,cs6,hp4,hq4,rfl,hc9⟩:=(h.sl 1 rfl).1.ix hF
  refine zx hp4 hq4 ⟨he4.1,qx he4.2.1 (h.sl 1 rfl).2⟩ rfl (qaX qc 1 0 (-1) h rfl hy5 hp4 hq4 rfl hc9 rfl rfl rfl rfl rfl rfl rfl fun w8 h=>X0 5 rfl (qG qc [.tmp 54] _ ([r2]:List Int) h rfl rfl rfl rfl rfl rfl rfl rfl rfl ⟨rfl,trivial⟩ rfl fun w9 p15 S4 h=>?_))
  obtain ⟨x6,hx2,hF⟩:=qd hF
  obtain ⟨g3,hx2⟩:=qae hx2
  refine qcg qc 1 h rfl (h.sl 0 rfl).1 (h.sl 0 rfl).2 rfl rfl rfl rfl rfl rfl rfl rfl rfl g3 hx2 rfl fun w10 p16 k13 S5 h=>X0 6 rfl (zcL h hF (qfe (h.old s1)) rfl fun r3 w11 S6 p17 k14 h hF=>X0 3 rfl ?_)
  obtain ⟨o4,hF,hK4⟩:=qd hF
  refine qk ?_
  replace h:=h.pick [0,2,3] rfl
  refine rL (fun m e w'=>∃ (x7:(List Int)) (i4:Int),qbi r3 m x7 i4=some o4∧e=[(0,.pointer (some ⟨b1,o_1,none⟩)),(4,.slice p12 x1.length x1.length),(8,.slice p16 x6.length k13),(43,.int .i64 (x1.length:Int)),(44,.int .i64 i3),(59,.slice p17 r3.length k14),(60,.int .i64 (r3.length:Int)),(61,.int .i64 i4)]∧SH w w' [Ch.own S6 (r3:List Int) [.slice p17 r3.length k14],Ch.own S5 (x6:List Int) [.slice p16 x6.length k13],Ch.own S1 (x7:List Int) [.slice p12 x1.length x1.length]]) m3 ⟨_,_,hF,rfl,h⟩ rfl ?_
  rintro m4 e4 w12 ⟨x7,i4,hF,rfl,h⟩
  rcases m4 with _|m4
  ·cases hF
  refine X0 5 rfl (qi rfl hF ?_ ?_)<;>intro hF
  ·refine zKSBSR ?_
   obtain ⟨y6,hy6,hF,he5,b6,_,q5,cs7,hp5,hq5,rfl,hc11⟩:=(h.sl 0 rfl).1.ix hF
   refine zx hp5 hq5 ⟨he5.1,qx he5.2.1 (h.sl 0 rfl).2⟩ rfl (zc 0 hc11 rfl (X0 5 rfl ?_))
   obtain ⟨y7,hy7,hF,he6,b7,_,q6,cs8,hp6,hq6,rfl,hc12⟩:=(h.sl 2 rfl).1.ix hF
   refine zx hp6 hq6 ⟨he6.1,qx he6.2.1 (h.sl 2 rfl).2⟩ rfl (zc 0 hc12 rfl (zp1 rfl ?_))
   obtain ⟨y8,hy8,hF,he7,b8,_,q7,cs9,hp7,hq7,rfl,hc13⟩:=(h.sl 2 rfl).1.ix hF
   exact zx hp7 hq7 ⟨he7.1,qx he7.2.1 (h.sl 2 rfl).2⟩ rfl (qaX qc 2 0 (W64 (y7-1)) h rfl hy8 hp7 hq7 rfl hc13 rfl rfl rfl rfl rfl rfl rfl fun w13 h=>X0 6 rfl (rK ⟨_,_,hF,rfl,h⟩ rfl))
  refine qm rfl ?_
  obtain rfl:=qb hF;replace hF:=hK4
  refine X0 5 rfl ?_
  replace h:=h.pick [1,2] rfl
  exact rK ⟨_,_,_,_,_,_,_,hF,rfl,h⟩ rfl
 refine qm rfl ?_
 obtain rfl:=qb hF;replace hF:=hK3
 refine X0 6 rfl ?_
 obtain rfl:=qb hF
 exact qak qc (ρ:=((List Int) × Bool)) [GoT.v (List Int) [.slice p14 x4.length k12],GoT.v Bool [.bool true]] h ⟨rfl,rfl,trivial⟩ (PV.done h (qbn h (qay 0 h rfl) (qat (qy (S:=fun _=>False) rfl)) (by rfl)))
def qeW (n:Nat) (v:(Option Tview)) (p:Tplace):Option Bool :=
 bif decide (p.instance_<0) then
  bif p.drives then some true else
  (qck n v p).bind fun r1 =>
  some r1
 else
  (qck n v p).bind fun r2 =>
  some r2
theorem qlB {v:(Option Tview)} {p:Tplace} (ha1:GoT.R w (old w) v cs1) (ha2:GoT.R w (old w) p cs2) {r:Bool} (hF:qeW n v p=some r):RetV Tryz.prog 101 [GoT.v (Option Tview) cs1,GoT.v Tplace cs2] w r:=by
 obtain ⟨p1,rfl,s1⟩:=qfs ha1
 obtain rfl:=qcs ha2
 refine zV 17 Tryz.func101 rfl fun h=>zSR (qu h rfl rfl fun w1 bb1 h=>X1 8 0 h rfl (ql (t:=8) hF rfl ?_ ?_))<;>intro hF
 ·refine X1 6 0 h rfl (ql (t:=12) hF rfl ?_ ?_)<;>intro hF
  ·exact X0 6 rfl (rb h hF rfl)
  exact X1 5 0 h rfl (zcB h hF (qfk (h.old s1) (h.old ha2)) rfl fun r1 w2 h hF=>X0 3 rfl (rb h hF rfl))
 exact X1 9 0 h rfl (zcB h hF (qfk (h.old s1) (h.old ha2)) rfl fun r2 w3 h hF=>X0 3 rfl (rb h hF rfl))
def qbU (b:qg):Nat→(List Int)→Int→Option ((List Int) × Int)
 | 0,_,_=>none
 | n+1,x1,i1 =>
  (qbJ n b).bind fun r1 =>
  bif decide (i1<r1) then
   (qhh n (⟨b.Ai.Ah⟩:qn) (⟨b.Ab.Aa,b.Ab.Af,b.Ab.Ac⟩:qf) i1).bind fun o=>match o with
    | (r3,_) =>
     (
      bif decide (r3.instance_<0) then
       (idx b.Ab.Ac r3.pin).bind fun y1 =>
       bif (y1.Bl==1) then some true else
       (qf6 n b i1).bind fun r5 =>
       some r5
      else
       (qf6 n b i1).bind fun r6 =>
       some r6).bind fun b1 =>
     bif b1 then
      (appS x1 ([i1]:List Int)).bind fun x2 =>
      qbU b n x2 (W64 (i1+1))
     else
      qbU b n x1 (W64 (i1+1))
  else
   some (x1,i1)
def qhE (n:Nat) (b:qg):Option (List Int) :=
 (qbU b n ([]:List Int) 0).bind fun o=>match o with
 | (x1,_) =>
  some x1
theorem qnC {b:qg} (ha1:GoT.R w (old w) b cs1) {r:(List Int)} (hF:qhE n b=some r):RetV Tryz.prog 42 [GoT.v qg cs1] w r:=by
 obtain ⟨p1,k1,p2,k2,p3,k3,p4,k4,p5,k5,rfl,s1,s2,s3,s4,s5⟩:=qK ha1
 refine zV 47 Tryz.func42 rfl fun h=>zSR (qu h rfl rfl fun w1 bb1 h=>X0 4 rfl (qG qc [] _ ([]:List Int) h rfl rfl rfl rfl rfl rfl rfl rfl rfl trivial rfl fun w2 p6 S1 h=>X0 7 rfl ?_))
 obtain ⟨o1,hF,hK1⟩:=qd hF
 refine qk (rL (fun m e w'=>∃ (S2:Nat→Prop) (p7:Option Addr) (ln1:Nat) (k6:Nat) (x1:(List Int)) (i1:Int),qbU b m x1 i1=some o1∧e=[(1,.pointer (some ⟨bb1,0,none⟩)),(3,.slice p7 ln1 k6),(4,.int .i64 i1)]∧SH w w' [Ch.own S2 (x1:List Int) [.slice p7 ln1 k6],Ch.box bb1 (qal b p1 p2 p3 p4 p5 k1 k2 k3 k4 k5) 34]) n ⟨_,_,_,_,_,_,hF,rfl,h⟩ rfl ?_)
 rintro m1 e1 w3 ⟨S2,p7,ln1,k6,x1,i1,hF,rfl,h⟩
 obtain rfl:=(h.sl 0 rfl).2
 rcases m1 with _|m1
 ·cases hF
 refine X1 5 1 h rfl (zcI h hF (qfb (h.old ha1)) rfl fun r1 w4 h hF=>X0 2 rfl (qi rfl hF ?_ ?_))<;>intro hF
 ·refine X2 10 1 1 h rfl ?_
  obtain ⟨r2,hr2,hF⟩:=qd hF
  obtain ⟨r3,r4⟩:=r2
  refine qdj (r3,r4) h (cB 98 rfl) (qiv (qb9 _ (h.oldS s1)) (qaz _ (h.oldS s2) (h.oldS s3) (h.oldS s4)) hr2) rfl rfl rfl rfl fun w5 S3 us1 hv1 hr3=>?_
  obtain ⟨S4,S5,cs2,us2,rfl,hv2,hr4⟩:=hv1.cons hr3
  obtain rfl:=qbG (hv2.sh.own 0 rfl)
  obtain ⟨rfl,h⟩:=hv2.lastB hr4
  refine zp3 rfl (qA qc h rfl rfl rfl fun w6 bb2 h=>zs 0 h rfl fun w7 h=>X0 3 rfl ?_)
  obtain ⟨KF1,hKF1,o2,hF,hK2⟩:=bindE hF
  refine qcB (fun e w'=>∃ (b1:Bool),KF1 b1=some o1∧e=[(1,.pointer (some ⟨bb1,0,none⟩)),(3,.slice p7 x1.length k6),(4,.int .i64 i1),(41,.bool b1)]∧SH w w' [Ch.own S2 (x1:List Int) [.slice p7 x1.length k6],Ch.box bb1 (qal b p1 p2 p3 p4 p5 k1 k2 k3 k4 k5) 34]) ?_ ?_
  ·refine X1 5 0 h rfl (ql (t:=26) hF rfl ?_ ?_)<;>intro hF
   ·refine X2 11 3 0 h rfl ?_
    obtain ⟨y1,hy1,hF,he1,b2,_,q1,cs3,hp1,hq1,hr6,hc3⟩:=s4.ix hF
    obtain rfl:=qaC hr6
    refine zxe hp1 hq1 he1 rfl (X0 3 rfl (zc 1 (hc3.below h.below) rfl (X0 4 rfl (ql (t:=37) hF rfl ?_ ?_))))<;>intro hF
    ·refine X0 5 rfl ?_
     replace h:=h.pick [2,3] rfl
     obtain rfl:=qb hF
     exact rG ⟨_,hK2,rfl,h⟩ rfl
    refine X1 5 3 h rfl (zcB h hF (qic (h.old ha1)) rfl fun r5 w10 h hF=>X0 2 rfl ?_)
    replace h:=h.pick [2,3] rfl
    obtain rfl:=qb hF
    exact rG ⟨_,hK2,rfl,h⟩ rfl
   refine X1 16 3 h rfl (zcB h hF (qic (h.old ha1)) rfl fun r6 w11 h hF=>X0 2 rfl ?_)
   replace h:=h.pick [2,3] rfl
   obtain rfl:=qb hF
   exact rG ⟨_,hK2,rfl,h⟩ rfl
  rintro e2 w12 ⟨b1,hF,rfl,h⟩
  subst hKF1
  refine qi rfl hF ?_ ?_<;>intro hF
  ·refine X0 3 rfl (qG qc [.tmp 43] _ ([i1]:List Int) h rfl rfl rfl rfl rfl rfl rfl rfl rfl ⟨rfl,trivial⟩ rfl fun w8 p8 S7 h=>?_)
   obtain ⟨x2,hx1,hF⟩:=qd hF
   obtain ⟨g1,hx1⟩:=qae hx1
   refine qcg qc 1 h rfl (h.sl 0 rfl).1 (h.sl 0 rfl).2 rfl rfl rfl rfl rfl rfl rfl rfl rfl g1 hx1 rfl fun w9 p9 k7 S8 h=>X0 8 rfl ?_
   replace h:=h.pick [1,2] rfl
   exact rK ⟨_,_,_,_,_,_,hF,rfl,h⟩ rfl
  exact X0 7 rfl (rK ⟨_,_,_,_,_,_,hF,rfl,h⟩ rfl)
 refine qm rfl ?_
 obtain rfl:=qb hF;replace hF:=hK1
 refine X0 5 rfl ?_
 obtain rfl:=qb hF
 exact rO 0 h rfl ⟨rfl,trivial⟩
end Go.Fw


namespace Go.Fw
open Go Go.Proofs
open Go.RowKit (Below)
set_option maxRecDepth 100000
set_option maxHeartbeats 6400000
variable {n:Nat} {w:World} {cs1 cs2 cs3 cs4 cs5 cs6 cs7 cs8 cs9:List Value}
def qeG (b:qg) (list:(List qa)):Nat→Int→Option (Flow Int Int)
 | 0,_=>none
 | n+1,i1 =>
  bif decide (i1<(list.length:Int)) then
   (idx list i1).bind fun y1 =>
   (qgK n b y1).bind fun r2 =>
   bif (!r2) then some (.ret 5) else
   qeG b list n (W64 (i1+1))
  else
   some (.nxt i1)
def qjs (n:Nat) (b:qg) (list:(List qa)):Option Int :=
 (qhz n b).bind fun r1 =>
 bif (!r1) then some 1 else
 bif decide ((list.length:Int) > 6) then some 3 else
 (qeG b list n 0).bind fun o=>match o with
 | .ret r=>some r
 | .nxt _ =>
  some 0
theorem qoQ {b:qg} {list:(List qa)} (ha1:GoT.R w (old w) b cs1) (ha2:GoT.R w (old w) list cs2) {r:Int} (hF:qjs n b list=some r):RetV Tryz.prog 34 [GoT.v qg cs1,GoT.v (List qa) cs2] w r:=by
 obtain ⟨p1,k1,p2,k2,p3,k3,p4,k4,p5,k5,rfl,s1,s2,s3,s4,s5⟩:=qK ha1
 obtain ⟨p6,k6,rfl,s6⟩:=ha2
 refine zV 25 Tryz.func34 rfl fun h=>zSR (qu h rfl rfl fun w1 bb1 h=>X1 6 0 h rfl (zcB h hF (qlt (h.old ha1)) rfl fun r1 w2 h hF=>X0 2 rfl (qi rfl hF ?_ ?_)))<;>intro hF
 ·exact X0 4 rfl (ri h hF rfl)
 refine X0 8 rfl (qi rfl hF ?_ ?_)<;>intro hF
 ·exact X0 4 rfl (ri h hF rfl)
 refine X0 6 rfl ?_
 obtain ⟨o1,hF,hK1⟩:=qd hF
 refine qk (rL (fun m e w'=>∃ (i1:Int),qeG b list m i1=some o1∧e=[(1,.slice p6 list.length k6),(2,.pointer (some ⟨bb1,0,none⟩)),(5,.int .i64 i1)]∧SH w w' [Ch.box bb1 (qal b p1 p2 p3 p4 p5 k1 k2 k3 k4 k5) 34]) n ⟨_,hF,rfl,h⟩ rfl ?_)
 rintro m1 e1 w3 ⟨i1,hF,rfl,h⟩
 rcases m1 with _|m1
 ·cases hF
 refine X0 8 rfl (qi rfl hF ?_ ?_)<;>intro hF
 ·refine X0 4 rfl (rD (Y1 1 0 h rfl ?_))
  refine zd2 rfl ?_
  obtain ⟨y1,hy1,hF,he1,b1,_,q1,cs3,hp1,hq1,hr2,hc4⟩:=s6.ix hF
  obtain ⟨p7,k7,p8,k8,p9,k9,rfl,s7,s8,s9⟩:=qq hr2
  refine zdxe hp1 hq1 he1 rfl (zdc 0 (hc4.below h.below) rfl ?_)
  obtain ⟨r2,hr3,hF⟩:=qd hF
  refine qbR r2 (vsB _) (cB 87 rfl) (fun _ hb=>qmy ((h.ext hb).old ha1) (qav y1 ((h.ext hb).oldS s7) ((h.ext hb).oldS s8) ((h.ext hb).oldS s9)) hr3) rfl rfl rfl rfl (zd1 rfl (dN h fun w4 h=>qi rfl hF ?_ ?_))<;>intro hF
  ·refine X0 4 rfl ?_
   obtain rfl:=qb hF;replace hF:=hK1
   exact ri h hF rfl
  exact X0 7 rfl (rK ⟨_,hF,rfl,h⟩ rfl)
 refine qm rfl ?_
 obtain rfl:=qb hF;replace hF:=hK1
 exact X0 4 rfl (ri h hF rfl)
def qjj (n:Nat) (b:qg) (list:(List qa)) (place:Int):Option Int :=
 (qjs n b list).bind fun r1 =>
 bif (r1==0) then
  (qbJ n b).bind fun r2 =>
  (qan n place 0 (W64 (r2-1))).bind fun r3 =>
  bif (!r3) then some 2 else
  some r1
 else
  some r1
theorem qoL {b:qg} {list:(List qa)} {place:Int} (ha1:GoT.R w (old w) b cs1) (ha2:GoT.R w (old w) list cs2) {r:Int} (hF:qjj n b list place=some r):RetV Tryz.prog 44 [GoT.v qg cs1,GoT.v (List qa) cs2,.int .i64 place] w r:=by
 obtain ⟨p1,k1,p2,k2,p3,k3,p4,k4,p5,k5,rfl,s1,s2,s3,s4,s5⟩:=qK ha1
 obtain ⟨p6,k6,rfl,s6⟩:=ha2
 refine zV 22 Tryz.func44 rfl fun h=>zSR (qu h rfl rfl fun w1 bb1 h=>X1 6 0 h rfl (zcI h hF (qoQ (h.old ha1) ⟨_,_,rfl,(h.oldS s6)⟩) rfl fun r1 w2 h hF=>X0 8 rfl (ql (t:=13) hF rfl ?_ ?_)))<;>intro hF
 ·refine X1 5 0 h rfl (zcI h hF (qfb (h.old ha1)) rfl fun r2 w3 h hF=>X0 3 rfl (zcB h hF qV rfl fun r3 w4 h hF=>X0 4 rfl (qi rfl hF ?_ ?_)))<;>intro hF
  ·exact X0 4 rfl (ri h hF rfl)
  exact X0 6 rfl (ri h hF rfl)
 exact X0 8 rfl (qbK rfl rfl (X0 6 rfl (ri h hF rfl)))
def qeP (n:Nat) (a_e:qa) (v0:(Option Tview)):Option Bool :=
 (qeu n v0 a_e).bind fun r1 =>
 some (!r1)
theorem qkY {a_e:qa} {v0:(Option Tview)} (ha1:GoT.R w (old w) a_e cs1) {p4:Option Addr} (ha2:GoT.R w (old w) (some v0) [.pointer p4]) {r:Bool} (hF:qeP n a_e v0=some r):RetV Tryz.prog 77 [GoT.v qa cs1,.pointer p4] w r:=by
 obtain ⟨p1,k1,p2,k2,p3,k3,rfl,s1,s2,s3⟩:=qq ha1
 obtain ⟨b1,o_1,cs2,rfl,-,hr1,hc1⟩:=PtR.get ha2 rfl
 obtain ⟨p5,rfl,s4⟩:=qfs hr1
 exact zV 8 Tryz.func77 rfl fun h=>zSR (qu h rfl rfl fun w1 bb1 h=>X0 4 rfl (zc 0 (hc1.below h.below) rfl (zl 0 0 h rfl (zcB h hF (qkx (h.old s4) (h.old ha1)) rfl fun r1 w2 h hF=>X0 3 rfl (rb h hF rfl)))))
def qz (s:(List qa)) (f_0:(Option Tview)):Nat→Int→Option (Flow Int Int)
 | 0,_=>none
 | n+1,i1 =>
  bif decide (i1<(s.length:Int)) then
   (idx s i1).bind fun y1 =>
   (qeP n y1 f_0).bind fun r1 =>
   bif r1 then some (.ret i1) else
   qz s f_0 n (W64 (i1+1))
  else
   some (.nxt i1)
def qaA (n:Nat) (s:(List qa)) (f_0:(Option Tview)):Option Int :=
 (qz s f_0 n 0).bind fun o=>match o with
 | .ret r=>some r
 | .nxt _ =>
  some (-1)
theorem qdk {s:(List qa)} {f_0:(Option Tview)} (ha1:GoT.R w (old w) s cs1) {p2:Option Addr} (ha2:GoT.R w (old w) (some f_0) [.pointer p2]) {r:Int} (hF:qaA n s f_0=some r):RetV Tryz.prog 138 [GoT.v (List qa) cs1,.func (.func 77) #[] #[.pointer p2]] w r:=by
 obtain ⟨p1,k1,rfl,s1⟩:=ha1
 obtain ⟨b1,o_1,cs2,rfl,-,hr1,hc1⟩:=PtR.get ha2 rfl
 obtain ⟨p3,rfl,s2⟩:=qfs hr1
 refine zV 19 Tryz.func138 rfl fun h=>X0 11 rfl ?_
 obtain ⟨o1,hF,hK1⟩:=qd hF
 refine qk (rL (fun m e w'=>∃ (i1:Int),qz s f_0 m i1=some o1∧e=[(0,.slice p1 s.length k1),(1,.func (.func 77) #[] #[.pointer (some ⟨b1,o_1,none⟩)]),(7,.int .i64 (s.length:Int)),(8,.int .i64 i1)]∧SH w w' []) n ⟨_,hF,rfl,h⟩ rfl ?_)
 rintro m1 e1 w1 ⟨i1,hF,rfl,h⟩
 rcases m1 with _|m1
 ·cases hF
 refine X0 5 rfl (qi rfl hF ?_ ?_)<;>intro hF
 ·refine X0 13 rfl ?_
  obtain ⟨y1,hy1,hF,he1,b2,_,q1,cs3,hp1,hq1,hr2,hc3⟩:=s1.ix hF
  obtain ⟨p4,k2,p5,k3,p6,k4,rfl,s3,s4,s5⟩:=qq hr2
  refine zxe hp1 hq1 he1 rfl (zc 0 (hc3.below h.below) rfl (zcB h hF (qkY (qav y1 (h.oldS s3) (h.oldS s4) (h.oldS s5)) (h.old ha2)) rfl fun r1 w2 h hF=>qcw (qi rfl hF ?_ ?_)))<;>intro hF
  ·refine X0 5 rfl ?_
   obtain rfl:=qb hF;replace hF:=hK1
   exact ri h hF rfl
  exact X0 6 rfl (rK ⟨_,hF,rfl,h⟩ rfl)
 refine qm rfl ?_
 obtain rfl:=qb hF;replace hF:=hK1
 exact X0 4 rfl (ri h hF rfl)
def qY (n:Nat) (s:(List qa)) (f_0:(Option Tview)):Option Bool :=
 (qaA n s f_0).bind fun r1 =>
 some (decide (r1 ≥ 0))
theorem qc2 {s:(List qa)} {f_0:(Option Tview)} (ha1:GoT.R w (old w) s cs1) {p2:Option Addr} (ha2:GoT.R w (old w) (some f_0) [.pointer p2]) {r:Bool} (hF:qY n s f_0=some r):RetV Tryz.prog 76 [GoT.v (List qa) cs1,.func (.func 77) #[] #[.pointer p2]] w r:=by
 obtain ⟨p1,k1,rfl,s1⟩:=ha1
 obtain ⟨b1,o_1,cs2,rfl,-,hr1,hc1⟩:=PtR.get ha2 rfl
 obtain ⟨p3,rfl,s2⟩:=qfs hr1
 exact zV 9 Tryz.func76 rfl fun h=>X0 8 rfl (zcI h hF (qdk ⟨_,_,rfl,(h.oldS s1)⟩ (h.old ha2)) rfl fun r1 w1 h hF=>X0 3 rfl (rb h hF rfl))
def qfO (n:Nat) (b:qg) (list:(List qa)):Option ((Option Tview) × Int) :=
 (qjv n b).bind fun r1 =>
 bif (!r1) then some (none,1) else
 bif decide ((list.length:Int) > 6) then some (none,3) else
 (qji n b).bind fun r2 =>
 (qY n list r2).bind fun r3 =>
 bif r3 then some (none,5) else
 some (r2,0)
theorem qlz {A:Nat→Prop} (hA:∀ b,A b→old w b) {b:qg} {list:(List qa)} (ha1:GoT.R w A b cs1) (ha2:GoT.R w A list cs2) {r:((Option Tview) × Int)} (hF:qfO n b list=some r):RetG Tryz.prog 31 [GoT.v qg cs1,GoT.v (List qa) cs2] w A r:=by
 obtain ⟨p1,k1,p2,k2,p3,k3,p4,k4,p5,k5,rfl,s1,s2,s3,s4,s5⟩:=qK ha1
 obtain ⟨p6,k6,rfl,s6⟩:=ha2
 have hg:=Rg.start hA
 refine qiZ Tryz.func31 rfl (m:=21) rfl rfl (fun h=>?_)
 refine zSR (qu h rfl rfl fun w1 bb1 h=>X1 8 0 h rfl (zcB h hF (qoz (h.old (GoT.mono ha1 hg.old))) rfl fun r1 w2 h hF=>X0 3 rfl (qi rfl hF ?_ ?_)))<;>intro hF
 ·refine X0 5 rfl ?_
  obtain rfl:=qb hF
  have hv1:GoRs.Rs (ρ:=((Option Tview) × Int)) h.wc (reg A w h.wc) (none,1) [GoT.v (Option Tview) [.pointer none],GoT.v Int [.int .i64 1]]:=⟨_,_,rfl,rfl,⟨_,rfl,rfl⟩⟩
  exact qkw qc (ρ:=((Option Tview) × Int)) (r:=(none,1)) [GoT.v (Option Tview) [.pointer none],GoT.v Int [.int .i64 1]] h ⟨rfl,rfl,trivial⟩ hv1
 refine X0 7 rfl (qi rfl hF ?_ ?_)<;>intro hF
 ·refine X0 5 rfl ?_
  obtain rfl:=qb hF
  have hv2:GoRs.Rs (ρ:=((Option Tview) × Int)) h.wc (reg A w h.wc) (none,3) [GoT.v (Option Tview) [.pointer none],GoT.v Int [.int .i64 3]]:=⟨_,_,rfl,rfl,⟨_,rfl,rfl⟩⟩
  exact qkw qc (ρ:=((Option Tview) × Int)) (r:=(none,3)) [GoT.v (Option Tview) [.pointer none],GoT.v Int [.int .i64 3]] h ⟨rfl,rfl,trivial⟩ hv2
 refine X1 5 0 h rfl ?_
 obtain ⟨r2,hr2,hF⟩:=qd hF
 refine qra r2 hg h (cB 75 rfl) (qoq (hg.regOld h) (hg.inR h ha1) hr2) rfl rfl rfl rfl fun w3 us1 B1 hg1 hu1 hz1 hv3=>?_
 have hL1:=h.ext hu1.below
 have s7:=Up.S hg h hu1 s6
 have hb1:=h.below.trans (hu1.below.mono h.below.size)
 replace h:=hz1
 obtain ⟨cs3,rfl,hr3⟩:=qmQ hv3
 obtain ⟨p7,rfl,s8⟩:=qfs hr3
 refine qA qc h rfl rfl rfl fun w4 bb2 h=>zs 0 h rfl fun w5 h=>X0 6 rfl (zcB h hF (qc2 ⟨_,_,rfl,(h.oldS (s7.mono hg1.old))⟩ (qiG (x:=r2) 0 h rfl (h.old (GoT.mono s8 hg1.old)))) rfl fun r3 w6 h hF=>qcw (qi rfl hF ?_ ?_))<;>intro hF
 ·refine X0 5 rfl ?_
  obtain rfl:=qb hF
  have hv4:GoRs.Rs (ρ:=((Option Tview) × Int)) h.wc (reg A w h.wc) (none,5) [GoT.v (Option Tview) [.pointer none],GoT.v Int [.int .i64 5]]:=⟨_,_,rfl,rfl,⟨_,rfl,rfl⟩⟩
  exact qkw qc (ρ:=((Option Tview) × Int)) (r:=(none,5)) [GoT.v (Option Tview) [.pointer none],GoT.v Int [.int .i64 5]] (h.unbase hg1.below ⟨fun _ h=>h,trivial⟩) ⟨rfl,rfl,trivial⟩ hv4
 refine X1 7 0 h rfl ?_
 obtain rfl:=qb hF
 have hv5:GoRs.Rs (ρ:=((Option Tview) × Int)) h.wc (reg A w h.wc) (r2,0) [GoT.v (Option Tview) [.pointer p7],GoT.v Int [.int .i64 0]]:=⟨_,_,rfl,(hg1.outR h (hg1.inR h s8)),⟨_,rfl,rfl⟩⟩
 exact qkw qc (ρ:=((Option Tview) × Int)) (r:=(r2,0)) [GoT.v (Option Tview) [.pointer p7],GoT.v Int [.int .i64 0]] (h.unbase hg1.below ⟨fun _ h=>h,trivial⟩) ⟨rfl,rfl,trivial⟩ hv5
def qgg (n:Nat) (v:(Option Tview)) (place:Int):Option Bool :=
 (v).bind fun y1 =>
 (qbk n y1.places).bind fun r1 =>
 (qaE n place 0 (W64 (r1-1))).bind fun r2 =>
 some r2
theorem ql0 {v:(Option Tview)} {place:Int} (ha1:GoT.R w (old w) v cs1) {r:Bool} (hF:qgg n v place=some r):RetV Tryz.prog 91 [GoT.v (Option Tview) cs1,.int .i64 place] w r:=by
 obtain ⟨p1,rfl,s1⟩:=qfs ha1
 refine zV 13 Tryz.func91 rfl fun h=>X0 8 rfl ?_
 obtain ⟨y1,hy1,hF⟩:=qd hF
 obtain ⟨b1,o_1,cs2,rfl,-,hr1,hc1⟩:=PtR.get s1 hy1
 obtain ⟨p2,k1,p3,k2,p4,k3,p5,k4,p6,k5,p7,k6,p8,k7,p9,k8,p10,k9,p11,k10,rfl,s2,s3,s4,s5,s6,s7,s8,s9,s10,s11⟩:=qir hr1
 exact zp2 rfl (zc 5 (hc1.below h.below) rfl (zcI h hF (qgS ⟨_,_,rfl,(h.oldS s7)⟩) rfl fun r1 w1 h hF=>zp1 rfl (zcB h hF qar rfl fun r2 w2 h hF=>X0 2 rfl (rb h hF rfl))))
def qjm (n:Nat) (b:qg) (list:(List qa)) (place:Int):Option ((Option Tview) × Int) :=
 (qfO n b list).bind fun o=>match o with
  | (r2,r3) =>
   bif (r3==0) then
    (qgg n r2 place).bind fun r4 =>
    bif (!r4) then some (none,2) else
    some (r2,r3)
   else
    some (r2,r3)
theorem qoC {A:Nat→Prop} (hA:∀ b,A b→old w b) {b:qg} {list:(List qa)} {place:Int} (ha1:GoT.R w A b cs1) (ha2:GoT.R w A list cs2) {r:((Option Tview) × Int)} (hF:qjm n b list place=some r):RetG Tryz.prog 38 [GoT.v qg cs1,GoT.v (List qa) cs2,.int .i64 place] w A r:=by
 obtain ⟨p1,k1,p2,k2,p3,k3,p4,k4,p5,k5,rfl,s1,s2,s3,s4,s5⟩:=qK ha1
 obtain ⟨p6,k6,rfl,s6⟩:=ha2
 have hg:=Rg.start hA
 refine qiZ Tryz.func38 rfl (m:=26) rfl rfl (fun h=>?_)
 refine zSR (qu h rfl rfl fun w1 bb1 h=>X1 7 0 h rfl ?_)
 obtain ⟨r1,hr1,hF⟩:=qd hF
 obtain ⟨r2,r3⟩:=r1
 refine qra (r2,r3) hg h (cB 31 rfl) (qlz (hg.regOld h) (hg.inR h ha1) ⟨_,_,rfl,(hg.inS h s6)⟩ hr1) rfl rfl rfl rfl fun w2 us1 B1 hg1 hu1 hz1 hv1=>?_
 have hL1:=h.ext hu1.below
 have hb1:=h.below.trans (hu1.below.mono h.below.size)
 replace h:=hz1
 obtain ⟨cs3,us2,rfl,hr2,hv2⟩:=qtB hv1
 obtain ⟨p7,rfl,s7⟩:=qfs hr2
 obtain ⟨cs4,rfl,hr3⟩:=qmQ hv2
 obtain rfl:=hr3
 refine X0 12 rfl (ql (t:=18) hF rfl ?_ ?_)<;>intro hF
 ·refine X0 5 rfl (zcB h hF (ql0 (h.old (GoT.mono s7 hg1.old))) rfl fun r4 w3 h hF=>X0 4 rfl (qi rfl hF ?_ ?_))<;>intro hF
  ·refine X0 5 rfl ?_
   obtain rfl:=qb hF
   have hv3:GoRs.Rs (ρ:=((Option Tview) × Int)) h.wc (reg A w h.wc) (none,2) [GoT.v (Option Tview) [.pointer none],GoT.v Int [.int .i64 2]]:=⟨_,_,rfl,rfl,⟨_,rfl,rfl⟩⟩
   exact qkw qc (ρ:=((Option Tview) × Int)) (r:=(none,2)) [GoT.v (Option Tview) [.pointer none],GoT.v Int [.int .i64 2]] (h.unbase hg1.below (show NoD [] from trivial)) ⟨rfl,rfl,trivial⟩ hv3
  refine X0 8 rfl ?_
  obtain rfl:=qb hF
  have hv4:GoRs.Rs (ρ:=((Option Tview) × Int)) h.wc (reg A w h.wc) (r2,r3) [GoT.v (Option Tview) [.pointer p7],GoT.v Int [.int .i64 r3]]:=⟨_,_,rfl,(hg1.outR h (hg1.inR h s7)),⟨_,rfl,rfl⟩⟩
  exact qkw qc (ρ:=((Option Tview) × Int)) (r:=(r2,r3)) [GoT.v (Option Tview) [.pointer p7],GoT.v Int [.int .i64 r3]] (h.unbase hg1.below (show NoD [] from trivial)) ⟨rfl,rfl,trivial⟩ hv4
 refine X0 6 rfl (qbK rfl rfl (X0 8 rfl ?_))
 obtain rfl:=qb hF
 have hv5:GoRs.Rs (ρ:=((Option Tview) × Int)) h.wc (reg A w h.wc) (r2,r3) [GoT.v (Option Tview) [.pointer p7],GoT.v Int [.int .i64 r3]]:=⟨_,_,rfl,(hg1.outR h (hg1.inR h s7)),⟨_,rfl,rfl⟩⟩
 exact qkw qc (ρ:=((Option Tview) × Int)) (r:=(r2,r3)) [GoT.v (Option Tview) [.pointer p7],GoT.v Int [.int .i64 r3]] (h.unbase hg1.below (show NoD [] from trivial)) ⟨rfl,rfl,trivial⟩ hv5
def qcP (list:(List qa)) (tag:(List Int)) (place:Int):Nat→(List Int)→Int→Option ((List Int) × Int)
 | 0,_,_=>none
 | n+1,x1,i1 =>
  bif decide (i1<(list.length:Int)) then
   (idx tag i1).bind fun y1 =>
   (
    bif decide (y1 ≥ 0) then
     (idx list i1).bind fun y2 =>
     bif decide (y1<(y2.Aq.length:Int)) then
      (idx list i1).bind fun y3 =>
      (idx y3.Aq y1).bind fun y4 =>
      some (y4==place)
     else
      some false
    else
     some false).bind fun b2 =>
   bif b2 then
    (appS x1 ([W64 (y1+1)]:List Int)).bind fun x2 =>
    qcP list tag place n x2 (W64 (i1+1))
   else
    (appS x1 ([y1]:List Int)).bind fun x3 =>
    qcP list tag place n x3 (W64 (i1+1))
  else
   some (x1,i1)
def qhG (n:Nat) (list:(List qa)) (tag:(List Int)) (place:Int):Option (List Int) :=
 (qcP list tag place n ([]:List Int) 0).bind fun o=>match o with
 | (x1,_) =>
  some x1
theorem qlu {list:(List qa)} {tag:(List Int)} {place:Int} (ha1:GoT.R w (old w) list cs1) (ha2:GoT.R w (old w) tag cs2) {r:(List Int)} (hF:qhG n list tag place=some r):RetV Tryz.prog 37 [GoT.v (List qa) cs1,GoT.v (List Int) cs2,.int .i64 place] w r:=by
 obtain ⟨p1,k1,rfl,s1⟩:=ha1
 obtain ⟨p2,k2,rfl,s2⟩:=ha2
 refine zV 52 Tryz.func37 rfl fun h=>X0 6 rfl (qG qc [] _ ([]:List Int) h rfl rfl rfl rfl rfl rfl rfl rfl rfl trivial rfl fun w1 p3 S1 h=>X0 7 rfl ?_)
 obtain ⟨o1,hF,hK1⟩:=qd hF
 refine qk (rL (fun m e w'=>∃ (S2:Nat→Prop) (p4:Option Addr) (ln1:Nat) (k3:Nat) (x1:(List Int)) (i1:Int),qcP list tag place m x1 i1=some o1∧e=[(0,.slice p1 list.length k1),(1,.slice p2 tag.length k2),(2,.int .i64 place),(7,.slice p4 ln1 k3),(8,.int .i64 i1)]∧SH w w' [Ch.own S2 (x1:List Int) [.slice p4 ln1 k3]]) n ⟨_,_,_,_,_,_,hF,rfl,h⟩ rfl ?_)
 rintro m1 e1 w2 ⟨S2,p4,ln1,k3,x1,i1,hF,rfl,h⟩
 obtain rfl:=(h.sl 0 rfl).2
 rcases m1 with _|m1
 ·cases hF
 refine X0 8 rfl (qi rfl hF ?_ ?_)<;>intro hF
 ·refine X0 7 rfl ?_
  obtain ⟨y1,hy1,hF,he1,b1,_,q1,cs3,hp1,hq1,rfl,hc2⟩:=s2.ix hF
  refine zxe hp1 hq1 he1 rfl (zc 0 (hc2.below h.below) rfl (X0 4 rfl ?_))
  obtain ⟨KF1,hKF1,o2,hF,hK2⟩:=bindE hF
  refine qcB (fun e w'=>∃ (b2:Bool),KF1 b2=some o1∧e=[(0,.slice p1 list.length k1),(1,.slice p2 tag.length k2),(2,.int .i64 place),(7,.slice p4 x1.length k3),(8,.int .i64 i1),(9,.int .i64 y1),(44,.bool b2)]∧SH w w' [Ch.own S2 (x1:List Int) [.slice p4 x1.length k3]]) ?_ ?_
  ·refine X0 4 rfl (ql (t:=23) hF rfl ?_ ?_)<;>intro hF
   ·refine X0 7 rfl ?_
    obtain ⟨y2,hy2,hF,he2,b3,_,q2,cs4,hp2,hq2,hr2,hc4⟩:=s1.ix hF
    obtain ⟨p9,k6,p10,k7,p11,k8,rfl,s3,s4,s5⟩:=qq hr2
    refine zxe hp2 hq2 he2 rfl (X0 3 rfl (zc 3 (hc4.below h.below) rfl (X0 6 rfl (ql (t:=33) hF rfl ?_ ?_))))<;>intro hF
    ·refine X0 5 rfl ?_
     obtain ⟨y3,hy3,hF,he3,b4,_,q3,cs5,hp3,hq3,hr3,hc5⟩:=s1.ix hF
     obtain ⟨p12,k9,p13,k10,p14,k11,rfl,s6,s7,s8⟩:=qq hr3
     refine zxe hp3 hq3 he3 rfl (X0 3 rfl (zc 3 (hc5.below h.below) rfl (X0 3 rfl ?_)))
     obtain ⟨y4,hy4,hF,he4,b5,_,q4,cs6,hp4,hq4,rfl,hc6⟩:=s7.ix hF
     refine zxe hp4 hq4 he4 rfl (X0 1 rfl (zc 0 (hc6.below h.below) rfl (X0 6 rfl ?_)))
     obtain rfl:=qb hF
     exact rG ⟨_,hK2,rfl,h⟩ rfl
    refine X0 12 rfl ?_
    obtain rfl:=qb hF
    exact rG ⟨_,hK2,rfl,h⟩ rfl
   refine X0 22 rfl ?_
   obtain rfl:=qb hF
   exact rG ⟨_,hK2,rfl,h⟩ rfl
  rintro e2 w7 ⟨b2,hF,rfl,h⟩
  subst hKF1
  refine qi rfl hF ?_ ?_<;>intro hF
  ·refine X0 8 rfl (qG qc [.tmp 48] _ ([W64 (y1+1)]:List Int) h rfl rfl rfl rfl rfl rfl rfl rfl rfl ⟨rfl,trivial⟩ rfl fun w3 p5 S3 h=>?_)
   obtain ⟨x2,hx1,hF⟩:=qd hF
   obtain ⟨g1,hx1⟩:=qae hx1
   refine qcg qc 1 h rfl (h.sl 0 rfl).1 (h.sl 0 rfl).2 rfl rfl rfl rfl rfl rfl rfl rfl rfl g1 hx1 rfl fun w4 p6 k4 S4 h=>X0 8 rfl ?_
   replace h:=h.pick [1] rfl
   exact rK ⟨_,_,_,_,_,_,hF,rfl,h⟩ rfl
  refine X0 4 rfl (qG qc [.tmp 48] _ ([y1]:List Int) h rfl rfl rfl rfl rfl rfl rfl rfl rfl ⟨rfl,trivial⟩ rfl fun w5 p7 S5 h=>?_)
  obtain ⟨x3,hx2,hF⟩:=qd hF
  obtain ⟨g2,hx2⟩:=qae hx2
  refine qcg qc 1 h rfl (h.sl 0 rfl).1 (h.sl 0 rfl).2 rfl rfl rfl rfl rfl rfl rfl rfl rfl g2 hx2 rfl fun w6 p8 k5 S6 h=>X0 8 rfl ?_
  replace h:=h.pick [1] rfl
  exact rK ⟨_,_,_,_,_,_,hF,rfl,h⟩ rfl
 refine qm rfl ?_
 obtain rfl:=qb hF;replace hF:=hK1
 refine X0 5 rfl ?_
 obtain rfl:=qb hF
 exact rO 0 h rfl ⟨rfl,trivial⟩
def qfa (list:(List Int)) (x:Int):Nat→Int→Option (Flow Int Int)
 | 0,_=>none
 | n+1,i1 =>
  bif decide (i1<(list.length:Int)) then
   (idx list i1).bind fun y1 =>
   bif (y1==x) then some (.ret i1) else
   qfa list x n (W64 (i1+1))
  else
   some (.nxt i1)
def qiH (n:Nat) (list:(List Int)) (x:Int):Option Int :=
 (qfa list x n 0).bind fun o=>match o with
 | .ret r=>some r
 | .nxt _ =>
  some (-1)
theorem qlD {list:(List Int)} {x:Int} (ha1:GoT.R w (old w) list cs1) {r:Int} (hF:qiH n list x=some r):RetV Tryz.prog 89 [GoT.v (List Int) cs1,.int .i64 x] w r:=by
 obtain ⟨p1,k1,rfl,s1⟩:=ha1
 refine zV 19 Tryz.func89 rfl fun h=>X0 9 rfl ?_
 obtain ⟨o1,hF,hK1⟩:=qd hF
 refine qk (rL (fun m e w'=>∃ (i1:Int),qfa list x m i1=some o1∧e=[(0,.slice p1 list.length k1),(1,.int .i64 x),(5,.int .i64 i1)]∧SH w w' []) n ⟨_,hF,rfl,h⟩ rfl ?_)
 rintro m1 e1 w1 ⟨i1,hF,rfl,h⟩
 rcases m1 with _|m1
 ·cases hF
 refine X0 8 rfl (qi rfl hF ?_ ?_)<;>intro hF
 ·refine X0 7 rfl ?_
  obtain ⟨y1,hy1,hF,he1,b1,_,q1,cs2,hp1,hq1,rfl,hc2⟩:=s1.ix hF
  refine zxe hp1 hq1 he1 rfl (zc 0 (hc2.below h.below) rfl (X0 3 rfl (qi rfl hF ?_ ?_)))<;>intro hF
  ·refine X0 5 rfl ?_
   obtain rfl:=qb hF;replace hF:=hK1
   exact ri h hF rfl
  exact X0 7 rfl (rK ⟨_,hF,rfl,h⟩ rfl)
 refine qm rfl ?_
 obtain rfl:=qb hF;replace hF:=hK1
 exact X0 4 rfl (ri h hF rfl)
def qcn (list:(List qa)) (place:Int):Nat→(List Int)→Int→Option ((List Int) × Int)
 | 0,_,_=>none
 | n+1,x1,i1 =>
  bif decide (i1<(list.length:Int)) then
   (
    (idx list i1).bind fun y1 =>
    bif decide ((y1.Au.length:Int) > 0) then
     (idx list i1).bind fun y2 =>
     (qiH n y2.Au place).bind fun r1 =>
     some (decide (r1<0))
    else
     some false).bind fun b1 =>
   bif b1 then
    (appS x1 ([(-1)]:List Int)).bind fun x2 =>
    qcn list place n x2 (W64 (i1+1))
   else
    (appS x1 ([0]:List Int)).bind fun x3 =>
    qcn list place n x3 (W64 (i1+1))
  else
   some (x1,i1)
def qiA (n:Nat) (list:(List qa)) (place:Int):Option (List Int) :=
 (qcn list place n ([]:List Int) 0).bind fun o=>match o with
 | (x1,_) =>
  (qhG n list x1 place).bind fun r2 =>
  some r2
theorem qnU {list:(List qa)} {place:Int} (ha1:GoT.R w (old w) list cs1) {r:(List Int)} (hF:qiA n list place=some r):RetV Tryz.prog 36 [GoT.v (List qa) cs1,.int .i64 place] w r:=by
 obtain ⟨p1,k1,rfl,s1⟩:=ha1
 refine zV 40 Tryz.func36 rfl fun h=>X0 6 rfl (qG qc [] _ ([]:List Int) h rfl rfl rfl rfl rfl rfl rfl rfl rfl trivial rfl fun w1 p2 S1 h=>X0 7 rfl ?_)
 obtain ⟨o1,hF,hK1⟩:=qd hF
 refine qk (rL (fun m e w'=>∃ (S2:Nat→Prop) (p3:Option Addr) (ln1:Nat) (k2:Nat) (x1:(List Int)) (i1:Int),qcn list place m x1 i1=some o1∧e=[(0,.slice p1 list.length k1),(1,.int .i64 place),(5,.slice p3 ln1 k2),(6,.int .i64 i1)]∧SH w w' [Ch.own S2 (x1:List Int) [.slice p3 ln1 k2]]) n ⟨_,_,_,_,_,_,hF,rfl,h⟩ rfl ?_)
 rintro m1 e1 w2 ⟨S2,p3,ln1,k2,x1,i1,hF,rfl,h⟩
 obtain rfl:=(h.sl 0 rfl).2
 rcases m1 with _|m1
 ·cases hF
 refine X0 8 rfl (qi rfl hF ?_ ?_)<;>intro hF
 ·refine X0 9 rfl ?_
  obtain ⟨KF1,hKF1,o2,hF,hK2⟩:=bindE hF
  refine qcB (fun e w'=>∃ (b1:Bool),KF1 b1=some o1∧e=[(0,.slice p1 list.length k1),(1,.int .i64 place),(5,.slice p3 x1.length k2),(6,.int .i64 i1),(7,.int .i64 0),(31,.bool b1)]∧SH w w' [Ch.own S2 (x1:List Int) [.slice p3 x1.length k2]]) ?_ ?_
  ·refine X0 3 rfl ?_
   obtain ⟨y1,hy1,hF,he1,b2,_,q1,cs2,hp1,hq1,hr1,hc3⟩:=s1.ix hF
   obtain ⟨p8,k5,p9,k6,p10,k7,rfl,s2,s3,s4⟩:=qq hr1
   refine zxe hp1 hq1 he1 rfl (zp1 rfl (zc 2 (hc3.below h.below) rfl (zp3 rfl (ql (t:=22) hF rfl ?_ ?_))))<;>intro hF
   ·refine X0 5 rfl ?_
    obtain ⟨y2,hy2,hF,he2,b3,_,q2,cs3,hp2,hq2,hr2,hc4⟩:=s1.ix hF
    obtain ⟨p11,k8,p12,k9,p13,k10,rfl,s5,s6,s7⟩:=qq hr2
    refine zxe hp2 hq2 he2 rfl (X0 3 rfl (zc 2 (hc4.below h.below) rfl (X0 3 rfl (zcI h hF (qlD ⟨_,_,rfl,(h.oldS s5)⟩) rfl fun r1 w7 h hF=>X0 4 rfl ?_))))
    obtain rfl:=qb hF
    exact rG ⟨_,hK2,rfl,h⟩ rfl
   refine X0 10 rfl ?_
   obtain rfl:=qb hF
   exact rG ⟨_,hK2,rfl,h⟩ rfl
  rintro e2 w8 ⟨b1,hF,rfl,h⟩
  subst hKF1
  refine qi rfl hF ?_ ?_<;>intro hF
  ·refine X0 6 rfl (qG qc [.tmp 33] _ ([(-1)]:List Int) h rfl rfl rfl rfl rfl rfl rfl rfl rfl ⟨rfl,trivial⟩ rfl fun w3 p4 S3 h=>?_)
   obtain ⟨x2,hx1,hF⟩:=qd hF
   obtain ⟨g1,hx1⟩:=qae hx1
   refine qcg qc 1 h rfl (h.sl 0 rfl).1 (h.sl 0 rfl).2 rfl rfl rfl rfl rfl rfl rfl rfl rfl g1 hx1 rfl fun w4 p5 k3 S4 h=>X0 8 rfl ?_
   replace h:=h.pick [1] rfl
   exact rK ⟨_,_,_,_,_,_,hF,rfl,h⟩ rfl
  refine X0 4 rfl (qG qc [.tmp 33] _ ([0]:List Int) h rfl rfl rfl rfl rfl rfl rfl rfl rfl ⟨rfl,trivial⟩ rfl fun w5 p6 S5 h=>?_)
  obtain ⟨x3,hx2,hF⟩:=qd hF
  obtain ⟨g2,hx2⟩:=qae hx2
  refine qcg qc 1 h rfl (h.sl 0 rfl).1 (h.sl 0 rfl).2 rfl rfl rfl rfl rfl rfl rfl rfl rfl g2 hx2 rfl fun w6 p7 k4 S6 h=>X0 8 rfl ?_
  replace h:=h.pick [1] rfl
  exact rK ⟨_,_,_,_,_,_,hF,rfl,h⟩ rfl
 refine qm rfl ?_
 obtain rfl:=qb hF;replace hF:=hK1
 refine X0 5 rfl (zcL h hF (qlu ⟨_,_,rfl,(h.oldS s1)⟩ (h.own 0 rfl)) rfl fun r2 w9 S7 p14 k11 h hF=>X0 2 rfl ?_)
 obtain rfl:=qb hF
 exact rO 0 h rfl ⟨rfl,trivial⟩
def qdu (list:(List qa)) (tag:(List Int)) (place:Int):Nat→(List Int)→Int→Option ((List Int) × Int)
 | 0,_,_=>none
 | n+1,x1,i1 =>
  bif decide (i1<(list.length:Int)) then
   (idx list i1).bind fun y1 =>
   (idx tag i1).bind fun y2 =>
   (qbS n y1 y2 place).bind fun r2 =>
   (idx x1 i1).bind fun _ =>
   qdu list tag place n (setS x1 i1 r2) (W64 (i1+1))
  else
   some (x1,i1)
def qjh (n:Nat) (list:(List qa)) (tag:(List Int)) (place:Int):Option (List Int) :=
 (qcX n tag).bind fun r1 =>
 (qdu list tag place n r1 0).bind fun o=>match o with
 | (x1,_) =>
  some x1
theorem qoU {list:(List qa)} {tag:(List Int)} {place:Int} (ha1:GoT.R w (old w) list cs1) (ha2:GoT.R w (old w) tag cs2) {r:(List Int)} (hF:qjh n list tag place=some r):RetV Tryz.prog 103 [GoT.v (List qa) cs1,GoT.v (List Int) cs2,.int .i64 place] w r:=by
 obtain ⟨p1,k1,rfl,s1⟩:=ha1
 obtain ⟨p2,k2,rfl,s2⟩:=ha2
 refine zV 31 Tryz.func103 rfl fun h=>X0 7 rfl (zcL h hF (qia ⟨_,_,rfl,(h.oldS s2)⟩) rfl fun r1 w1 S1 p3 k3 h hF=>X0 9 rfl ?_)
 obtain ⟨o1,hF,hK1⟩:=qd hF
 refine qk (rL (fun m e w'=>∃ (x1:(List Int)) (i1:Int),qdu list tag place m x1 i1=some o1∧e=[(1,.slice p2 tag.length k2),(2,.int .i64 place),(7,.slice p3 r1.length k3),(12,.slice p1 list.length k1),(13,.int .i64 (list.length:Int)),(14,.int .i64 i1)]∧SH w w' [Ch.own S1 (x1:List Int) [.slice p3 r1.length k3]]) n ⟨_,_,hF,rfl,h⟩ rfl ?_)
 rintro m1 e1 w2 ⟨x1,i1,hF,rfl,h⟩
 rcases m1 with _|m1
 ·cases hF
 refine X0 5 rfl (qi rfl hF ?_ ?_)<;>intro hF
 ·refine X0 6 rfl ?_
  obtain ⟨y1,hy1,hF,he1,b1,_,q1,cs3,hp1,hq1,hr2,hc2⟩:=s1.ix hF
  obtain ⟨p4,k4,p5,k5,p6,k6,rfl,s3,s4,s5⟩:=qq hr2
  refine zxe hp1 hq1 he1 rfl (zc 0 (hc2.below h.below) rfl (qA qc h rfl rfl rfl fun w3 bb1 h=>zp1 rfl (zs 0 h rfl fun w4 h=>qcw (rA [] [0] h rfl fun w5 h=>M1 31 [0,1,2,3,4] 0 (h.pick [0] rfl) rfl ?_))))
  obtain ⟨y2,hy2,hF,he2,b2,_,q2,cs4,hp2,hq2,rfl,hc3⟩:=s2.ix hF
  refine Ae 5 63 hp2 hq2 he2 (h.pick [0] rfl) rfl (Al 6 127 0 hc3 (h.pick [0] rfl) rfl (M0 255 [7] (h.pick [0] rfl) rfl (Ao 8 511 rfl (zcI h hF (qdR (qav y1 (h.oldS s3) (h.oldS s4) (h.oldS s5))) rfl fun r2 w6 h hF=>Ag (h.pick [0] rfl) ?_))))
  obtain ⟨y3,hy3,hF,he3,b3,_,q3,cs5,hp3,hq3,rfl,hc4⟩:=(h.sl 1 rfl).1.ix hF
  refine Ax 9 1023 hp3 hq3 ⟨he3.1,qx he3.2.1 (h.sl 1 rfl).2⟩ (h.pick [0] rfl) rfl (Ao 10 2047 rfl (qaX qc 1 0 r2 h rfl hy3 hp3 hq3 rfl hc4 rfl rfl rfl rfl rfl rfl rfl fun w7 h=>Ag (h.pick [0] rfl) (Ad (X0 5 rfl ?_))))
  replace h:=h.pick [1] rfl
  exact rK ⟨_,_,hF,rfl,h⟩ rfl
 refine qm rfl ?_
 obtain rfl:=qb hF;replace hF:=hK1
 refine X0 5 rfl ?_
 obtain rfl:=qb hF
 exact rO 0 h rfl ⟨rfl,trivial⟩
def qgy (a_e:qa):Nat→Int→Int→Option (Int × Int)
 | 0,_,_=>none
 | n+1,i1,i2 =>
  bif decide (i2<((3:Nat):Int)) then
   (idx ([a_e.Aq,a_e.To,a_e.Au]:List (List Int)) i2).bind fun y1 =>
   bif decide ((y1.length:Int) > 0) then
    (shlS 1 i2).bind fun y2 =>
    qgy a_e n (W64 (i1+y2)) (W64 (i2+1))
   else
    qgy a_e n i1 (W64 (i2+1))
  else
   some (i1,i2)
def qkb (n:Nat) (a_e:qa):Option Int :=
 (qgy a_e n 0 0).bind fun o=>match o with
 | (i1,_) =>
  some i1
theorem qpQ {a_e:qa} (ha1:GoT.R w (old w) a_e cs1) {r:Int} (hF:qkb n a_e=some r):RetV Tryz.prog 155 [GoT.v qa cs1] w r:=by
 obtain ⟨p1,k1,p2,k2,p3,k3,rfl,s1,s2,s3⟩:=qq ha1
 refine zV 28 Tryz.func155 rfl fun h=>zSR (qu h rfl rfl fun w1 bb1 h=>X3 15 0 0 0 h rfl (qn8 qc [.tmp 7,.tmp 9,.tmp 11] _ ([a_e.Aq,a_e.To,a_e.Au]:List (List Int)) h rfl rfl rfl rfl rfl rfl rfl rfl rfl ⟨⟨_,_,rfl,s2⟩,⟨_,_,rfl,s3⟩,⟨_,_,rfl,s1⟩,trivial⟩ rfl fun w2 p4 S1 h=>X0 3 rfl ?_))
 obtain ⟨o1,hF,hK1⟩:=qd hF
 refine qk ?_
 replace h:=h.pick [0] rfl
 refine rL (fun m e w'=>∃ (i1:Int) (i2:Int),qgy a_e m i1 i2=some o1∧e=[(3,.int .i64 i1),(12,.slice p4 3 3),(13,.int .i64 ((3:Nat):Int)),(14,.int .i64 i2)]∧SH w w' [Ch.rowD w S1 (([a_e.Aq,a_e.To,a_e.Au]:List (List Int)):List (List Int)) p4 3]) n ⟨_,_,hF,rfl,h⟩ rfl ?_
 rintro m1 e1 w3 ⟨i1,i2,hF,rfl,h⟩
 rcases m1 with _|m1
 ·cases hF
 refine X0 5 rfl (qi rfl hF ?_ ?_)<;>intro hF
 ·refine X0 6 rfl ?_
  obtain ⟨y1,hy1,hF⟩:=qd hF
  have he1:=qax hy1
  obtain ⟨b1,o_1,q1,cs2,hp1,hq1,-,hr1,hc2⟩:=h.atD 0 rfl hy1
  obtain ⟨p5,k4,rfl,s4⟩:=hr1
  refine zxe hp1 hq1 he1 rfl (zc 0 hc2 rfl (X0 9 rfl (qi rfl hF ?_ ?_)))<;>intro hF
  ·refine X0 3 rfl ?_
   obtain ⟨y2,hx1,hF⟩:=qd hF
   obtain ⟨g1,hx1⟩:=qnL hx1
   refine r_v (qvf g1 rfl rfl) rfl ?_
   rw [hx1]
   exact X0 8 rfl (rK ⟨_,_,hF,rfl,h⟩ rfl)
  exact X0 6 rfl (rK ⟨_,_,hF,rfl,h⟩ rfl)
 refine qm rfl ?_
 obtain rfl:=qb hF;replace hF:=hK1
 exact X0 5 rfl (ri h hF rfl)
def qaU (list:(List qa)) (kind:Int) (greatest:Bool):Nat→Int→Int→Int→Option (Int × Int × Int)
 | 0,_,_,_=>none
 | n+1,i1,i2,i3 =>
  bif decide (i3<(list.length:Int)) then
   (idx list i3).bind fun y1 =>
   bif (y1.Ar != kind) then qaU list kind greatest n i1 i2 (W64 (i3+1)) else
   (qkb n y1).bind fun r1 =>
   bif decide (r1 > i1) then qaU list kind greatest n r1 y1.Bb (W64 (i3+1)) else
   bif (r1==i1) then
    bif ((decide (y1.Bb > i2))==greatest) then qaU list kind greatest n r1 y1.Bb (W64 (i3+1)) else
    qaU list kind greatest n i1 i2 (W64 (i3+1))
   else
    qaU list kind greatest n i1 i2 (W64 (i3+1))
  else
   some (i1,i2,i3)
def qfw (n:Nat) (list:(List qa)) (kind:Int) (greatest:Bool):Option Int :=
 (qaU list kind greatest n (-1) (-1) 0).bind fun o=>match o with
 | (_,i2,_) =>
  some i2
theorem qh6 {list:(List qa)} {kind:Int} {greatest:Bool} (ha1:GoT.R w (old w) list cs1) {r:Int} (hF:qfw n list kind greatest=some r):RetV Tryz.prog 93 [GoT.v (List qa) cs1,.int .i64 kind,.bool greatest] w r:=by
 obtain ⟨p1,k1,rfl,s1⟩:=ha1
 refine zV 45 Tryz.func93 rfl fun h=>X0 16 rfl ?_
 obtain ⟨o1,hF,hK1⟩:=qd hF
 refine qk (rL (fun m e w'=>∃ (i1:Int) (i2:Int) (i3:Int),qaU list kind greatest m i1 i2 i3=some o1∧e=[(1,.int .i64 kind),(2,.bool greatest),(7,.int .i64 i1),(8,.int .i64 i2),(12,.slice p1 list.length k1),(13,.int .i64 (list.length:Int)),(14,.int .i64 i3)]∧SH w w' []) n ⟨_,_,_,hF,rfl,h⟩ rfl ?_)
 rintro m1 e1 w1 ⟨i1,i2,i3,hF,rfl,h⟩
 rcases m1 with _|m1
 ·cases hF
 refine X0 5 rfl (qi rfl hF ?_ ?_)<;>intro hF
 ·refine zKSBSR ?_
  obtain ⟨y1,hy1,hF,he1,b1,_,q1,cs2,hp1,hq1,hr1,hc2⟩:=s1.ix hF
  obtain ⟨p2,k2,p3,k3,p4,k4,rfl,s2,s3,s4⟩:=qq hr1
  refine zxe hp1 hq1 he1 rfl (zc 0 (hc2.below h.below) rfl (qA qc h rfl rfl rfl fun w2 bb1 h=>zs 0 h rfl fun w3 h=>X1 9 0 h rfl (qi rfl hF ?_ ?_)))<;>intro hF
  ·refine qm rfl (X0 4 rfl ?_)
   replace h:=h.pick [] rfl
   exact rK ⟨_,_,_,hF,rfl,h⟩ rfl
  refine X1 4 0 h rfl (zcI h hF (qpQ (qav y1 (h.oldS s2) (h.oldS s3) (h.oldS s4))) rfl fun r1 w4 h hF=>X0 8 rfl (ql (t:=27) hF rfl ?_ ?_))<;>intro hF
  ·refine X0 13 rfl (qes rfl rfl (rD (Y1 3 0 h rfl ?_)))
   refine zd2 rfl (dN h fun w5 h=>X0 5 rfl ?_)
   replace h:=h.pick [] rfl
   exact rK ⟨_,_,_,hF,rfl,h⟩ rfl
  refine X0 8 rfl (ql (t:=31) hF rfl ?_ ?_)<;>intro hF
  ·refine X1 16 0 h rfl (qi rfl hF ?_ ?_)<;>intro hF
   ·refine rD (Y1 3 0 h rfl ?_)
    refine zd2 rfl (dN h fun w6 h=>X0 5 rfl ?_)
    replace h:=h.pick [] rfl
    exact rK ⟨_,_,_,hF,rfl,h⟩ rfl
   refine X0 6 rfl ?_
   replace h:=h.pick [] rfl
   exact rK ⟨_,_,_,hF,rfl,h⟩ rfl
  refine X0 10 rfl (qbK rfl rfl (X0 6 rfl ?_))
  replace h:=h.pick [] rfl
  exact rK ⟨_,_,_,hF,rfl,h⟩ rfl
 refine qm rfl ?_
 obtain rfl:=qb hF;replace hF:=hK1
 exact X0 5 rfl (ri h hF rfl)
def qi5 (_:Nat) (a_e:qa):Option Bool :=
 some (a_e.Ar==1)
theorem qmU {a_e:qa} (ha1:GoT.R w (old w) a_e cs1) {r:Bool} (hF:qi5 n a_e=some r):RetV Tryz.prog 94 [GoT.v qa cs1] w r:=by
 obtain ⟨p1,k1,p2,k2,p3,k3,rfl,s1,s2,s3⟩:=qq ha1
 exact zV 6 Tryz.func94 rfl fun h=>zSR (qu h rfl rfl fun w1 bb1 h=>X1 9 0 h rfl (rb h hF rfl))
def qE (s:(List qa)):Nat→Int→Option (Flow Int Int)
 | 0,_=>none
 | n+1,i1 =>
  bif decide (i1<(s.length:Int)) then
   (idx s i1).bind fun y1 =>
   (qi5 n y1).bind fun r1 =>
   bif r1 then some (.ret i1) else
   qE s n (W64 (i1+1))
  else
   some (.nxt i1)
def qaS (n:Nat) (s:(List qa)):Option Int :=
 (qE s n 0).bind fun o=>match o with
 | .ret r=>some r
 | .nxt _ =>
  some (-1)
theorem qek {s:(List qa)} (ha1:GoT.R w (old w) s cs1) {r:Int} (hF:qaS n s=some r):RetV Tryz.prog 138 [GoT.v (List qa) cs1,.func (.func 94) #[] #[]] w r:=by
 obtain ⟨p1,k1,rfl,s1⟩:=ha1
 refine zV 19 Tryz.func138 rfl fun h=>X0 11 rfl ?_
 obtain ⟨o1,hF,hK1⟩:=qd hF
 refine qk (rL (fun m e w'=>∃ (i1:Int),qE s m i1=some o1∧e=[(0,.slice p1 s.length k1),(1,.func (.func 94) #[] #[]),(7,.int .i64 (s.length:Int)),(8,.int .i64 i1)]∧SH w w' []) n ⟨_,hF,rfl,h⟩ rfl ?_)
 rintro m1 e1 w1 ⟨i1,hF,rfl,h⟩
 rcases m1 with _|m1
 ·cases hF
 refine X0 5 rfl (qi rfl hF ?_ ?_)<;>intro hF
 ·refine X0 13 rfl ?_
  obtain ⟨y1,hy1,hF,he1,b1,_,q1,cs2,hp1,hq1,hr1,hc2⟩:=s1.ix hF
  obtain ⟨p2,k2,p3,k3,p4,k4,rfl,s2,s3,s4⟩:=qq hr1
  refine zxe hp1 hq1 he1 rfl (zc 0 (hc2.below h.below) rfl (zcB h hF (qmU (qav y1 (h.oldS s2) (h.oldS s3) (h.oldS s4))) rfl fun r1 w2 h hF=>qcw (qi rfl hF ?_ ?_)))<;>intro hF
  ·refine X0 5 rfl ?_
   obtain rfl:=qb hF;replace hF:=hK1
   exact ri h hF rfl
  exact X0 6 rfl (rK ⟨_,hF,rfl,h⟩ rfl)
 refine qm rfl ?_
 obtain rfl:=qb hF;replace hF:=hK1
 exact X0 4 rfl (ri h hF rfl)
def qah (n:Nat) (s:(List qa)):Option Bool :=
 (qaS n s).bind fun r1 =>
 some (decide (r1 ≥ 0))
theorem qdE {s:(List qa)} (ha1:GoT.R w (old w) s cs1) {r:Bool} (hF:qah n s=some r):RetV Tryz.prog 76 [GoT.v (List qa) cs1,.func (.func 94) #[] #[]] w r:=by
 obtain ⟨p1,k1,rfl,s1⟩:=ha1
 exact zV 9 Tryz.func76 rfl fun h=>X0 8 rfl (zcI h hF (qek ⟨_,_,rfl,(h.oldS s1)⟩) rfl fun r1 w1 h hF=>X0 3 rfl (rb h hF rfl))
def qcq (list:(List qa)) (tag:(List Int)) (a_end:Int):Nat→(List qa)→Int→Option ((List qa) × Int)
 | 0,_,_=>none
 | n+1,x1,i1 =>
  bif decide (i1<(list.length:Int)) then
   (idx list i1).bind fun y1 =>
   (idx tag i1).bind fun y2 =>
   (qdL n y1 y2 a_end).bind fun r1 =>
   bif r1 then
    (appS x1 ([y1]:List qa)).bind fun x2 =>
    qcq list tag a_end n x2 (W64 (i1+1))
   else
    qcq list tag a_end n x1 (W64 (i1+1))
  else
   some (x1,i1)
def qdU (n:Nat) (list:(List qa)) (tag:(List Int)) (a_end:Int):Option qap :=
 (qcq list tag a_end n ([]:List qa) 0).bind fun o=>match o with
 | (x1,_) =>
  (qfw n x1 3 false).bind fun r2 =>
  (qfw n x1 4 true).bind fun r3 =>
  (qah n x1).bind fun r4 =>
  (qfw n x1 2 false).bind fun r5 =>
  bif decide (r5 > 0) then
   bif (r2==(-1)) then some (⟨r4,r5,r2,r3⟩:qap) else
   some (⟨r4,1,r2,r3⟩:qap)
  else
   some (⟨r4,1,r2,r3⟩:qap)
theorem qn6 {list:(List qa)} {tag:(List Int)} {a_end:Int} (ha1:GoT.R w (old w) list cs1) (ha2:GoT.R w (old w) tag cs2) {r:qap} (hF:qdU n list tag a_end=some r):RetV Tryz.prog 40 [GoT.v (List qa) cs1,GoT.v (List Int) cs2,.int .i64 a_end] w r:=by
 obtain ⟨p1,k1,rfl,s1⟩:=ha1
 obtain ⟨p2,k2,rfl,s2⟩:=ha2
 refine zV 51 Tryz.func40 rfl fun h=>zSR (qA qc h rfl rfl rfl fun w1 bb1 h=>X0 12 rfl ?_)
 replace h:=SH.nilD (α:=qa) h
 obtain ⟨o1,hF,hK1⟩:=qd hF
 refine qk (rL (fun m e w'=>∃ (S1:Nat→Prop) (p3:Option Addr) (k3:Nat) (x1:(List qa)) (i1:Int),qcq list tag a_end m x1 i1=some o1∧e=[(1,.slice p2 tag.length k2),(2,.int .i64 a_end),(6,.pointer (some ⟨bb1,0,none⟩)),(7,.slice p3 x1.length k3),(12,.slice p1 list.length k1),(13,.int .i64 (list.length:Int)),(14,.int .i64 i1)]∧SH w w' [Ch.rowD w S1 (x1:List qa) p3 k3,Ch.box bb1 [.bool false,.int .i64 0,.int .i64 0,.int .i64 0] 42]) n ⟨_,_,_,_,_,hF,rfl,h⟩ rfl ?_)
 rintro m1 e1 w2 ⟨S1,p3,k3,x1,i1,hF,rfl,h⟩
 rcases m1 with _|m1
 ·cases hF
 refine X0 5 rfl (qi rfl hF ?_ ?_)<;>intro hF
 ·refine X0 6 rfl ?_
  obtain ⟨y1,hy1,hF,he1,b1,_,q1,cs3,hp1,hq1,hr1,hc2⟩:=s1.ix hF
  obtain ⟨p4,k4,p5,k5,p6,k6,rfl,s3,s4,s5⟩:=qq hr1
  refine zxe hp1 hq1 he1 rfl (zc 0 (hc2.below h.below) rfl (qA qc h rfl rfl rfl fun w3 bb2 h=>zp1 rfl (zs 0 h rfl fun w4 h=>zNS (rD (Y1 1 0 h rfl ?_)))))
  refine zd2 rfl ?_
  obtain ⟨y2,hy2,hF,he2,b2,_,q2,cs4,hp2,hq2,rfl,hc3⟩:=s2.ix hF
  refine zdxe hp2 hq2 he2 rfl (zdc 0 (hc3.below h.below) rfl (zd1 rfl ?_))
  obtain ⟨r1,hr3,hF⟩:=qd hF
  refine qbR r1 (vsB _) (cB 92 rfl) (fun _ hb=>qj8 (qav y1 ((h.ext hb).oldS s3) ((h.ext hb).oldS s4) ((h.ext hb).oldS s5)) hr3) rfl rfl rfl rfl (dN h fun w5 h=>qi rfl hF ?_ ?_)<;>intro hF
  ·refine X1 3 0 h rfl (qn8 qc [.tmp 27] _ ([y1]:List qa) h rfl rfl rfl rfl rfl rfl rfl rfl rfl ⟨(qav y1 s3 s4 s5),trivial⟩ rfl fun w6 p7 S2 h=>?_)
   obtain ⟨x2,hx1,hF⟩:=qd hF
   obtain ⟨g1,hx1⟩:=qae hx1
   replace h:=h.pick [0,2,1,3] rfl
   refine qxc qc h rfl rfl rfl rfl rfl rfl rfl rfl rfl rfl rfl g1 hx1 rfl fun w7 p8 k7 S3 h=>X0 7 rfl ?_
   replace h:=h.pick [0,2] rfl
   exact rK ⟨_,_,_,_,_,hF,rfl,h⟩ rfl
  refine X0 6 rfl ?_
  replace h:=h.pick [1,2] rfl
  exact rK ⟨_,_,_,_,_,hF,rfl,h⟩ rfl
 refine qm rfl ?_
 obtain rfl:=qb hF;replace hF:=hK1
 refine X0 3 rfl (zcI h hF (qh6 ⟨_,_,rfl,(h.rowS 0 rfl)⟩) rfl fun r2 w8 h hF=>zp1 rfl (zcI h hF (qh6 ⟨_,_,rfl,(h.rowS 0 rfl)⟩) rfl fun r3 w9 h hF=>r_v (qgI qc [1,2,3] [.const (.int .i64 (1)),.tmp 32,.tmp 34] rfl rfl rfl rfl rfl rfl rfl rfl) rfl (qA qc h rfl rfl rfl fun w10 bb3 h=>zs 0 h rfl fun w11 h=>X0 4 rfl (zcB h hF (qdE ⟨_,_,rfl,(h.rowS 1 rfl)⟩) rfl fun r4 w12 h hF=>zp1 rfl (zs 0 h rfl fun w13 h=>X0 5 rfl (zcI h hF (qh6 ⟨_,_,rfl,(h.rowS 1 rfl)⟩) rfl fun r5 w14 h hF=>X0 7 rfl (ql (t:=43) hF rfl ?_ ?_)))))))<;>intro hF
 ·refine X1 8 0 h rfl (qi rfl hF ?_ ?_)<;>intro hF
  ·refine X0 3 rfl (zs 0 h rfl fun w15 h=>X1 4 0 h rfl (zs 2 h rfl fun w16 h=>qcw ?_))
   obtain rfl:=qb hF
   exact qak qc (ρ:=qap) [GoT.v qap [.bool r4,.int .i64 r5,.int .i64 r2,.int .i64 r3]] h ⟨⟨_,_,_,rfl,rfl,h.box 2 rfl,rfl⟩,trivial⟩ (PV.done h (qat (qy (S:=fun _=>False) (qhu (⟨r4,r5,r2,r3⟩:qap)))))
  refine X1 4 0 h rfl (zs 2 h rfl fun w17 h=>qcw ?_)
  obtain rfl:=qb hF
  exact qak qc (ρ:=qap) [GoT.v qap [.bool r4,.int .i64 1,.int .i64 r2,.int .i64 r3]] h ⟨⟨_,_,_,rfl,rfl,h.box 2 rfl,rfl⟩,trivial⟩ (PV.done h (qat (qy (S:=fun _=>False) (qhu (⟨r4,1,r2,r3⟩:qap)))))
 refine X0 5 rfl (qbK rfl rfl (X1 4 0 h rfl (zs 2 h rfl fun w18 h=>qcw ?_)))
 obtain rfl:=qb hF
 exact qak qc (ρ:=qap) [GoT.v qap [.bool r4,.int .i64 1,.int .i64 r2,.int .i64 r3]] h ⟨⟨_,_,_,rfl,rfl,h.box 2 rfl,rfl⟩,trivial⟩ (PV.done h (qat (qy (S:=fun _=>False) (qhu (⟨r4,1,r2,r3⟩:qap)))))
def qfF (_:Nat) (a_e:qa):Option Int :=
 (
  bif decide ((a_e.Au.length:Int) > 0) then some (W64 (0+4)) else
  some 0).bind fun i1 =>
 bif decide ((a_e.To.length:Int) > 0) then
  bif decide ((a_e.Aq.length:Int) > 0) then some (W64 ((W64 (i1+2))+1)) else
  some (W64 (i1+2))
 else
  bif decide ((a_e.Aq.length:Int) > 0) then some (W64 (i1+1)) else
  some i1
theorem qh0 {a_e:qa} (ha1:GoT.R w (old w) a_e cs1) {r:Int} (hF:qfF n a_e=some r):RetV Tryz.prog 208 [GoT.v qa cs1] w r:=by
 obtain ⟨p1,k1,p2,k2,p3,k3,rfl,s1,s2,s3⟩:=qq ha1
 refine zV 23 Tryz.func208 rfl fun h=>zSR (qu h rfl rfl fun w1 bb1 h=>X1 14 0 h rfl ?_)
 obtain ⟨KF1,hKF1,o1,hF,hK1⟩:=bindE hF
 refine qcB (fun e w'=>∃ (i1:Int),KF1 i1=some r∧e=[(1,.pointer (some ⟨bb1,0,none⟩)),(3,.int .i64 i1)]∧SH w w' [Ch.box bb1 (qgJ a_e p1 p2 p3 k1 k2 k3) 106]) ?_ ?_
 ·refine qi rfl hF ?_ ?_<;>intro hF
  ·refine X0 5 rfl ?_
   obtain rfl:=qb hF
   exact rG ⟨_,hK1,rfl,h⟩ rfl
  refine qhk ?_
  obtain rfl:=qb hF
  exact rG ⟨_,hK1,rfl,h⟩ rfl
 rintro e1 w2 ⟨i1,hF,rfl,h⟩
 subst hKF1
 refine X1 8 0 h rfl (qi rfl hF ?_ ?_)<;>intro hF
 ·refine X1 13 0 h rfl (qi rfl hF ?_ ?_)<;>intro hF
  ·exact X0 10 rfl (ri h hF rfl)
  exact X0 6 rfl (ri h hF rfl)
 refine X1 9 0 h rfl (qi rfl hF ?_ ?_)<;>intro hF
 ·exact X0 10 rfl (ri h hF rfl)
 exact X0 6 rfl (ri h hF rfl)
def qcb (a_0:(List qa)) (a_1:(List Bool)) (a_2:Int):Nat→Int→Int→Int→Option (Int × Int × Int)
 | 0,_,_,_=>none
 | n+1,i1,i2,i3 =>
  bif decide (i3<(a_0.length:Int)) then
   (
    (idx a_1 i3).bind fun y7 =>
    bif (!y7) then some true else
    (idx a_0 i3).bind fun y8 =>
    bif (y8.Ar != a_2) then some true else
    (idx a_0 i3).bind fun y9 =>
    (qfF n y9).bind fun r4 =>
    some (decide (r4<i1))).bind fun b1 =>
   bif b1 then qcb a_0 a_1 a_2 n i1 i2 (W64 (i3+1)) else
   (idx a_0 i3).bind fun y1 =>
   (
    bif (a_2==4) then
     (idx a_0 i3).bind fun y6 =>
     some (decide (y6.Bb > i2))
    else
     some (decide (y1.Bb<i2))).bind fun b3 =>
   (
    (idx a_0 i3).bind fun y5 =>
    (qfF n y5).bind fun r3 =>
    bif decide (r3 > i1) then some true else
    some b3).bind fun b4 =>
   bif b4 then
    (idx a_0 i3).bind fun y2 =>
    (idx a_0 i3).bind fun y3 =>
    (qfF n y3).bind fun r1 =>
    qcb a_0 a_1 a_2 n r1 y2.Bb (W64 (i3+1))
   else
    (idx a_0 i3).bind fun y4 =>
    (qfF n y4).bind fun r2 =>
    qcb a_0 a_1 a_2 n r2 i2 (W64 (i3+1))
  else
   some (i1,i2,i3)
def qfI (n:Nat) (a_0:(List qa)) (a_1:(List Bool)) (a_2:Int):Option Int :=
 (qcb a_0 a_1 a_2 n (-1) (-1) 0).bind fun o=>match o with
 | (_,i2,_) =>
  some i2
theorem qg9 {a_0:(List qa)} {a_1:(List Bool)} {a_2:Int} (ha1:GoT.R w (old w) a_0 cs1) (ha2:GoT.R w (old w) a_1 cs2) {r:Int} (hF:qfI n a_0 a_1 a_2=some r):RetV Tryz.prog 177 [GoT.v (List qa) cs1,GoT.v (List Bool) cs2,.int .i64 a_2] w r:=by
 obtain ⟨p1,k1,rfl,s1⟩:=ha1
 obtain ⟨p2,k2,rfl,s2⟩:=ha2
 refine zV 77 Tryz.func177 rfl fun h=>X0 17 rfl ?_
 obtain ⟨o1,hF,hK1⟩:=qd hF
 refine qk (rL (fun m e w'=>∃ (i1:Int) (i2:Int) (i3:Int),qcb a_0 a_1 a_2 m i1 i2 i3=some o1∧e=[(0,.slice p1 a_0.length k1),(1,.slice p2 a_1.length k2),(2,.int .i64 a_2),(7,.int .i64 i1),(8,.int .i64 i2),(9,.int .i64 i3)]∧SH w w' []) n ⟨_,_,_,hF,rfl,h⟩ rfl ?_)
 rintro m1 e1 w1 ⟨i1,i2,i3,hF,rfl,h⟩
 rcases m1 with _|m1
 ·cases hF
 refine X0 8 rfl (qi rfl hF ?_ ?_)<;>intro hF
 ·refine X0 5 rfl ?_
  obtain ⟨KF3,hKF3,o4,hF,hK4⟩:=bindE hF
  refine qcB (fun e w'=>∃ (b1:Bool),KF3 b1=some o1∧e=[(0,.slice p1 a_0.length k1),(1,.slice p2 a_1.length k2),(2,.int .i64 a_2),(7,.int .i64 i1),(8,.int .i64 i2),(9,.int .i64 i3),(39,.bool b1)]∧SH w w' []) ?_ ?_
  ·refine X0 3 rfl ?_
   obtain ⟨y7,hy7,hF,he7,b10,_,q7,cs9,hp7,hq7,rfl,hc11⟩:=s2.ix hF
   refine zxe hp7 hq7 he7 rfl (zc 0 (hc11.below h.below) rfl (zp2 rfl (ql (t:=22) hF rfl ?_ ?_)))<;>intro hF
   ·refine X0 18 rfl ?_
    obtain rfl:=qb hF
    exact rG ⟨_,hK4,rfl,h⟩ rfl
   refine X0 5 rfl ?_
   obtain ⟨y8,hy8,hF,he8,b11,_,q8,cs10,hp8,hq8,hr11,hc12⟩:=s1.ix hF
   obtain ⟨p21,k21,p22,k22,p23,k23,rfl,s21,s22,s23⟩:=qq hr11
   refine zxe hp8 hq8 he8 rfl (X0 3 rfl (zc 0 (hc12.below h.below) rfl (X0 6 rfl (ql (t:=31) hF rfl ?_ ?_))))<;>intro hF
   ·refine X0 9 rfl ?_
    obtain rfl:=qb hF
    exact rG ⟨_,hK4,rfl,h⟩ rfl
   refine X0 5 rfl ?_
   obtain ⟨y9,hy9,hF,he9,b12,_,q9,cs11,hp9,hq9,hr12,hc13⟩:=s1.ix hF
   obtain ⟨p24,k24,p25,k25,p26,k26,rfl,s24,s25,s26⟩:=qq hr12
   refine zxe hp9 hq9 he9 rfl (X0 1 rfl (zc 0 (hc13.below h.below) rfl (X0 1 rfl (zcI h hF (qh0 (qav y9 (h.oldS s24) (h.oldS s25) (h.oldS s26))) rfl fun r4 w7 h hF=>X0 6 rfl ?_))))
   obtain rfl:=qb hF
   exact rG ⟨_,hK4,rfl,h⟩ rfl
  rintro e4 w8 ⟨b1,hF,rfl,h⟩
  subst hKF3
  refine qi rfl hF ?_ ?_<;>intro hF
  ·exact qm rfl (X0 5 rfl (rK ⟨_,_,_,hF,rfl,h⟩ rfl))
  refine X0 5 rfl ?_
  obtain ⟨y1,hy1,hF,he1,b2,_,q1,cs3,hp1,hq1,hr1,hc3⟩:=s1.ix hF
  obtain ⟨p3,k3,p4,k4,p5,k5,rfl,s3,s4,s5⟩:=qq hr1
  refine zxe hp1 hq1 he1 rfl (zp1 rfl (zc 1 (hc3.below h.below) rfl (X0 10 rfl ?_)))
  obtain ⟨KF2,hKF2,o3,hF,hK3⟩:=bindE hF
  refine qcB (fun e w'=>∃ (b3:Bool),KF2 b3=some o1∧e=[(0,.slice p1 a_0.length k1),(1,.slice p2 a_1.length k2),(2,.int .i64 a_2),(7,.int .i64 i1),(8,.int .i64 i2),(9,.int .i64 i3),(10,.bool b3)]∧SH w w' []) ?_ ?_
  ·refine qi rfl hF ?_ ?_<;>intro hF
   ·refine X0 3 rfl ?_
    obtain ⟨y6,hy6,hF,he6,b9,_,q6,cs8,hp6,hq6,hr9,hc10⟩:=s1.ix hF
    obtain ⟨p18,k18,p19,k19,p20,k20,rfl,s18,s19,s20⟩:=qq hr9
    refine zxe hp6 hq6 he6 rfl (zp1 rfl (zc 1 (hc10.below h.below) rfl (X0 4 rfl ?_)))
    obtain rfl:=qb hF
    exact rG ⟨_,hK3,rfl,h⟩ rfl
   refine qhk ?_
   obtain rfl:=qb hF
   exact rG ⟨_,hK3,rfl,h⟩ rfl
  rintro e3 w6 ⟨b3,hF,rfl,h⟩
  subst hKF2
  refine zSS ?_
  obtain ⟨KF1,hKF1,o2,hF,hK2⟩:=bindE hF
  refine qcB (fun e w'=>∃ (b4:Bool),KF1 b4=some o1∧e=[(0,.slice p1 a_0.length k1),(1,.slice p2 a_1.length k2),(2,.int .i64 a_2),(8,.int .i64 i2),(9,.int .i64 i3),(65,.bool b4)]∧SH w w' []) ?_ ?_
  ·refine X0 3 rfl ?_
   obtain ⟨y5,hy5,hF,he5,b8,_,q5,cs7,hp5,hq5,hr7,hc8⟩:=s1.ix hF
   obtain ⟨p15,k15,p16,k16,p17,k17,rfl,s15,s16,s17⟩:=qq hr7
   refine zxe hp5 hq5 he5 rfl (zc 0 (hc8.below h.below) rfl (zcI h hF (qh0 (qav y5 (h.oldS s15) (h.oldS s16) (h.oldS s17))) rfl fun r3 w4 h hF=>zp3 rfl (ql (t:=63) hF rfl ?_ ?_)))<;>intro hF
   ·refine X0 3 rfl ?_
    obtain rfl:=qb hF
    exact rG ⟨_,hK2,rfl,h⟩ rfl
   refine X0 4 rfl ?_
   obtain rfl:=qb hF
   exact rG ⟨_,hK2,rfl,h⟩ rfl
  rintro e2 w5 ⟨b4,hF,rfl,h⟩
  subst hKF1
  refine qi rfl hF ?_ ?_<;>intro hF
  ·refine X0 3 rfl ?_
   obtain ⟨y2,hy2,hF,he2,b5,_,q2,cs4,hp2,hq2,hr2,hc5⟩:=s1.ix hF
   obtain ⟨p6,k6,p7,k7,p8,k8,rfl,s6,s7,s8⟩:=qq hr2
   refine zxe hp2 hq2 he2 rfl (zp1 rfl (zc 1 (hc5.below h.below) rfl (X0 5 rfl ?_)))
   obtain ⟨y3,hy3,hF,he3,b6,_,q3,cs5,hp3,hq3,hr3,hc6⟩:=s1.ix hF
   obtain ⟨p9,k9,p10,k10,p11,k11,rfl,s9,s10,s11⟩:=qq hr3
   exact zxe hp3 hq3 he3 rfl (zc 0 (hc6.below h.below) rfl (zcI h hF (qh0 (qav y3 (h.oldS s9) (h.oldS s10) (h.oldS s11))) rfl fun r1 w2 h hF=>X0 8 rfl (rK ⟨_,_,_,hF,rfl,h⟩ rfl)))
  refine X0 4 rfl ?_
  obtain ⟨y4,hy4,hF,he4,b7,_,q4,cs6,hp4,hq4,hr5,hc7⟩:=s1.ix hF
  obtain ⟨p12,k12,p13,k13,p14,k14,rfl,s12,s13,s14⟩:=qq hr5
  exact zxe hp4 hq4 he4 rfl (zc 0 (hc7.below h.below) rfl (zcI h hF (qh0 (qav y4 (h.oldS s12) (h.oldS s13) (h.oldS s14))) rfl fun r2 w3 h hF=>X0 8 rfl (rK ⟨_,_,_,hF,rfl,h⟩ rfl)))
 refine qm rfl ?_
 obtain rfl:=qb hF;replace hF:=hK1
 exact X0 5 rfl (ri h hF rfl)
def qhS (n:Nat) (list:(List qa)) (matching:(List Bool)):Option qap :=
 (qfI n list matching 3).bind fun r1 =>
 (qfI n list matching 4).bind fun r2 =>
 (qfI n list matching 1).bind fun r3 =>
 (qfI n list matching 2).bind fun r4 =>
 bif (r1==(-1)) then
  bif decide (r4 > 0) then some (⟨(r3==0),r4,r1,r2⟩:qap) else
  some (⟨(r3==0),1,r1,r2⟩:qap)
 else
  some (⟨(r3==0),1,r1,r2⟩:qap)
theorem qm9 {list:(List qa)} {matching:(List Bool)} (ha1:GoT.R w (old w) list cs1) (ha2:GoT.R w (old w) matching cs2) {r:qap} (hF:qhS n list matching=some r):RetV Tryz.prog 127 [GoT.v (List qa) cs1,GoT.v (List Bool) cs2] w r:=by
 obtain ⟨p1,k1,rfl,s1⟩:=ha1
 obtain ⟨p2,k2,rfl,s2⟩:=ha2
 refine zV 32 Tryz.func127 rfl fun h=>zSR (qA qc h rfl rfl rfl fun w1 bb1 h=>X0 5 rfl (zcI h hF (qg9 ⟨_,_,rfl,(h.oldS s1)⟩ ⟨_,_,rfl,(h.oldS s2)⟩) rfl fun r1 w2 h hF=>zp2 rfl (zcI h hF (qg9 ⟨_,_,rfl,(h.oldS s1)⟩ ⟨_,_,rfl,(h.oldS s2)⟩) rfl fun r2 w3 h hF=>r_v (qgI qc [1,2,3] [.const (.int .i64 (1)),.tmp 9,.tmp 12] rfl rfl rfl rfl rfl rfl rfl rfl) rfl (qA qc h rfl rfl rfl fun w4 bb2 h=>zs 0 h rfl fun w5 h=>X0 5 rfl (zcI h hF (qg9 ⟨_,_,rfl,(h.oldS s1)⟩ ⟨_,_,rfl,(h.oldS s2)⟩) rfl fun r3 w6 h hF=>zp2 rfl (zs 0 h rfl fun w7 h=>X0 5 rfl (zcI h hF (qg9 ⟨_,_,rfl,(h.oldS s1)⟩ ⟨_,_,rfl,(h.oldS s2)⟩) rfl fun r4 w8 h hF=>X1 9 0 h rfl (ql (t:=25) hF rfl ?_ ?_))))))))<;>intro hF
 ·refine X0 6 rfl (qi rfl hF ?_ ?_)<;>intro hF
  ·refine X0 3 rfl (zs 0 h rfl fun w9 h=>X1 4 0 h rfl (zs 1 h rfl fun w10 h=>qcw ?_))
   obtain rfl:=qb hF
   exact qak qc (ρ:=qap) [GoT.v qap [.bool (r3==0),.int .i64 r4,.int .i64 r1,.int .i64 r2]] h ⟨⟨_,_,_,rfl,rfl,h.box 1 rfl,rfl⟩,trivial⟩ (PV.done h (qat (qy (S:=fun _=>False) (qhu (⟨(r3==0),r4,r1,r2⟩:qap)))))
  refine X1 4 0 h rfl (zs 1 h rfl fun w11 h=>qcw ?_)
  obtain rfl:=qb hF
  exact qak qc (ρ:=qap) [GoT.v qap [.bool (r3==0),.int .i64 1,.int .i64 r1,.int .i64 r2]] h ⟨⟨_,_,_,rfl,rfl,h.box 1 rfl,rfl⟩,trivial⟩ (PV.done h (qat (qy (S:=fun _=>False) (qhu (⟨(r3==0),1,r1,r2⟩:qap)))))
 refine X0 4 rfl (qbK rfl rfl (X1 4 0 h rfl (zs 1 h rfl fun w12 h=>qcw ?_)))
 obtain rfl:=qb hF
 exact qak qc (ρ:=qap) [GoT.v qap [.bool (r3==0),.int .i64 1,.int .i64 r1,.int .i64 r2]] h ⟨⟨_,_,_,rfl,rfl,h.box 1 rfl,rfl⟩,trivial⟩ (PV.done h (qat (qy (S:=fun _=>False) (qhu (⟨(r3==0),1,r1,r2⟩:qap)))))
def qbY (list:(List qa)) (tag:(List Int)) (a_end:Int):Nat→(List Bool)→Int→Option ((List Bool) × Int)
 | 0,_,_=>none
 | n+1,x1,i1 =>
  bif decide (i1<(list.length:Int)) then
   (
    (idx list i1).bind fun y3 =>
    bif ((y3.To.length:Int)==0) then some true else
    (idx list i1).bind fun y4 =>
    (qiH n y4.To a_end).bind fun r1 =>
    some (decide (r1 ≥ 0))).bind fun b1 =>
   bif b1 then
    (idx tag i1).bind fun y1 =>
    (idx list i1).bind fun y2 =>
    (appS x1 ([(y1==(y2.Aq.length:Int))]:List Bool)).bind fun x2 =>
    qbY list tag a_end n x2 (W64 (i1+1))
   else
    (appS x1 ([false]:List Bool)).bind fun x3 =>
    qbY list tag a_end n x3 (W64 (i1+1))
  else
   some (x1,i1)
def qgw (n:Nat) (list:(List qa)) (tag:(List Int)) (a_end:Int):Option qap :=
 (qbY list tag a_end n ([]:List Bool) 0).bind fun o=>match o with
 | (x1,_) =>
  (qhS n list x1).bind fun r2 =>
  some r2
theorem qnn {list:(List qa)} {tag:(List Int)} {a_end:Int} (ha1:GoT.R w (old w) list cs1) (ha2:GoT.R w (old w) tag cs2) {r:qap} (hF:qgw n list tag a_end=some r):RetV Tryz.prog 67 [GoT.v (List qa) cs1,GoT.v (List Int) cs2,.int .i64 a_end] w r:=by
 obtain ⟨p1,k1,rfl,s1⟩:=ha1
 obtain ⟨p2,k2,rfl,s2⟩:=ha2
 refine zV 54 Tryz.func67 rfl fun h=>zSR (qA qc h rfl rfl rfl fun w1 bb1 h=>zNSR (qG qc [] _ ([]:List Bool) h rfl rfl rfl rfl rfl rfl rfl rfl rfl trivial rfl fun w2 p3 S1 h=>X0 7 rfl ?_))
 obtain ⟨o1,hF,hK1⟩:=qd hF
 refine qk (rL (fun m e w'=>∃ (S2:Nat→Prop) (p4:Option Addr) (ln1:Nat) (k3:Nat) (x1:(List Bool)) (i1:Int),qbY list tag a_end m x1 i1=some o1∧e=[(0,.slice p1 list.length k1),(1,.slice p2 tag.length k2),(2,.int .i64 a_end),(6,.pointer (some ⟨bb1,0,none⟩)),(7,.slice p4 ln1 k3),(8,.int .i64 i1)]∧SH w w' [Ch.own S2 (x1:List Bool) [.slice p4 ln1 k3],Ch.box bb1 [.bool false,.int .i64 0,.int .i64 0,.int .i64 0] 42]) n ⟨_,_,_,_,_,_,hF,rfl,h⟩ rfl ?_)
 rintro m1 e1 w3 ⟨S2,p4,ln1,k3,x1,i1,hF,rfl,h⟩
 obtain rfl:=(h.sl 0 rfl).2
 rcases m1 with _|m1
 ·cases hF
 refine X0 8 rfl (qi rfl hF ?_ ?_)<;>intro hF
 ·refine X0 4 rfl ?_
  obtain ⟨KF1,hKF1,o2,hF,hK2⟩:=bindE hF
  refine qcB (fun e w'=>∃ (b1:Bool),KF1 b1=some o1∧e=[(0,.slice p1 list.length k1),(1,.slice p2 tag.length k2),(2,.int .i64 a_end),(6,.pointer (some ⟨bb1,0,none⟩)),(7,.slice p4 x1.length k3),(8,.int .i64 i1),(9,.bool b1)]∧SH w w' [Ch.own S2 (x1:List Bool) [.slice p4 x1.length k3],Ch.box bb1 [.bool false,.int .i64 0,.int .i64 0,.int .i64 0] 42]) ?_ ?_
  ·refine X0 3 rfl ?_
   obtain ⟨y3,hy3,hF,he3,b4,_,q3,cs5,hp3,hq3,hr3,hc4⟩:=s1.ix hF
   obtain ⟨p12,k9,p13,k10,p14,k11,rfl,s6,s7,s8⟩:=qq hr3
   refine zxe hp3 hq3 he3 rfl (zp1 rfl (zc 4 (hc4.below h.below) rfl (zp3 rfl (ql (t:=24) hF rfl ?_ ?_))))<;>intro hF
   ·refine X0 11 rfl ?_
    obtain rfl:=qb hF
    exact rG ⟨_,hK2,rfl,h⟩ rfl
   refine X0 5 rfl ?_
   obtain ⟨y4,hy4,hF,he4,b5,_,q4,cs6,hp4,hq4,hr4,hc5⟩:=s1.ix hF
   obtain ⟨p15,k12,p16,k13,p17,k14,rfl,s9,s10,s11⟩:=qq hr4
   refine zxe hp4 hq4 he4 rfl (X0 3 rfl (zc 4 (hc5.below h.below) rfl (X0 3 rfl (zcI h hF (qlD ⟨_,_,rfl,(h.oldS s11)⟩) rfl fun r1 w9 h hF=>X0 5 rfl ?_))))
   obtain rfl:=qb hF
   exact rG ⟨_,hK2,rfl,h⟩ rfl
  rintro e2 w10 ⟨b1,hF,rfl,h⟩
  subst hKF1
  refine rA [] [] h rfl fun w4 h=>M0 7 [0,1,2] (h.pick [] rfl) rfl (qtP (t:=36) hF rfl ?_ ?_)<;>intro hF
  ·refine qdQ 3 rfl (by kernel_rfl) (bits 18 15) (by kernel_rfl) (by kernel_rfl) (fun w' hw=>v_p qc rfl w') (h.pick [] rfl) rfl (qdQ 4 rfl (by kernel_rfl) (bits 18 31) (by kernel_rfl) (by kernel_rfl) (fun w' hw=>v_p qc rfl w') (h.pick [] rfl) rfl ?_)
   obtain ⟨y1,hy1,hF,he1,b2,_,q1,cs3,hp1,hq1,rfl,hc2⟩:=s2.ix hF
   refine qdQ 5 rfl (by kernel_rfl) (bits 18 63) (by kernel_rfl) (by kernel_rfl) (fun w' hw=>qng qc hp1 hq1 ⟨he1.1,he1.2.1⟩ rfl rfl rfl rfl rfl rfl) (h.pick [] rfl) rfl (qdQ 6 rfl (by kernel_rfl) (bits 18 127) (by kernel_rfl) (by kernel_rfl) (fun w' hw=>qim qc (hc2.below hw.below) (j:=0) rfl rfl rfl) (h.pick [] rfl) rfl (qdQ 7 rfl (by kernel_rfl) (bits 18 255) (by kernel_rfl) (by kernel_rfl) (fun w' hw=>v_p qc rfl w') (h.pick [] rfl) rfl (qdQ 8 rfl (by kernel_rfl) (bits 18 511) (by kernel_rfl) (by kernel_rfl) (fun w' hw=>v_p qc rfl w') (h.pick [] rfl) rfl ?_)))
   obtain ⟨y2,hy2,hF,he2,b3,_,q2,cs4,hp2,hq2,hr2,hc3⟩:=s1.ix hF
   obtain ⟨p5,k4,p6,k5,p7,k6,rfl,s3,s4,s5⟩:=qq hr2
   refine qdQ 9 rfl (by kernel_rfl) (bits 18 1023) (by kernel_rfl) (by kernel_rfl) (fun w' hw=>qng qc hp2 hq2 ⟨he2.1,he2.2.1⟩ rfl rfl rfl rfl rfl rfl) (h.pick [] rfl) rfl (qdQ 10 rfl (by kernel_rfl) (bits 18 2047) (by kernel_rfl) (by kernel_rfl) (fun w' hw=>v_p qc rfl w') (h.pick [] rfl) rfl (qdQ 11 rfl (by kernel_rfl) (bits 18 4095) (by kernel_rfl) (by kernel_rfl) (fun w' hw=>qim qc (hc3.below hw.below) (j:=3) rfl rfl rfl) (h.pick [] rfl) rfl (qdQ 12 rfl (by kernel_rfl) (bits 18 8191) (by kernel_rfl) (by kernel_rfl) (fun w' hw=>v_p qc rfl w') (h.pick [] rfl) rfl (qdQ 13 rfl (by kernel_rfl) (bits 18 16383) (by kernel_rfl) (by kernel_rfl) (fun w' hw=>v_p qc rfl w') (h.pick [] rfl) rfl (M0 32767 [14] (h.pick [] rfl) rfl (Ao 15 65535 rfl (qG qc [.tmp 48] _ ([(y1==(y2.Aq.length:Int))]:List Bool) h rfl rfl rfl rfl rfl rfl rfl rfl rfl ⟨rfl,trivial⟩ rfl fun w5 p8 S3 h=>Ag (h.pick [] rfl) (Ao 16 131071 rfl ?_))))))))
   obtain ⟨x2,hx1,hF⟩:=qd hF
   obtain ⟨g1,hx1⟩:=qae hx1
   refine qcg qc 1 h rfl (h.sl 0 rfl).1 (h.sl 0 rfl).2 rfl rfl rfl rfl rfl rfl rfl rfl rfl g1 hx1 rfl fun w6 p9 k7 S4 h=>G0 262143 [17] (h.pick [] rfl) rfl (Ad (X0 6 rfl ?_))
   replace h:=h.pick [1,2] rfl
   exact rK ⟨_,_,_,_,_,_,hF,rfl,h⟩ rfl
  refine qg0 3 rfl (by kernel_rfl) rfl (bits 18 15) (by kernel_rfl) (by kernel_rfl) (h.pick [] rfl) rfl (qg0 4 rfl (by kernel_rfl) rfl (bits 18 31) (by kernel_rfl) (by kernel_rfl) (h.pick [] rfl) rfl (qg0 5 rfl (by kernel_rfl) rfl (bits 18 63) (by kernel_rfl) (by kernel_rfl) (h.pick [] rfl) rfl (qg0 6 rfl (by kernel_rfl) rfl (bits 18 127) (by kernel_rfl) (by kernel_rfl) (h.pick [] rfl) rfl (qg0 7 rfl (by kernel_rfl) rfl (bits 18 255) (by kernel_rfl) (by kernel_rfl) (h.pick [] rfl) rfl (qg0 8 rfl (by kernel_rfl) rfl (bits 18 511) (by kernel_rfl) (by kernel_rfl) (h.pick [] rfl) rfl (qg0 9 rfl (by kernel_rfl) rfl (bits 18 1023) (by kernel_rfl) (by kernel_rfl) (h.pick [] rfl) rfl (qg0 10 rfl (by kernel_rfl) rfl (bits 18 2047) (by kernel_rfl) (by kernel_rfl) (h.pick [] rfl) rfl (qg0 11 rfl (by kernel_rfl) rfl (bits 18 4095) (by kernel_rfl) (by kernel_rfl) (h.pick [] rfl) rfl (qg0 12 rfl (by kernel_rfl) rfl (bits 18 8191) (by kernel_rfl) (by kernel_rfl) (h.pick [] rfl) rfl (qg0 13 rfl (by kernel_rfl) rfl (bits 18 16383) (by kernel_rfl) (by kernel_rfl) (h.pick [] rfl) rfl (M0 32767 [14] (h.pick [] rfl) rfl (Ao 15 65535 rfl (qG qc [.tmp 48] _ ([false]:List Bool) h rfl rfl rfl rfl rfl rfl rfl rfl rfl ⟨rfl,trivial⟩ rfl fun w7 p10 S5 h=>Ag (h.pick [] rfl) (Ao 16 131071 rfl ?_))))))))))))))
  obtain ⟨x3,hx2,hF⟩:=qd hF
  obtain ⟨g2,hx2⟩:=qae hx2
  refine qcg qc 1 h rfl (h.sl 0 rfl).1 (h.sl 0 rfl).2 rfl rfl rfl rfl rfl rfl rfl rfl rfl g2 hx2 rfl fun w8 p11 k8 S6 h=>G0 262143 [17] (h.pick [] rfl) rfl (Ad (X0 6 rfl ?_))
  replace h:=h.pick [1,2] rfl
  exact rK ⟨_,_,_,_,_,_,hF,rfl,h⟩ rfl
 refine qm rfl ?_
 obtain rfl:=qb hF;replace hF:=hK1
 refine X0 4 rfl (zcO h hF (qm9 ⟨_,_,rfl,(h.oldS s1)⟩ (h.own 0 rfl)) rfl fun r2 w11 S7 cs7 h hF=>?_)
 obtain rfl:=qle (h.own 0 rfl)
 refine zs 2 h rfl fun w12 h=>qcw ?_
 obtain rfl:=qb hF
 exact qak qc (ρ:=qap) [GoT.v qap (qnZ r2)] h ⟨⟨_,_,_,rfl,rfl,h.box 2 rfl,rfl⟩,trivial⟩ (PV.done h (qat (qay 0 h rfl)))
def qcf (a:(List Int)):Nat→(List Int)→Int→Int→Option ((List Int) × Int × Int)
 | 0,_,_,_=>none
 | n+1,x1,i1,i2 =>
  bif decide (i2<(a.length:Int)) then
   (idx x1 i2).bind fun _ =>
   qcf a n (setS x1 i2 i1) (W64 (i1+1)) (W64 (i2+1))
  else
   some (x1,i1,i2)
def qam (n:Nat) (a:(List Int)) (k:Int):Option (Int × (List Int)) :=
 (qcf a n a k 0).bind fun o=>match o with
 | (x1,i1,_) =>
  some (i1,x1)
theorem qai {n:Nat} {w0 w:World} {F:List Ch} {a:(List Int)} {k:Int} {S1:Nat→Prop} {p1:Option Addr} {ln1 k1:Nat} (h:SH w0 w (Ch.own S1 (a:List Int) [.slice p1 ln1 k1]::F)) {r:(Int × (List Int))} (hF:qam n a k=some r):RetN Tryz.prog 65 [.slice p1 ln1 k1,.int .i64 k] w (fun w'=>∃ Z0:Nat→Prop,SH w0 w' (Ch.own Z0 (r.2:List Int) [.slice p1 ln1 k1]::F)) r.1:=by
 refine qbZ Tryz.func65 rfl (m:=19) rfl rfl ?_
 obtain rfl:=(h.sl 0 rfl).2
 refine X0 9 rfl ?_
 obtain ⟨o1,hF,hK1⟩:=qd hF
 refine qk (rL (fun m e w'=>∃ (x1:(List Int)) (i1:Int) (i2:Int),qcf a m x1 i1 i2=some o1∧e=[(0,.slice p1 a.length k1),(1,.int .i64 i1),(5,.int .i64 i2)]∧SH w0 w' (Ch.own S1 (x1:List Int) [.slice p1 a.length k1]::F)) n ⟨_,_,_,hF,rfl,h⟩ rfl ?_)
 rintro m1 e1 w1 ⟨x1,i1,i2,hF,rfl,h⟩
 rcases m1 with _|m1
 ·cases hF
 refine X0 8 rfl (qi rfl hF ?_ ?_)<;>intro hF
 ·refine X0 8 rfl ?_
  obtain ⟨y1,hy1,hF,he1,b1,_,q1,cs1,hp1,hq1,rfl,hc2⟩:=(h.sl 0 rfl).1.ix hF
  exact zx hp1 hq1 ⟨he1.1,qx he1.2.1 (h.sl 0 rfl).2⟩ rfl (qaX qc 0 0 i1 h rfl hy1 hp1 hq1 rfl hc2 rfl rfl rfl rfl rfl rfl rfl fun w2 h=>X0 12 rfl (rK ⟨_,_,_,hF,rfl,h⟩ rfl))
 refine qm rfl ?_
 obtain rfl:=qb hF;replace hF:=hK1
 refine X0 5 rfl ?_
 obtain rfl:=qb hF
 exact qhY qc ⟨_,h⟩ ⟨rfl,trivial⟩
def qfy:Nat→Int→ByteArray→Option (Int × ByteArray)
 | 0,_,_=>none
 | n+1,i1,z1 =>
  bif decide (i1 > 0) then
   (catB (strOf ([(⟨IntKind.wrap .u8 (W64 (48+(i1.tmod 10)))⟩:IntK .u8)]:List (IntK .u8))) z1).bind fun z2 =>
   qfy n (W64 (i1.tdiv 10)) z2
  else
   some (i1,z1)
def qdW (n:Nat) (k:Int):Option ByteArray :=
 bif decide (k≤0) then some (⟨#[109,48]⟩:ByteArray) else
 (qfy n k (⟨#[]⟩:ByteArray)).bind fun o=>match o with
 | (_,z1) =>
  (catB (⟨#[109]⟩:ByteArray) z1).bind fun z3 =>
  some z3
theorem qfo {k:Int}  {r:ByteArray} (hF:qdW n k=some r):RetV Tryz.prog 174 [.int .i64 k] w r:=by
 refine zV 20 Tryz.func174 rfl fun h=>X0 10 rfl (qi rfl hF ?_ ?_)<;>intro hF
 ·refine X0 4 rfl ?_
  obtain rfl:=qb hF
  exact qak qc (ρ:=ByteArray) [_] h ⟨rfl,trivial⟩ (qsH _ _)
 refine X0 6 rfl ?_
 obtain ⟨o1,hF,hK1⟩:=qd hF
 refine qk (rL (fun m e w'=>∃ (i1:Int) (z1:ByteArray),qfy m i1 z1=some o1∧e=[(0,.int .i64 i1),(3,.string z1)]∧SH w w' []) n ⟨_,_,hF,rfl,h⟩ rfl ?_)
 rintro m1 e1 w1 ⟨i1,z1,hF,rfl,h⟩
 rcases m1 with _|m1
 ·cases hF
 refine X0 6 rfl (qi rfl hF ?_ ?_)<;>intro hF
 ·refine X0 8 rfl (qG qc [.tmp 11] _ ([(⟨IntKind.wrap .u8 (W64 (48+(i1.tmod 10)))⟩:IntK .u8)]:List (IntK .u8)) h rfl rfl rfl rfl rfl rfl rfl rfl rfl ⟨rfl,trivial⟩ rfl fun w2 p1 S1 h=>r_v (qwh qc (h.sl 0 rfl).1 (h.sl 0 rfl).2 rfl ⟨rfl,rfl⟩ ⟨rfl,rfl⟩ rfl rfl) rfl (zp1 rfl ?_))
  obtain ⟨z2,hx1,hF⟩:=qd hF
  obtain ⟨g1,hx1⟩:=qqs hx1
  refine r_v (qw9 g1 rfl rfl) rfl ?_
  rw [hx1]
  refine X0 8 rfl ?_
  replace h:=h.pick [] rfl
  exact rK ⟨_,_,hF,rfl,h⟩ rfl
 refine qm rfl ?_
 obtain rfl:=qb hF;replace hF:=hK1
 refine X0 3 rfl ?_
 obtain ⟨z3,hx2,hF⟩:=qd hF
 obtain ⟨g2,hx2⟩:=qqs hx2
 refine r_v (qw9 g2 rfl rfl) rfl ?_
 rw [hx2]
 refine X0 2 rfl ?_
 obtain rfl:=qb hF
 exact qak qc (ρ:=ByteArray) [_] h ⟨rfl,trivial⟩ (qsH _ _)
def qd5 (a:(List qX)):Nat→(List qX)→Int→Int→Option ((List qX) × Int × Int)
 | 0,_,_,_=>none
 | n+1,x1,i1,i2 =>
  bif decide (i2<(a.length:Int)) then
   (qdW n i1).bind fun r1 =>
   (idx x1 i2).bind fun y1 =>
   (idx (setS x1 i2 ({ y1 with As:=r1 })) i2).bind fun y2 =>
   (idx (setS (setS x1 i2 ({ y1 with As:=r1 })) i2 ({ y2 with Bl:=W64 (i1+1) })) i2).bind fun y3 =>
   (idx (setS (setS (setS x1 i2 ({ y1 with As:=r1 })) i2 ({ y2 with Bl:=W64 (i1+1) })) i2 ({ y3 with Bk:=W64 ((W64 (i1+1))+1) })) i2).bind fun y4 =>
   qd5 a n (setS (setS (setS (setS x1 i2 ({ y1 with As:=r1 })) i2 ({ y2 with Bl:=W64 (i1+1) })) i2 ({ y3 with Bk:=W64 ((W64 (i1+1))+1) })) i2 ({ y4 with Be:=(((W64 ((W64 ((W64 (i1+1))+1))+1)).tmod 3)==0) })) (W64 ((W64 ((W64 ((W64 (i1+1))+1))+1))+1)) (W64 (i2+1))
  else
   some (x1,i1,i2)
def qkv (n:Nat) (a:(List qX)) (k:Int):Option (Int × (List qX)) :=
 (qd5 a n a k 0).bind fun o=>match o with
 | (x1,i1,_) =>
  some (i1,x1)
theorem qnD {n:Nat} {w0 w:World} {F:List Ch} {a:(List qX)} {k:Int} {S1:Nat→Prop} {p1:Option Addr} {ln1 k1:Nat} (h:SH w0 w (Ch.own S1 (a:List qX) [.slice p1 ln1 k1]::F)) {r:(Int × (List qX))} (hF:qkv n a k=some r):RetN Tryz.prog 175 [.slice p1 ln1 k1,.int .i64 k] w (fun w'=>∃ Z0:Nat→Prop,SH w0 w' (Ch.own Z0 (r.2:List qX) [.slice p1 ln1 k1]::F)) r.1:=by
 refine qbZ Tryz.func175 rfl (m:=44) rfl rfl ?_
 obtain rfl:=(h.sl 0 rfl).2
 refine X0 9 rfl ?_
 obtain ⟨o1,hF,hK1⟩:=qd hF
 refine qk (rL (fun m e w'=>∃ (x1:(List qX)) (i1:Int) (i2:Int),qd5 a m x1 i1 i2=some o1∧e=[(0,.slice p1 a.length k1),(1,.int .i64 i1),(5,.int .i64 i2)]∧SH w0 w' (Ch.own S1 (x1:List qX) [.slice p1 a.length k1]::F)) n ⟨_,_,_,hF,rfl,h⟩ rfl ?_)
 rintro m1 e1 w1 ⟨x1,i1,i2,hF,rfl,h⟩
 rcases m1 with _|m1
 ·cases hF
 refine X0 8 rfl (qi rfl hF ?_ ?_)<;>intro hF
 ·refine X0 8 rfl (zcS h hF qfo rfl fun r1 w2 h hF=>?_)
  obtain ⟨y1,hy1,hF,he1,b1,_,q1,cs1,hp1,hq1,hr2,hc2⟩:=(h.sl 0 rfl).1.ix hF
  obtain rfl:=qaF hr2
  refine zx hp1 hq1 ⟨he1.1,qx he1.2.1 (h.sl 0 rfl).2⟩ rfl (zp1 rfl (qaX qc 0 0 ({ y1 with As:=r1 }:qX) h rfl hy1 hp1 hq1 (qdD y1) hc2 rfl rfl rfl (qdD ({ y1 with As:=r1 })) rfl rfl rfl fun w3 h=>X0 12 rfl ?_))
  obtain ⟨y2,hy2,hF,he2,b2,_,q2,cs2,hp2,hq2,hr3,hc3⟩:=(h.sl 0 rfl).1.ix hF
  obtain rfl:=qaF hr3
  refine zx hp2 hq2 ⟨he2.1,qx he2.2.1 (h.sl 0 rfl).2⟩ rfl (zp1 rfl (qaX qc 0 1 ({ y2 with Bl:=W64 (i1+1) }:qX) h rfl hy2 hp2 hq2 (qdD y2) hc3 rfl rfl rfl (qdD ({ y2 with Bl:=W64 (i1+1) })) rfl rfl rfl fun w4 h=>X0 12 rfl ?_))
  obtain ⟨y3,hy3,hF,he3,b3,_,q3,cs3,hp3,hq3,hr4,hc4⟩:=(h.sl 0 rfl).1.ix hF
  obtain rfl:=qaF hr4
  refine zx hp3 hq3 ⟨he3.1,qx he3.2.1 (h.sl 0 rfl).2⟩ rfl (zp1 rfl (qaX qc 0 2 ({ y3 with Bk:=W64 ((W64 (i1+1))+1) }:qX) h rfl hy3 hp3 hq3 (qdD y3) hc4 rfl rfl rfl (qdD ({ y3 with Bk:=W64 ((W64 (i1+1))+1) })) rfl rfl rfl fun w5 h=>X0 14 rfl ?_))
  obtain ⟨y4,hy4,hF,he4,b4,_,q4,cs4,hp4,hq4,hr5,hc5⟩:=(h.sl 0 rfl).1.ix hF
  obtain rfl:=qaF hr5
  exact zx hp4 hq4 ⟨he4.1,qx he4.2.1 (h.sl 0 rfl).2⟩ rfl (zp1 rfl (qaX qc 0 3 ({ y4 with Be:=(((W64 ((W64 ((W64 (i1+1))+1))+1)).tmod 3)==0) }:qX) h rfl hy4 hp4 hq4 (qdD y4) hc5 rfl rfl rfl (qdD ({ y4 with Be:=(((W64 ((W64 ((W64 (i1+1))+1))+1)).tmod 3)==0) })) rfl rfl rfl fun w6 h=>X0 12 rfl (rK ⟨_,_,_,hF,rfl,h⟩ rfl)))
 refine qm rfl ?_
 obtain rfl:=qb hF;replace hF:=hK1
 refine X0 5 rfl ?_
 obtain rfl:=qb hF
 exact qhY qc ⟨_,h⟩ ⟨rfl,trivial⟩
def qc4 (a:(List qr)):Nat→(List qr)→Int→Int→Option ((List qr) × Int × Int)
 | 0,_,_,_=>none
 | n+1,x1,i1,i2 =>
  bif decide (i2<(a.length:Int)) then
   (idx x1 i2).bind fun y1 =>
   (qam n y1.Bd i1).bind fun o=>match o with
    | (r1,x2) =>
     (qam n y1.Bc r1).bind fun o=>match o with
      | (r2,x3) =>
       (qam n y1.Av r2).bind fun o=>match o with
        | (r3,x4) =>
         qc4 a n (setS x1 i2 (⟨x2,x3,x4⟩:qr)) r3 (W64 (i2+1))
  else
   some (x1,i1,i2)
def qg8 (n:Nat) (a:(List qr)) (k:Int):Option (Int × (List qr)) :=
 (qc4 a n a k 0).bind fun o=>match o with
 | (x1,i1,_) =>
  some (i1,x1)
theorem qi9 {n:Nat} {w0 w:World} {F:List Ch} {a:(List qr)} {k:Int} {S1:Nat→Prop} {p1:Option Addr} {ln1 k1:Nat} (h:SH w0 w (Ch.own S1 (a:List qr) [.slice p1 ln1 k1]::F)) {r:(Int × (List qr))} (hF:qg8 n a k=some r):RetN Tryz.prog 207 [.slice p1 ln1 k1,.int .i64 k] w (fun w'=>∃ Z0:Nat→Prop,SH w0 w' (Ch.own Z0 (r.2:List qr) [.slice p1 ln1 k1]::F)) r.1:=by
 refine qbZ Tryz.func207 rfl (m:=34) rfl rfl ?_
 obtain rfl:=(h.sl 0 rfl).2
 refine X0 9 rfl ?_
 obtain ⟨o1,hF,hK1⟩:=qd hF
 refine qk (rL (fun m e w'=>∃ (S2:Nat→Prop) (x1:(List qr)) (i1:Int) (i2:Int),qc4 a m x1 i1 i2=some o1∧e=[(0,.slice p1 a.length k1),(1,.int .i64 i1),(5,.int .i64 i2)]∧SH w0 w' (Ch.own S2 (x1:List qr) [.slice p1 a.length k1]::F)) n ⟨_,_,_,_,hF,rfl,h⟩ rfl ?_)
 rintro m1 e1 w1 ⟨S2,x1,i1,i2,hF,rfl,h⟩
 rcases m1 with _|m1
 ·cases hF
 refine X0 8 rfl (qi rfl hF ?_ ?_)<;>intro hF
 ·refine X0 7 rfl ?_
  obtain ⟨y1,hy1,hF⟩:=qd hF
  have he1:=qax hy1
  obtain ⟨S3,S4,cs1,h⟩:=h.take hy1
  obtain ⟨p2,k2,p3,k3,p4,k4,rfl,-,-,-⟩:=qbc (h.own 0 rfl)
  obtain ⟨S5,S6,S7,h⟩:=qrc h
  obtain ⟨b1,hp1,-,-,hl2⟩:=h.holeAt 3 rfl
  obtain ⟨q1,hq1⟩:∃ q,q=0+(i2).toNat*GoT.k qr:=⟨_,rfl⟩
  refine zx hp1 hq1 ⟨he1.1,qx he1.2.1 hl2⟩ rfl (zp1 rfl (zc 0 (qa5 h 3 rfl hp1 hq1) rfl (zp1 rfl ?_)))
  replace h:=h.pickT 4 [2,0,1,3] rfl
  obtain ⟨o2,hr1,hF⟩:=qd hF
  obtain ⟨r1,x2⟩:=o2
  refine qbN r1 (cB 65 rfl) (qai h hr1) rfl rfl rfl rfl ?_
  rintro w2 ⟨S8,h⟩
  refine X0 6 rfl ?_
  obtain ⟨b2,hp2,-,-,hl4⟩:=h.holeAt 3 rfl
  obtain ⟨q2,hq2⟩:∃ q,q=0+(i2).toNat*GoT.k qr:=⟨_,rfl⟩
  refine zx hp2 hq2 ⟨he1.1,qx he1.2.1 hl4⟩ rfl (zp1 rfl (zc 1 (qa5 h 3 rfl hp2 hq2) rfl (zp1 rfl ?_)))
  replace h:=h.pickT 4 [2,0,1,3] rfl
  obtain ⟨o3,hr2,hF⟩:=qd hF
  obtain ⟨r2,x3⟩:=o3
  refine qbN r2 (cB 65 rfl) (qai h hr2) rfl rfl rfl rfl ?_
  rintro w3 ⟨S9,h⟩
  refine X0 5 rfl ?_
  obtain ⟨b3,hp3,-,-,hl6⟩:=h.holeAt 3 rfl
  obtain ⟨q3,hq3⟩:∃ q,q=0+(i2).toNat*GoT.k qr:=⟨_,rfl⟩
  refine zx hp3 hq3 ⟨he1.1,qx he1.2.1 hl6⟩ rfl (zp1 rfl (zc 2 (qa5 h 3 rfl hp3 hq3) rfl (zp1 rfl ?_)))
  replace h:=h.pickT 4 [2,0,1,3] rfl
  obtain ⟨o4,hr3,hF⟩:=qd hF
  obtain ⟨r3,x4⟩:=o4
  refine qbN r3 (cB 65 rfl) (qai h hr3) rfl rfl rfl rfl ?_
  rintro w4 ⟨S10,h⟩
  refine X0 8 rfl ?_
  obtain ⟨S11,h⟩:=h.gatherT 4 [3] (qqL (⟨x2,x3,x4⟩:qr) h (qay 2 h rfl) (qay 1 h rfl) (qay 0 h rfl) (by rfl) (by rfl)) rfl
  replace h:=h.put
  obtain ⟨S12,h⟩:=ql9 (S:=_) h
  exact rK ⟨_,_,_,_,hF,rfl,h⟩ rfl
 refine qm rfl ?_
 obtain rfl:=qb hF;replace hF:=hK1
 refine X0 5 rfl ?_
 obtain rfl:=qb hF
 exact qhY qc ⟨_,h⟩ ⟨rfl,trivial⟩
def qd8 (a:(List qF)):Nat→(List qF)→Int→Int→Option ((List qF) × Int × Int)
 | 0,_,_,_=>none
 | n+1,x1,i1,i2 =>
  bif decide (i2<(a.length:Int)) then
   (idx x1 i2).bind fun y1 =>
   (qg8 n y1.Az (W64 ((W64 ((W64 ((W64 (i1+1))+1))+1))+1))).bind fun o=>match o with
    | (r1,x2) =>
     (qg8 n y1.Bi r1).bind fun o=>match o with
      | (r2,x3) =>
       qd8 a n (setS x1 i2 (⟨i1,W64 (i1+1),W64 ((W64 (i1+1))+1),W64 ((W64 ((W64 (i1+1))+1))+1),x2,x3⟩:qF)) r2 (W64 (i2+1))
  else
   some (x1,i1,i2)
def qkr (n:Nat) (a:(List qF)) (k:Int):Option (Int × (List qF)) :=
 (qd8 a n a k 0).bind fun o=>match o with
 | (x1,i1,_) =>
  some (i1,x1)
theorem qno {n:Nat} {w0 w:World} {F:List Ch} {a:(List qF)} {k:Int} {S1:Nat→Prop} {p1:Option Addr} {ln1 k1:Nat} (h:SH w0 w (Ch.own S1 (a:List qF) [.slice p1 ln1 k1]::F)) {r:(Int × (List qF))} (hF:qkr n a k=some r):RetN Tryz.prog 176 [.slice p1 ln1 k1,.int .i64 k] w (fun w'=>∃ Z0:Nat→Prop,SH w0 w' (Ch.own Z0 (r.2:List qF) [.slice p1 ln1 k1]::F)) r.1:=by
 refine qbZ Tryz.func176 rfl (m:=55) rfl rfl ?_
 obtain rfl:=(h.sl 0 rfl).2
 refine X0 9 rfl ?_
 obtain ⟨o1,hF,hK1⟩:=qd hF
 refine qk (rL (fun m e w'=>∃ (S2:Nat→Prop) (x1:(List qF)) (i1:Int) (i2:Int),qd8 a m x1 i1 i2=some o1∧e=[(0,.slice p1 a.length k1),(1,.int .i64 i1),(5,.int .i64 i2)]∧SH w0 w' (Ch.own S2 (x1:List qF) [.slice p1 a.length k1]::F)) n ⟨_,_,_,_,hF,rfl,h⟩ rfl ?_)
 rintro m1 e1 w1 ⟨S2,x1,i1,i2,hF,rfl,h⟩
 rcases m1 with _|m1
 ·cases hF
 refine X0 8 rfl (qi rfl hF ?_ ?_)<;>intro hF
 ·refine X0 8 rfl ?_
  obtain ⟨y1,hy1,hF⟩:=qd hF
  have he1:=qax hy1
  obtain ⟨S3,S4,cs1,h⟩:=h.take hy1
  obtain ⟨p2,k2,p3,k3,rfl,-,-⟩:=qaj (h.own 0 rfl)
  obtain ⟨S5,S6,h⟩:=qtl h
  obtain ⟨b1,hp1,-,-,hl2⟩:=h.holeAt 2 rfl
  obtain ⟨q1,hq1⟩:∃ q,q=0+(i2).toNat*GoT.k qF:=⟨_,rfl⟩
  refine zx hp1 hq1 ⟨he1.1,qx he1.2.1 hl2⟩ rfl (zp1 rfl (qfc qc 2 0 h rfl hp1 hq1 rfl rfl rfl rfl rfl rfl fun w2 h=>?_))
  replace h:SH _ _ (Ch.own S6 (y1.Bi:List qr) [.slice p3 y1.Bi.length k3]::Ch.own S5 (y1.Az:List qr) [.slice p2 y1.Az.length k2]::Ch.hole S4 (x1:List qF) p1 a.length k1 (i2).toNat [.int .i64 i1,.int .i64 y1.Au,.int .i64 y1.To,.int .i64 y1.Bh,.slice p2 y1.Az.length k2,.slice p3 y1.Bi.length k3]::F):=h
  refine X0 12 rfl ?_
  obtain ⟨b2,hp2,-,-,hl4⟩:=h.holeAt 2 rfl
  obtain ⟨q2,hq2⟩:∃ q,q=0+(i2).toNat*GoT.k qF:=⟨_,rfl⟩
  refine zx hp2 hq2 ⟨he1.1,qx he1.2.1 hl4⟩ rfl (zp1 rfl (qfc qc 2 1 h rfl hp2 hq2 rfl rfl rfl rfl rfl rfl fun w3 h=>X0 12 rfl ?_))
  obtain ⟨b3,hp3,-,-,hl6⟩:=h.holeAt 2 rfl
  obtain ⟨q3,hq3⟩:∃ q,q=0+(i2).toNat*GoT.k qF:=⟨_,rfl⟩
  refine zx hp3 hq3 ⟨he1.1,qx he1.2.1 hl6⟩ rfl (zp1 rfl (qfc qc 2 2 h rfl hp3 hq3 rfl rfl rfl rfl rfl rfl fun w4 h=>X0 12 rfl ?_))
  obtain ⟨b4,hp4,-,-,hl8⟩:=h.holeAt 2 rfl
  obtain ⟨q4,hq4⟩:∃ q,q=0+(i2).toNat*GoT.k qF:=⟨_,rfl⟩
  refine zx hp4 hq4 ⟨he1.1,qx he1.2.1 hl8⟩ rfl (zp1 rfl (qfc qc 2 3 h rfl hp4 hq4 rfl rfl rfl rfl rfl rfl fun w5 h=>?_))
  replace h:SH _ _ (Ch.own S6 (y1.Bi:List qr) [.slice p3 y1.Bi.length k3]::Ch.own S5 (y1.Az:List qr) [.slice p2 y1.Az.length k2]::Ch.hole S4 (x1:List qF) p1 a.length k1 (i2).toNat [.int .i64 i1,.int .i64 (W64 (i1+1)),.int .i64 (W64 ((W64 (i1+1))+1)),.int .i64 (W64 ((W64 ((W64 (i1+1))+1))+1)),.slice p2 y1.Az.length k2,.slice p3 y1.Bi.length k3]::F):=h
  refine X0 11 rfl ?_
  obtain ⟨b5,hp5,-,-,hl10⟩:=h.holeAt 2 rfl
  obtain ⟨q5,hq5⟩:∃ q,q=0+(i2).toNat*GoT.k qF:=⟨_,rfl⟩
  refine zx hp5 hq5 ⟨he1.1,qx he1.2.1 hl10⟩ rfl (zp1 rfl (zc 4 (qa5 h 2 rfl hp5 hq5) rfl (zp1 rfl ?_)))
  replace h:=h.pickT 3 [1,0,2] rfl
  obtain ⟨o2,hr1,hF⟩:=qd hF
  obtain ⟨r1,x2⟩:=o2
  refine qbN r1 (cB 207 rfl) (qi9 h hr1) rfl rfl rfl rfl ?_
  rintro w6 ⟨S7,h⟩
  refine X0 5 rfl ?_
  obtain ⟨b6,hp6,-,-,hl12⟩:=h.holeAt 2 rfl
  obtain ⟨q6,hq6⟩:∃ q,q=0+(i2).toNat*GoT.k qF:=⟨_,rfl⟩
  refine zx hp6 hq6 ⟨he1.1,qx he1.2.1 hl12⟩ rfl (zp1 rfl (zc 5 (qa5 h 2 rfl hp6 hq6) rfl (zp1 rfl ?_)))
  replace h:=h.pickT 3 [1,0,2] rfl
  obtain ⟨o3,hr2,hF⟩:=qd hF
  obtain ⟨r2,x3⟩:=o3
  refine qbN r2 (cB 207 rfl) (qi9 h hr2) rfl rfl rfl rfl ?_
  rintro w7 ⟨S8,h⟩
  refine X0 8 rfl ?_
  obtain ⟨S9,h⟩:=h.gatherT 3 [2] (qtG (⟨i1,W64 (i1+1),W64 ((W64 (i1+1))+1),W64 ((W64 ((W64 (i1+1))+1))+1),x2,x3⟩:qF) h (qy (S:=fun _=>False) rfl) (qy (S:=fun _=>False) rfl) (qy (S:=fun _=>False) rfl) (qy (S:=fun _=>False) rfl) (qay 1 h rfl) (qay 0 h rfl) (by rfl) (by rfl) (by rfl) (by rfl) (by rfl)) rfl
  replace h:=h.put
  obtain ⟨S10,h⟩:=ql9 (S:=_) h
  exact rK ⟨_,_,_,_,hF,rfl,h⟩ rfl
 refine qm rfl ?_
 obtain rfl:=qb hF;replace hF:=hK1
 refine X0 5 rfl ?_
 obtain rfl:=qb hF
 exact qhY qc ⟨_,h⟩ ⟨rfl,trivial⟩
def qdn (a:(List qp)):Nat→(List qp)→Int→Int→Option ((List qp) × Int × Int)
 | 0,_,_,_=>none
 | n+1,x1,i1,i2 =>
  bif decide (i2<(a.length:Int)) then
   (qdW n i1).bind fun r1 =>
   (idx x1 i2).bind fun y1 =>
   (qkv n y1.Am (W64 ((W64 (i1+1))+1))).bind fun o=>match o with
    | (r2,x2) =>
     (qkr n y1.Ap r2).bind fun o=>match o with
      | (r3,x3) =>
       (qam n y1.Ay r3).bind fun o=>match o with
        | (r4,x4) =>
         qdn a n (setS x1 i2 (⟨r1,W64 (i1+1),x2,x3,x4,r4,W64 (r4+1)⟩:qp)) (W64 ((W64 (r4+1))+1)) (W64 (i2+1))
  else
   some (x1,i1,i2)
def qjZ (n:Nat) (a:(List qp)) (k:Int):Option (Int × (List qp)) :=
 (qdn a n a k 0).bind fun o=>match o with
 | (x1,i1,_) =>
  some (i1,x1)
theorem qm2 {n:Nat} {w0 w:World} {F:List Ch} {a:(List qp)} {k:Int} {S1:Nat→Prop} {p1:Option Addr} {ln1 k1:Nat} (h:SH w0 w (Ch.own S1 (a:List qp) [.slice p1 ln1 k1]::F)) {r:(Int × (List qp))} (hF:qjZ n a k=some r):RetN Tryz.prog 123 [.slice p1 ln1 k1,.int .i64 k] w (fun w'=>∃ Z0:Nat→Prop,SH w0 w' (Ch.own Z0 (r.2:List qp) [.slice p1 ln1 k1]::F)) r.1:=by
 refine qbZ Tryz.func123 rfl (m:=63) rfl rfl ?_
 obtain rfl:=(h.sl 0 rfl).2
 refine X0 9 rfl ?_
 obtain ⟨o1,hF,hK1⟩:=qd hF
 refine qk (rL (fun m e w'=>∃ (S2:Nat→Prop) (x1:(List qp)) (i1:Int) (i2:Int),qdn a m x1 i1 i2=some o1∧e=[(0,.slice p1 a.length k1),(1,.int .i64 i1),(5,.int .i64 i2)]∧SH w0 w' (Ch.own S2 (x1:List qp) [.slice p1 a.length k1]::F)) n ⟨_,_,_,_,hF,rfl,h⟩ rfl ?_)
 rintro m1 e1 w1 ⟨S2,x1,i1,i2,hF,rfl,h⟩
 rcases m1 with _|m1
 ·cases hF
 refine X0 8 rfl (qi rfl hF ?_ ?_)<;>intro hF
 ·refine X0 8 rfl (zcS h hF qfo rfl fun r1 w2 h hF=>?_)
  obtain ⟨y1,hy1,hF⟩:=qd hF
  have he1:=qax hy1
  obtain ⟨S3,S4,cs1,h⟩:=h.take hy1
  obtain ⟨p2,k2,p3,k3,p4,k4,rfl,-,-,-⟩:=qJ (h.own 0 rfl)
  obtain ⟨S5,S6,S7,h⟩:=qrW h
  obtain ⟨b1,hp1,-,-,hl2⟩:=h.holeAt 3 rfl
  obtain ⟨q1,hq1⟩:∃ q,q=0+(i2).toNat*GoT.k qp:=⟨_,rfl⟩
  refine zx hp1 hq1 ⟨he1.1,qx he1.2.1 hl2⟩ rfl (zp1 rfl (qfc qc 3 0 h rfl hp1 hq1 rfl rfl rfl rfl rfl rfl fun w3 h=>?_))
  replace h:SH _ _ (Ch.own S7 (y1.Ay:List Int) [.slice p4 y1.Ay.length k4]::Ch.own S6 (y1.Ap:List qF) [.slice p3 y1.Ap.length k3]::Ch.own S5 (y1.Am:List qX) [.slice p2 y1.Am.length k2]::Ch.hole S4 (x1:List qp) p1 a.length k1 (i2).toNat [.string r1,.int .i64 y1.Ar,.slice p2 y1.Am.length k2,.slice p3 y1.Ap.length k3,.slice p4 y1.Ay.length k4,.int .i64 y1.Bo,.int .i64 y1.Bg]::F):=h
  refine X0 12 rfl ?_
  obtain ⟨b2,hp2,-,-,hl4⟩:=h.holeAt 3 rfl
  obtain ⟨q2,hq2⟩:∃ q,q=0+(i2).toNat*GoT.k qp:=⟨_,rfl⟩
  refine zx hp2 hq2 ⟨he1.1,qx he1.2.1 hl4⟩ rfl (zp1 rfl (qfc qc 3 1 h rfl hp2 hq2 rfl rfl rfl rfl rfl rfl fun w4 h=>X0 11 rfl ?_))
  obtain ⟨b3,hp3,-,-,hl6⟩:=h.holeAt 3 rfl
  obtain ⟨q3,hq3⟩:∃ q,q=0+(i2).toNat*GoT.k qp:=⟨_,rfl⟩
  refine zx hp3 hq3 ⟨he1.1,qx he1.2.1 hl6⟩ rfl (zp1 rfl (zc 2 (qa5 h 3 rfl hp3 hq3) rfl (zp1 rfl ?_)))
  replace h:=h.pickT 4 [2,0,1,3] rfl
  obtain ⟨o2,hr2,hF⟩:=qd hF
  obtain ⟨r2,x2⟩:=o2
  refine qbN r2 (cB 175 rfl) (qnD h hr2) rfl rfl rfl rfl ?_
  rintro w5 ⟨S8,h⟩
  refine X0 6 rfl ?_
  obtain ⟨b4,hp4,-,-,hl8⟩:=h.holeAt 3 rfl
  obtain ⟨q4,hq4⟩:∃ q,q=0+(i2).toNat*GoT.k qp:=⟨_,rfl⟩
  refine zx hp4 hq4 ⟨he1.1,qx he1.2.1 hl8⟩ rfl (zp1 rfl (zc 3 (qa5 h 3 rfl hp4 hq4) rfl (zp1 rfl ?_)))
  replace h:=h.pickT 4 [2,0,1,3] rfl
  obtain ⟨o3,hr3,hF⟩:=qd hF
  obtain ⟨r3,x3⟩:=o3
  refine qbN r3 (cB 176 rfl) (qno h hr3) rfl rfl rfl rfl ?_
  rintro w6 ⟨S9,h⟩
  refine X0 6 rfl ?_
  obtain ⟨b5,hp5,-,-,hl10⟩:=h.holeAt 3 rfl
  obtain ⟨q5,hq5⟩:∃ q,q=0+(i2).toNat*GoT.k qp:=⟨_,rfl⟩
  refine zx hp5 hq5 ⟨he1.1,qx he1.2.1 hl10⟩ rfl (zp1 rfl (zc 4 (qa5 h 3 rfl hp5 hq5) rfl (zp1 rfl ?_)))
  replace h:=h.pickT 4 [2,0,1,3] rfl
  obtain ⟨o4,hr4,hF⟩:=qd hF
  obtain ⟨r4,x4⟩:=o4
  refine qbN r4 (cB 65 rfl) (qai h hr4) rfl rfl rfl rfl ?_
  rintro w7 ⟨S10,h⟩
  refine X0 7 rfl ?_
  obtain ⟨b6,hp6,-,-,hl12⟩:=h.holeAt 3 rfl
  obtain ⟨q6,hq6⟩:∃ q,q=0+(i2).toNat*GoT.k qp:=⟨_,rfl⟩
  refine zx hp6 hq6 ⟨he1.1,qx he1.2.1 hl12⟩ rfl (zp1 rfl (qfc qc 3 5 h rfl hp6 hq6 rfl rfl rfl rfl rfl rfl fun w8 h=>X0 12 rfl ?_))
  obtain ⟨b7,hp7,-,-,hl14⟩:=h.holeAt 3 rfl
  obtain ⟨q7,hq7⟩:∃ q,q=0+(i2).toNat*GoT.k qp:=⟨_,rfl⟩
  refine zx hp7 hq7 ⟨he1.1,qx he1.2.1 hl14⟩ rfl (zp1 rfl (qfc qc 3 6 h rfl hp7 hq7 rfl rfl rfl rfl rfl rfl fun w9 h=>?_))
  replace h:SH _ _ (Ch.own S10 (x4:List Int) [.slice p4 y1.Ay.length k4]::Ch.own S9 (x3:List qF) [.slice p3 y1.Ap.length k3]::Ch.own S8 (x2:List qX) [.slice p2 y1.Am.length k2]::Ch.hole S4 (x1:List qp) p1 a.length k1 (i2).toNat [.string r1,.int .i64 (W64 (i1+1)),.slice p2 y1.Am.length k2,.slice p3 y1.Ap.length k3,.slice p4 y1.Ay.length k4,.int .i64 r4,.int .i64 (W64 (r4+1))]::F):=h
  refine X0 12 rfl ?_
  obtain ⟨S11,h⟩:=h.gatherT 4 [3] (qsr (⟨r1,W64 (i1+1),x2,x3,x4,r4,W64 (r4+1)⟩:qp) h (qy (S:=fun _=>False) rfl) (qy (S:=fun _=>False) rfl) (qay 2 h rfl) (qay 1 h rfl) (qay 0 h rfl) (qy (S:=fun _=>False) rfl) (qy (S:=fun _=>False) rfl) (by rfl) (by rfl) (by rfl) (by rfl) (by rfl) (by rfl)) rfl
  replace h:=h.put
  obtain ⟨S12,h⟩:=ql9 (S:=_) h
  exact rK ⟨_,_,_,_,hF,rfl,h⟩ rfl
 refine qm rfl ?_
 obtain rfl:=qb hF;replace hF:=hK1
 refine X0 5 rfl ?_
 obtain rfl:=qb hF
 exact qhY qc ⟨_,h⟩ ⟨rfl,trivial⟩
def qgE (n:Nat) (a:qn) (k:Int):Option (Int × (List qp)) :=
 (qjZ n a.Ah k).bind fun o=>match o with
  | (r1,x1) =>
   some (r1,x1)
theorem ql4 {n:Nat} {w0 w:World} {F:List Ch} {a:qn} {k:Int} {S1:Nat→Prop} {p1:Option Addr} {ln1 k1:Nat} (h:SH w0 w (Ch.own S1 (a.Ah:List qp) [.slice p1 ln1 k1]::F)) {r:(Int × (List qp))} (hF:qgE n a k=some r):RetN Tryz.prog 62 [.agg #[.slice p1 ln1 k1],.int .i64 k] w (fun w'=>∃ Z0:Nat→Prop,SH w0 w' (Ch.own Z0 (r.2:List qp) [.slice p1 ln1 k1]::F)) r.1:=by
 refine qbZ Tryz.func62 rfl (m:=10) rfl rfl ?_
 obtain rfl:=(h.sl 0 rfl).2
 refine zSR (qu h rfl rfl fun w1 bb1 h=>X1 7 0 h rfl ?_)
 replace h:=h.pickT 2 [1,0] rfl
 obtain ⟨o1,hr1,hF⟩:=qd hF
 obtain ⟨r1,x1⟩:=o1
 refine qbN r1 (cB 123 rfl) (qm2 h hr1) rfl rfl rfl rfl ?_
 rintro w2 ⟨S2,h⟩
 refine X0 7 rfl ?_
 obtain rfl:=qb hF
 replace h:=h.pickT 2 [0] rfl
 exact qhY qc ⟨_,h⟩ ⟨rfl,trivial⟩
def qb2 (a:(List qj)):Nat→(List qj)→Int→Int→Option ((List qj) × Int × Int)
 | 0,_,_,_=>none
 | n+1,x1,i1,i2 =>
  bif decide (i2<(a.length:Int)) then
   (qdW n i1).bind fun r1 =>
   (idx x1 i2).bind fun y1 =>
   (qam n y1.Af (W64 ((W64 (i1+1))+1))).bind fun o=>match o with
    | (r2,x2) =>
     qb2 a n (setS x1 i2 (⟨r1,W64 (i1+1),x2⟩:qj)) r2 (W64 (i2+1))
  else
   some (x1,i1,i2)
def qhg (n:Nat) (a:(List qj)) (k:Int):Option (Int × (List qj)) :=
 (qb2 a n a k 0).bind fun o=>match o with
 | (x1,i1,_) =>
  some (i1,x1)
theorem qlg {n:Nat} {w0 w:World} {F:List Ch} {a:(List qj)} {k:Int} {S1:Nat→Prop} {p1:Option Addr} {ln1 k1:Nat} (h:SH w0 w (Ch.own S1 (a:List qj) [.slice p1 ln1 k1]::F)) {r:(Int × (List qj))} (hF:qhg n a k=some r):RetN Tryz.prog 124 [.slice p1 ln1 k1,.int .i64 k] w (fun w'=>∃ Z0:Nat→Prop,SH w0 w' (Ch.own Z0 (r.2:List qj) [.slice p1 ln1 k1]::F)) r.1:=by
 refine qbZ Tryz.func124 rfl (m:=35) rfl rfl ?_
 obtain rfl:=(h.sl 0 rfl).2
 refine X0 9 rfl ?_
 obtain ⟨o1,hF,hK1⟩:=qd hF
 refine qk (rL (fun m e w'=>∃ (S2:Nat→Prop) (x1:(List qj)) (i1:Int) (i2:Int),qb2 a m x1 i1 i2=some o1∧e=[(0,.slice p1 a.length k1),(1,.int .i64 i1),(5,.int .i64 i2)]∧SH w0 w' (Ch.own S2 (x1:List qj) [.slice p1 a.length k1]::F)) n ⟨_,_,_,_,hF,rfl,h⟩ rfl ?_)
 rintro m1 e1 w1 ⟨S2,x1,i1,i2,hF,rfl,h⟩
 rcases m1 with _|m1
 ·cases hF
 refine X0 8 rfl (qi rfl hF ?_ ?_)<;>intro hF
 ·refine X0 8 rfl (zcS h hF qfo rfl fun r1 w2 h hF=>?_)
  obtain ⟨y1,hy1,hF⟩:=qd hF
  have he1:=qax hy1
  obtain ⟨S3,S4,cs1,h⟩:=h.take hy1
  obtain ⟨p2,k2,rfl,-⟩:=qM (h.own 0 rfl)
  obtain ⟨S5,h⟩:=qoP h
  obtain ⟨b1,hp1,-,-,hl2⟩:=h.holeAt 1 rfl
  obtain ⟨q1,hq1⟩:∃ q,q=0+(i2).toNat*GoT.k qj:=⟨_,rfl⟩
  refine zx hp1 hq1 ⟨he1.1,qx he1.2.1 hl2⟩ rfl (zp1 rfl (qfc qc 1 0 h rfl hp1 hq1 rfl rfl rfl rfl rfl rfl fun w3 h=>X0 12 rfl ?_))
  obtain ⟨b2,hp2,-,-,hl4⟩:=h.holeAt 1 rfl
  obtain ⟨q2,hq2⟩:∃ q,q=0+(i2).toNat*GoT.k qj:=⟨_,rfl⟩
  refine zx hp2 hq2 ⟨he1.1,qx he1.2.1 hl4⟩ rfl (zp1 rfl (qfc qc 1 1 h rfl hp2 hq2 rfl rfl rfl rfl rfl rfl fun w4 h=>?_))
  replace h:SH _ _ (Ch.own S5 (y1.Af:List Int) [.slice p2 y1.Af.length k2]::Ch.hole S4 (x1:List qj) p1 a.length k1 (i2).toNat [.string r1,.int .i64 (W64 (i1+1)),.slice p2 y1.Af.length k2]::F):=h
  refine X0 10 rfl ?_
  obtain ⟨b3,hp3,-,-,hl6⟩:=h.holeAt 1 rfl
  obtain ⟨q3,hq3⟩:∃ q,q=0+(i2).toNat*GoT.k qj:=⟨_,rfl⟩
  refine zx hp3 hq3 ⟨he1.1,qx he1.2.1 hl6⟩ rfl (zp1 rfl (zc 2 (qa5 h 1 rfl hp3 hq3) rfl (zp1 rfl ?_)))
  obtain ⟨o2,hr2,hF⟩:=qd hF
  obtain ⟨r2,x2⟩:=o2
  refine qbN r2 (cB 65 rfl) (qai h hr2) rfl rfl rfl rfl ?_
  rintro w5 ⟨S6,h⟩
  refine X0 8 rfl ?_
  obtain ⟨S7,h⟩:=h.gatherT 2 [1] (qnm (⟨r1,W64 (i1+1),x2⟩:qj) h (qy (S:=fun _=>False) rfl) (qy (S:=fun _=>False) rfl) (qay 0 h rfl) (by rfl) (by rfl)) rfl
  replace h:=h.put
  obtain ⟨S8,h⟩:=ql9 (S:=_) h
  exact rK ⟨_,_,_,_,hF,rfl,h⟩ rfl
 refine qm rfl ?_
 obtain rfl:=qb hF;replace hF:=hK1
 refine X0 5 rfl ?_
 obtain rfl:=qb hF
 exact qhY qc ⟨_,h⟩ ⟨rfl,trivial⟩
def qcI (a:(List ByteArray)):Nat→(List ByteArray)→Int→Int→Option ((List ByteArray) × Int × Int)
 | 0,_,_,_=>none
 | n+1,x1,i1,i2 =>
  bif decide (i2<(a.length:Int)) then
   (qdW n i1).bind fun r1 =>
   (idx x1 i2).bind fun _ =>
   qcI a n (setS x1 i2 r1) (W64 (i1+1)) (W64 (i2+1))
  else
   some (x1,i1,i2)
def qil (n:Nat) (a:(List ByteArray)) (k:Int):Option (Int × (List ByteArray)) :=
 (qcI a n a k 0).bind fun o=>match o with
 | (x1,i1,_) =>
  some (i1,x1)
theorem qlV {n:Nat} {w0 w:World} {F:List Ch} {a:(List ByteArray)} {k:Int} {S1:Nat→Prop} {p1:Option Addr} {ln1 k1:Nat} (h:SH w0 w (Ch.own S1 (a:List ByteArray) [.slice p1 ln1 k1]::F)) {r:(Int × (List ByteArray))} (hF:qil n a k=some r):RetN Tryz.prog 125 [.slice p1 ln1 k1,.int .i64 k] w (fun w'=>∃ Z0:Nat→Prop,SH w0 w' (Ch.own Z0 (r.2:List ByteArray) [.slice p1 ln1 k1]::F)) r.1:=by
 refine qbZ Tryz.func125 rfl (m:=20) rfl rfl ?_
 obtain rfl:=(h.sl 0 rfl).2
 refine X0 9 rfl ?_
 obtain ⟨o1,hF,hK1⟩:=qd hF
 refine qk (rL (fun m e w'=>∃ (x1:(List ByteArray)) (i1:Int) (i2:Int),qcI a m x1 i1 i2=some o1∧e=[(0,.slice p1 a.length k1),(1,.int .i64 i1),(5,.int .i64 i2)]∧SH w0 w' (Ch.own S1 (x1:List ByteArray) [.slice p1 a.length k1]::F)) n ⟨_,_,_,hF,rfl,h⟩ rfl ?_)
 rintro m1 e1 w1 ⟨x1,i1,i2,hF,rfl,h⟩
 rcases m1 with _|m1
 ·cases hF
 refine X0 8 rfl (qi rfl hF ?_ ?_)<;>intro hF
 ·refine X0 8 rfl (zcS h hF qfo rfl fun r1 w2 h hF=>?_)
  obtain ⟨y1,hy1,hF,he1,b1,_,q1,cs1,hp1,hq1,rfl,hc2⟩:=(h.sl 0 rfl).1.ix hF
  exact zx hp1 hq1 ⟨he1.1,qx he1.2.1 (h.sl 0 rfl).2⟩ rfl (qaX qc 0 0 r1 h rfl hy1 hp1 hq1 rfl hc2 rfl rfl rfl rfl rfl rfl rfl fun w3 h=>X0 12 rfl (rK ⟨_,_,_,hF,rfl,h⟩ rfl))
 refine qm rfl ?_
 obtain rfl:=qb hF;replace hF:=hK1
 refine X0 5 rfl ?_
 obtain rfl:=qb hF
 exact qhY qc ⟨_,h⟩ ⟨rfl,trivial⟩
def qdl (a:(List qH)):Nat→(List qH)→Int→Int→Option ((List qH) × Int × Int)
 | 0,_,_,_=>none
 | n+1,x1,i1,i2 =>
  bif decide (i2<(a.length:Int)) then
   (qdW n i1).bind fun r1 =>
   (idx x1 i2).bind fun y1 =>
   (idx (setS x1 i2 ({ y1 with As:=r1 })) i2).bind fun y2 =>
   (idx (setS (setS x1 i2 ({ y1 with As:=r1 })) i2 ({ y2 with Bl:=W64 (i1+1) })) i2).bind fun y3 =>
   qdl a n (setS (setS (setS x1 i2 ({ y1 with As:=r1 })) i2 ({ y2 with Bl:=W64 (i1+1) })) i2 ({ y3 with Bp:=W64 ((W64 (i1+1))+1) })) (W64 ((W64 ((W64 (i1+1))+1))+1)) (W64 (i2+1))
  else
   some (x1,i1,i2)
def qjH (n:Nat) (a:(List qH)) (k:Int):Option (Int × (List qH)) :=
 (qdl a n a k 0).bind fun o=>match o with
 | (x1,i1,_) =>
  some (i1,x1)
theorem qmN {n:Nat} {w0 w:World} {F:List Ch} {a:(List qH)} {k:Int} {S1:Nat→Prop} {p1:Option Addr} {ln1 k1:Nat} (h:SH w0 w (Ch.own S1 (a:List qH) [.slice p1 ln1 k1]::F)) {r:(Int × (List qH))} (hF:qjH n a k=some r):RetN Tryz.prog 126 [.slice p1 ln1 k1,.int .i64 k] w (fun w'=>∃ Z0:Nat→Prop,SH w0 w' (Ch.own Z0 (r.2:List qH) [.slice p1 ln1 k1]::F)) r.1:=by
 refine qbZ Tryz.func126 rfl (m:=35) rfl rfl ?_
 obtain rfl:=(h.sl 0 rfl).2
 refine X0 9 rfl ?_
 obtain ⟨o1,hF,hK1⟩:=qd hF
 refine qk (rL (fun m e w'=>∃ (x1:(List qH)) (i1:Int) (i2:Int),qdl a m x1 i1 i2=some o1∧e=[(0,.slice p1 a.length k1),(1,.int .i64 i1),(5,.int .i64 i2)]∧SH w0 w' (Ch.own S1 (x1:List qH) [.slice p1 a.length k1]::F)) n ⟨_,_,_,hF,rfl,h⟩ rfl ?_)
 rintro m1 e1 w1 ⟨x1,i1,i2,hF,rfl,h⟩
 rcases m1 with _|m1
 ·cases hF
 refine X0 8 rfl (qi rfl hF ?_ ?_)<;>intro hF
 ·refine X0 8 rfl (zcS h hF qfo rfl fun r1 w2 h hF=>?_)
  obtain ⟨y1,hy1,hF,he1,b1,_,q1,cs1,hp1,hq1,hr2,hc2⟩:=(h.sl 0 rfl).1.ix hF
  obtain rfl:=qaC hr2
  refine zx hp1 hq1 ⟨he1.1,qx he1.2.1 (h.sl 0 rfl).2⟩ rfl (zp1 rfl (qaX qc 0 0 ({ y1 with As:=r1 }:qH) h rfl hy1 hp1 hq1 (qea y1) hc2 rfl rfl rfl (qea ({ y1 with As:=r1 })) rfl rfl rfl fun w3 h=>X0 12 rfl ?_))
  obtain ⟨y2,hy2,hF,he2,b2,_,q2,cs2,hp2,hq2,hr3,hc3⟩:=(h.sl 0 rfl).1.ix hF
  obtain rfl:=qaC hr3
  refine zx hp2 hq2 ⟨he2.1,qx he2.2.1 (h.sl 0 rfl).2⟩ rfl (zp1 rfl (qaX qc 0 1 ({ y2 with Bl:=W64 (i1+1) }:qH) h rfl hy2 hp2 hq2 (qea y2) hc3 rfl rfl rfl (qea ({ y2 with Bl:=W64 (i1+1) })) rfl rfl rfl fun w4 h=>X0 12 rfl ?_))
  obtain ⟨y3,hy3,hF,he3,b3,_,q3,cs3,hp3,hq3,hr4,hc4⟩:=(h.sl 0 rfl).1.ix hF
  obtain rfl:=qaC hr4
  exact zx hp3 hq3 ⟨he3.1,qx he3.2.1 (h.sl 0 rfl).2⟩ rfl (zp1 rfl (qaX qc 0 2 ({ y3 with Bp:=W64 ((W64 (i1+1))+1) }:qH) h rfl hy3 hp3 hq3 (qea y3) hc4 rfl rfl rfl (qea ({ y3 with Bp:=W64 ((W64 (i1+1))+1) })) rfl rfl rfl fun w5 h=>X0 12 rfl (rK ⟨_,_,_,hF,rfl,h⟩ rfl)))
 refine qm rfl ?_
 obtain rfl:=qb hF;replace hF:=hK1
 refine X0 5 rfl ?_
 obtain rfl:=qb hF
 exact qhY qc ⟨_,h⟩ ⟨rfl,trivial⟩
def qg7 (n:Nat) (a:qf) (k:Int):Option (Int × (List qj) × (List ByteArray) × (List qH)) :=
 (qhg n a.Aa k).bind fun o=>match o with
  | (r1,x1) =>
   (qil n a.Af r1).bind fun o=>match o with
    | (r2,x2) =>
     (qjH n a.Ac r2).bind fun o=>match o with
      | (r3,x3) =>
       some (r3,x1,x2,x3)
theorem qmx {n:Nat} {w0 w:World} {F:List Ch} {a:qf} {k:Int} {S1:Nat→Prop} {p1:Option Addr} {ln1 k1:Nat} {S2:Nat→Prop} {p2:Option Addr} {ln2 k2:Nat} {S3:Nat→Prop} {p3:Option Addr} {ln3 k3:Nat} (h:SH w0 w (Ch.own S3 (a.Ac:List qH) [.slice p3 ln3 k3]::Ch.own S2 (a.Af:List ByteArray) [.slice p2 ln2 k2]::Ch.own S1 (a.Aa:List qj) [.slice p1 ln1 k1]::F)) {r:(Int × (List qj) × (List ByteArray) × (List qH))} (hF:qg7 n a k=some r):RetN Tryz.prog 63 [.agg #[.slice p1 ln1 k1,.slice p2 ln2 k2,.slice p3 ln3 k3],.int .i64 k] w (fun w'=>∃ Z0 Z1 Z2:Nat→Prop,SH w0 w' (Ch.own Z2 (r.2.2.2:List qH) [.slice p3 ln3 k3]::Ch.own Z1 (r.2.2.1:List ByteArray) [.slice p2 ln2 k2]::Ch.own Z0 (r.2.1:List qj) [.slice p1 ln1 k1]::F)) r.1:=by
 refine qbZ Tryz.func63 rfl (m:=18) rfl rfl ?_
 obtain rfl:=(h.sl 0 rfl).2
 obtain rfl:=(h.sl 1 rfl).2
 obtain rfl:=(h.sl 2 rfl).2
 refine zSR (qu h rfl rfl fun w1 bb1 h=>X1 7 0 h rfl ?_)
 replace h:=h.pickT 4 [3,0,1,2] rfl
 obtain ⟨o1,hr1,hF⟩:=qd hF
 obtain ⟨r1,x1⟩:=o1
 refine qbN r1 (cB 124 rfl) (qlg h hr1) rfl rfl rfl rfl ?_
 rintro w2 ⟨S4,h⟩
 refine X1 7 1 h rfl ?_
 replace h:=h.pickT 4 [3,0,1,2] rfl
 obtain ⟨o2,hr2,hF⟩:=qd hF
 obtain ⟨r2,x2⟩:=o2
 refine qbN r2 (cB 125 rfl) (qlV h hr2) rfl rfl rfl rfl ?_
 rintro w3 ⟨S5,h⟩
 refine X1 7 2 h rfl ?_
 replace h:=h.pickT 4 [3,0,1,2] rfl
 obtain ⟨o3,hr3,hF⟩:=qd hF
 obtain ⟨r3,x3⟩:=o3
 refine qbN r3 (cB 126 rfl) (qmN h hr3) rfl rfl rfl rfl ?_
 rintro w4 ⟨S6,h⟩
 refine X0 7 rfl ?_
 obtain rfl:=qb hF
 replace h:=h.pickT 4 [0,1,2] rfl
 exact qhY qc ⟨_,_,_,h⟩ ⟨rfl,trivial⟩
def qdo (a:(List qB)):Nat→(List qB)→Int→Int→Option ((List qB) × Int × Int)
 | 0,_,_,_=>none
 | n+1,x1,i1,i2 =>
  bif decide (i2<(a.length:Int)) then
   (idx x1 i2).bind fun y1 =>
   (qam n y1.Ak i1).bind fun o=>match o with
    | (r1,x2) =>
     (qam n y1.Bn r1).bind fun o=>match o with
      | (r2,x3) =>
       (qam n y1.Bk r2).bind fun o=>match o with
        | (r3,x4) =>
         (qam n y1.Bf r3).bind fun o=>match o with
          | (r4,x5) =>
           qdo a n (setS x1 i2 (⟨x2,x3,x4,x5⟩:qB)) r4 (W64 (i2+1))
  else
   some (x1,i1,i2)
def qj0 (n:Nat) (a:(List qB)) (k:Int):Option (Int × (List qB)) :=
 (qdo a n a k 0).bind fun o=>match o with
 | (x1,i1,_) =>
  some (i1,x1)
theorem qmI {n:Nat} {w0 w:World} {F:List Ch} {a:(List qB)} {k:Int} {S1:Nat→Prop} {p1:Option Addr} {ln1 k1:Nat} (h:SH w0 w (Ch.own S1 (a:List qB) [.slice p1 ln1 k1]::F)) {r:(Int × (List qB))} (hF:qj0 n a k=some r):RetN Tryz.prog 64 [.slice p1 ln1 k1,.int .i64 k] w (fun w'=>∃ Z0:Nat→Prop,SH w0 w' (Ch.own Z0 (r.2:List qB) [.slice p1 ln1 k1]::F)) r.1:=by
 refine qbZ Tryz.func64 rfl (m:=41) rfl rfl ?_
 obtain rfl:=(h.sl 0 rfl).2
 refine X0 9 rfl ?_
 obtain ⟨o1,hF,hK1⟩:=qd hF
 refine qk (rL (fun m e w'=>∃ (S2:Nat→Prop) (x1:(List qB)) (i1:Int) (i2:Int),qdo a m x1 i1 i2=some o1∧e=[(0,.slice p1 a.length k1),(1,.int .i64 i1),(5,.int .i64 i2)]∧SH w0 w' (Ch.own S2 (x1:List qB) [.slice p1 a.length k1]::F)) n ⟨_,_,_,_,hF,rfl,h⟩ rfl ?_)
 rintro m1 e1 w1 ⟨S2,x1,i1,i2,hF,rfl,h⟩
 rcases m1 with _|m1
 ·cases hF
 refine X0 8 rfl (qi rfl hF ?_ ?_)<;>intro hF
 ·refine X0 7 rfl ?_
  obtain ⟨y1,hy1,hF⟩:=qd hF
  have he1:=qax hy1
  obtain ⟨S3,S4,cs1,h⟩:=h.take hy1
  obtain ⟨p2,k2,p3,k3,p4,k4,p5,k5,rfl,-,-,-,-⟩:=qbe (h.own 0 rfl)
  obtain ⟨S5,S6,S7,S8,h⟩:=qsl h
  obtain ⟨b1,hp1,-,-,hl2⟩:=h.holeAt 4 rfl
  obtain ⟨q1,hq1⟩:∃ q,q=0+(i2).toNat*GoT.k qB:=⟨_,rfl⟩
  refine zx hp1 hq1 ⟨he1.1,qx he1.2.1 hl2⟩ rfl (zp1 rfl (zc 0 (qa5 h 4 rfl hp1 hq1) rfl (zp1 rfl ?_)))
  replace h:=h.pickT 5 [3,0,1,2,4] rfl
  obtain ⟨o2,hr1,hF⟩:=qd hF
  obtain ⟨r1,x2⟩:=o2
  refine qbN r1 (cB 65 rfl) (qai h hr1) rfl rfl rfl rfl ?_
  rintro w2 ⟨S9,h⟩
  refine X0 6 rfl ?_
  obtain ⟨b2,hp2,-,-,hl4⟩:=h.holeAt 4 rfl
  obtain ⟨q2,hq2⟩:∃ q,q=0+(i2).toNat*GoT.k qB:=⟨_,rfl⟩
  refine zx hp2 hq2 ⟨he1.1,qx he1.2.1 hl4⟩ rfl (zp1 rfl (zc 1 (qa5 h 4 rfl hp2 hq2) rfl (zp1 rfl ?_)))
  replace h:=h.pickT 5 [3,0,1,2,4] rfl
  obtain ⟨o3,hr2,hF⟩:=qd hF
  obtain ⟨r2,x3⟩:=o3
  refine qbN r2 (cB 65 rfl) (qai h hr2) rfl rfl rfl rfl ?_
  rintro w3 ⟨S10,h⟩
  refine X0 6 rfl ?_
  obtain ⟨b3,hp3,-,-,hl6⟩:=h.holeAt 4 rfl
  obtain ⟨q3,hq3⟩:∃ q,q=0+(i2).toNat*GoT.k qB:=⟨_,rfl⟩
  refine zx hp3 hq3 ⟨he1.1,qx he1.2.1 hl6⟩ rfl (zp1 rfl (zc 2 (qa5 h 4 rfl hp3 hq3) rfl (zp1 rfl ?_)))
  replace h:=h.pickT 5 [3,0,1,2,4] rfl
  obtain ⟨o4,hr3,hF⟩:=qd hF
  obtain ⟨r3,x4⟩:=o4
  refine qbN r3 (cB 65 rfl) (qai h hr3) rfl rfl rfl rfl ?_
  rintro w4 ⟨S11,h⟩
  refine X0 5 rfl ?_
  obtain ⟨b4,hp4,-,-,hl8⟩:=h.holeAt 4 rfl
  obtain ⟨q4,hq4⟩:∃ q,q=0+(i2).toNat*GoT.k qB:=⟨_,rfl⟩
  refine zx hp4 hq4 ⟨he1.1,qx he1.2.1 hl8⟩ rfl (zp1 rfl (zc 3 (qa5 h 4 rfl hp4 hq4) rfl (zp1 rfl ?_)))
  replace h:=h.pickT 5 [3,0,1,2,4] rfl
  obtain ⟨o5,hr4,hF⟩:=qd hF
  obtain ⟨r4,x5⟩:=o5
  refine qbN r4 (cB 65 rfl) (qai h hr4) rfl rfl rfl rfl ?_
  rintro w5 ⟨S12,h⟩
  refine X0 8 rfl ?_
  obtain ⟨S13,h⟩:=h.gatherT 5 [4] (qst (⟨x2,x3,x4,x5⟩:qB) h (qay 3 h rfl) (qay 2 h rfl) (qay 1 h rfl) (qay 0 h rfl) (by rfl) (by rfl) (by rfl)) rfl
  replace h:=h.put
  obtain ⟨S14,h⟩:=ql9 (S:=_) h
  exact rK ⟨_,_,_,_,hF,rfl,h⟩ rfl
 refine qm rfl ?_
 obtain rfl:=qb hF;replace hF:=hK1
 refine X0 5 rfl ?_
 obtain rfl:=qb hF
 exact qhY qc ⟨_,h⟩ ⟨rfl,trivial⟩
def qh1 (n:Nat) (a:qg) (k:Int):Option (Int × (List qp) × (List qj) × (List ByteArray) × (List qH) × (List qB)) :=
 (qgE n (⟨a.Ai.Ah⟩:qn) k).bind fun o=>match o with
  | (r1,x1) =>
   (qg7 n (⟨a.Ab.Aa,a.Ab.Af,a.Ab.Ac⟩:qf) r1).bind fun o=>match o with
    | (r2,x2,x3,x4) =>
     (qj0 n a.Aj r2).bind fun o=>match o with
      | (r3,x5) =>
       some (r3,x1,x2,x3,x4,x5)
theorem qmJ {n:Nat} {w0 w:World} {F:List Ch} {a:qg} {k:Int} {S1:Nat→Prop} {p1:Option Addr} {ln1 k1:Nat} {S2:Nat→Prop} {p2:Option Addr} {ln2 k2:Nat} {S3:Nat→Prop} {p3:Option Addr} {ln3 k3:Nat} {S4:Nat→Prop} {p4:Option Addr} {ln4 k4:Nat} {S5:Nat→Prop} {p5:Option Addr} {ln5 k5:Nat} (h:SH w0 w (Ch.own S5 (a.Aj:List qB) [.slice p5 ln5 k5]::Ch.own S4 (a.Ab.Ac:List qH) [.slice p4 ln4 k4]::Ch.own S3 (a.Ab.Af:List ByteArray) [.slice p3 ln3 k3]::Ch.own S2 (a.Ab.Aa:List qj) [.slice p2 ln2 k2]::Ch.own S1 (a.Ai.Ah:List qp) [.slice p1 ln1 k1]::F)) {r:(Int × (List qp) × (List qj) × (List ByteArray) × (List qH) × (List qB))} (hF:qh1 n a k=some r):RetN Tryz.prog 25 [.agg #[.slice p1 ln1 k1,.slice p2 ln2 k2,.slice p3 ln3 k3,.slice p4 ln4 k4,.slice p5 ln5 k5],.int .i64 k] w (fun w'=>∃ Z0 Z1 Z2 Z3 Z4:Nat→Prop,SH w0 w' (Ch.own Z4 (r.2.2.2.2.2:List qB) [.slice p5 ln5 k5]::Ch.own Z3 (r.2.2.2.2.1:List qH) [.slice p4 ln4 k4]::Ch.own Z2 (r.2.2.2.1:List ByteArray) [.slice p3 ln3 k3]::Ch.own Z1 (r.2.2.1:List qj) [.slice p2 ln2 k2]::Ch.own Z0 (r.2.1:List qp) [.slice p1 ln1 k1]::F)) r.1:=by
 refine qbZ Tryz.func25 rfl (m:=18) rfl rfl ?_
 obtain rfl:=(h.sl 0 rfl).2
 obtain rfl:=(h.sl 1 rfl).2
 obtain rfl:=(h.sl 2 rfl).2
 obtain rfl:=(h.sl 3 rfl).2
 obtain rfl:=(h.sl 4 rfl).2
 refine zSR (qu h rfl rfl fun w1 bb1 h=>X1 7 0 h rfl ?_)
 replace h:=h.pickT 6 [5,0,1,2,3,4] rfl
 obtain ⟨o1,hr1,hF⟩:=qd hF
 obtain ⟨r1,x1⟩:=o1
 refine qbN r1 (cB 62 rfl) (ql4 h hr1) rfl rfl rfl rfl ?_
 rintro w2 ⟨S6,h⟩
 refine X1 7 1 h rfl ?_
 replace h:=h.pickT 6 [3,4,5,0,1,2] rfl
 obtain ⟨o2,hr2,hF⟩:=qd hF
 obtain ⟨r2,x2,x3,x4⟩:=o2
 refine qbN r2 (cB 63 rfl) (qmx h hr2) rfl rfl rfl rfl ?_
 rintro w3 ⟨S7,S8,S9,h⟩
 refine X1 7 4 h rfl ?_
 replace h:=h.pickT 6 [5,0,1,2,3,4] rfl
 obtain ⟨o3,hr3,hF⟩:=qd hF
 obtain ⟨r3,x5⟩:=o3
 refine qbN r3 (cB 64 rfl) (qmI h hr3) rfl rfl rfl rfl ?_
 rintro w4 ⟨S10,h⟩
 refine X0 7 rfl ?_
 obtain rfl:=qb hF
 replace h:=h.pickT 6 [0,1,2,3,4] rfl
 exact qhY qc ⟨_,_,_,_,_,h⟩ ⟨rfl,trivial⟩
def qbO (a:(List qa)):Nat→(List qa)→Int→Int→Option ((List qa) × Int × Int)
 | 0,_,_,_=>none
 | n+1,x1,i1,i2 =>
  bif decide (i2<(a.length:Int)) then
   (idx x1 i2).bind fun y1 =>
   (qam n y1.Au (W64 ((W64 (i1+1))+1))).bind fun o=>match o with
    | (r1,x2) =>
     (qam n y1.Aq r1).bind fun o=>match o with
      | (r2,x3) =>
       (qam n y1.To r2).bind fun o=>match o with
        | (r3,x4) =>
         qbO a n (setS x1 i2 (⟨i1,W64 (i1+1),x2,x3,x4⟩:qa)) r3 (W64 (i2+1))
  else
   some (x1,i1,i2)
def qgU (n:Nat) (a:(List qa)) (k:Int):Option (Int × (List qa)) :=
 (qbO a n a k 0).bind fun o=>match o with
 | (x1,i1,_) =>
  some (i1,x1)
theorem qkQ {n:Nat} {w0 w:World} {F:List Ch} {a:(List qa)} {k:Int} {S1:Nat→Prop} {p1:Option Addr} {ln1 k1:Nat} (h:SH w0 w (Ch.own S1 (a:List qa) [.slice p1 ln1 k1]::F)) {r:(Int × (List qa))} (hF:qgU n a k=some r):RetN Tryz.prog 26 [.slice p1 ln1 k1,.int .i64 k] w (fun w'=>∃ Z0:Nat→Prop,SH w0 w' (Ch.own Z0 (r.2:List qa) [.slice p1 ln1 k1]::F)) r.1:=by
 refine qbZ Tryz.func26 rfl (m:=48) rfl rfl ?_
 obtain rfl:=(h.sl 0 rfl).2
 refine X0 9 rfl ?_
 obtain ⟨o1,hF,hK1⟩:=qd hF
 refine qk (rL (fun m e w'=>∃ (S2:Nat→Prop) (x1:(List qa)) (i1:Int) (i2:Int),qbO a m x1 i1 i2=some o1∧e=[(0,.slice p1 a.length k1),(1,.int .i64 i1),(5,.int .i64 i2)]∧SH w0 w' (Ch.own S2 (x1:List qa) [.slice p1 a.length k1]::F)) n ⟨_,_,_,_,hF,rfl,h⟩ rfl ?_)
 rintro m1 e1 w1 ⟨S2,x1,i1,i2,hF,rfl,h⟩
 rcases m1 with _|m1
 ·cases hF
 refine X0 8 rfl (qi rfl hF ?_ ?_)<;>intro hF
 ·refine X0 8 rfl ?_
  obtain ⟨y1,hy1,hF⟩:=qd hF
  have he1:=qax hy1
  obtain ⟨S3,S4,cs1,h⟩:=h.take hy1
  obtain ⟨p2,k2,p3,k3,p4,k4,rfl,-,-,-⟩:=qq (h.own 0 rfl)
  obtain ⟨S5,S6,S7,h⟩:=qnN h
  obtain ⟨b1,hp1,-,-,hl2⟩:=h.holeAt 3 rfl
  obtain ⟨q1,hq1⟩:∃ q,q=0+(i2).toNat*GoT.k qa:=⟨_,rfl⟩
  refine zx hp1 hq1 ⟨he1.1,qx he1.2.1 hl2⟩ rfl (zp1 rfl (qfc qc 3 0 h rfl hp1 hq1 rfl rfl rfl rfl rfl rfl fun w2 h=>X0 12 rfl ?_))
  obtain ⟨b2,hp2,-,-,hl4⟩:=h.holeAt 3 rfl
  obtain ⟨q2,hq2⟩:∃ q,q=0+(i2).toNat*GoT.k qa:=⟨_,rfl⟩
  refine zx hp2 hq2 ⟨he1.1,qx he1.2.1 hl4⟩ rfl (zp1 rfl (qfc qc 3 1 h rfl hp2 hq2 rfl rfl rfl rfl rfl rfl fun w3 h=>?_))
  replace h:SH _ _ (Ch.own S7 (y1.To:List Int) [.slice p4 y1.To.length k4]::Ch.own S6 (y1.Aq:List Int) [.slice p3 y1.Aq.length k3]::Ch.own S5 (y1.Au:List Int) [.slice p2 y1.Au.length k2]::Ch.hole S4 (x1:List qa) p1 a.length k1 (i2).toNat [.int .i64 i1,.int .i64 (W64 (i1+1)),.slice p2 y1.Au.length k2,.slice p3 y1.Aq.length k3,.slice p4 y1.To.length k4]::F):=h
  refine X0 11 rfl ?_
  obtain ⟨b3,hp3,-,-,hl6⟩:=h.holeAt 3 rfl
  obtain ⟨q3,hq3⟩:∃ q,q=0+(i2).toNat*GoT.k qa:=⟨_,rfl⟩
  refine zx hp3 hq3 ⟨he1.1,qx he1.2.1 hl6⟩ rfl (zp1 rfl (zc 2 (qa5 h 3 rfl hp3 hq3) rfl (zp1 rfl ?_)))
  replace h:=h.pickT 4 [2,0,1,3] rfl
  obtain ⟨o2,hr1,hF⟩:=qd hF
  obtain ⟨r1,x2⟩:=o2
  refine qbN r1 (cB 65 rfl) (qai h hr1) rfl rfl rfl rfl ?_
  rintro w4 ⟨S8,h⟩
  refine X0 6 rfl ?_
  obtain ⟨b4,hp4,-,-,hl8⟩:=h.holeAt 3 rfl
  obtain ⟨q4,hq4⟩:∃ q,q=0+(i2).toNat*GoT.k qa:=⟨_,rfl⟩
  refine zx hp4 hq4 ⟨he1.1,qx he1.2.1 hl8⟩ rfl (zp1 rfl (zc 3 (qa5 h 3 rfl hp4 hq4) rfl (zp1 rfl ?_)))
  replace h:=h.pickT 4 [2,0,1,3] rfl
  obtain ⟨o3,hr2,hF⟩:=qd hF
  obtain ⟨r2,x3⟩:=o3
  refine qbN r2 (cB 65 rfl) (qai h hr2) rfl rfl rfl rfl ?_
  rintro w5 ⟨S9,h⟩
  refine X0 5 rfl ?_
  obtain ⟨b5,hp5,-,-,hl10⟩:=h.holeAt 3 rfl
  obtain ⟨q5,hq5⟩:∃ q,q=0+(i2).toNat*GoT.k qa:=⟨_,rfl⟩
  refine zx hp5 hq5 ⟨he1.1,qx he1.2.1 hl10⟩ rfl (zp1 rfl (zc 4 (qa5 h 3 rfl hp5 hq5) rfl (zp1 rfl ?_)))
  replace h:=h.pickT 4 [2,0,1,3] rfl
  obtain ⟨o4,hr3,hF⟩:=qd hF
  obtain ⟨r3,x4⟩:=o4
  refine qbN r3 (cB 65 rfl) (qai h hr3) rfl rfl rfl rfl ?_
  rintro w6 ⟨S10,h⟩
  refine X0 8 rfl ?_
  obtain ⟨S11,h⟩:=h.gatherT 4 [3] (qmF (⟨i1,W64 (i1+1),x2,x3,x4⟩:qa) h (qy (S:=fun _=>False) rfl) (qy (S:=fun _=>False) rfl) (qay 2 h rfl) (qay 1 h rfl) (qay 0 h rfl) (by rfl) (by rfl) (by rfl) (by rfl)) rfl
  replace h:=h.put
  obtain ⟨S12,h⟩:=ql9 (S:=_) h
  exact rK ⟨_,_,_,_,hF,rfl,h⟩ rfl
 refine qm rfl ?_
 obtain rfl:=qb hF;replace hF:=hK1
 refine X0 5 rfl ?_
 obtain rfl:=qb hF
 exact qhY qc ⟨_,h⟩ ⟨rfl,trivial⟩
def qcL (a:(List (List Int))):Nat→(List (List Int))→Int→Int→Option ((List (List Int)) × Int × Int)
 | 0,_,_,_=>none
 | n+1,x1,i1,i2 =>
  bif decide (i2<(a.length:Int)) then
   (idx x1 i2).bind fun y1 =>
   (qam n y1 i1).bind fun o=>match o with
    | (r1,x2) =>
     qcL a n (setS x1 i2 x2) r1 (W64 (i2+1))
  else
   some (x1,i1,i2)
def qgG (n:Nat) (a:(List (List Int))) (k:Int):Option (Int × (List (List Int))) :=
 (qcL a n a k 0).bind fun o=>match o with
 | (x1,i1,_) =>
  some (i1,x1)
theorem qlG {n:Nat} {w0 w:World} {F:List Ch} {a:(List (List Int))} {k:Int} {S1:Nat→Prop} {p1:Option Addr} {ln1 k1:Nat} (h:SH w0 w (Ch.own S1 (a:List (List Int)) [.slice p1 ln1 k1]::F)) {r:(Int × (List (List Int)))} (hF:qgG n a k=some r):RetN Tryz.prog 27 [.slice p1 ln1 k1,.int .i64 k] w (fun w'=>∃ Z0:Nat→Prop,SH w0 w' (Ch.own Z0 (r.2:List (List Int)) [.slice p1 ln1 k1]::F)) r.1:=by
 refine qbZ Tryz.func27 rfl (m:=19) rfl rfl ?_
 obtain rfl:=(h.sl 0 rfl).2
 refine X0 9 rfl ?_
 obtain ⟨o1,hF,hK1⟩:=qd hF
 refine qk (rL (fun m e w'=>∃ (S2:Nat→Prop) (x1:(List (List Int))) (i1:Int) (i2:Int),qcL a m x1 i1 i2=some o1∧e=[(0,.slice p1 a.length k1),(1,.int .i64 i1),(5,.int .i64 i2)]∧SH w0 w' (Ch.own S2 (x1:List (List Int)) [.slice p1 a.length k1]::F)) n ⟨_,_,_,_,hF,rfl,h⟩ rfl ?_)
 rintro m1 e1 w1 ⟨S2,x1,i1,i2,hF,rfl,h⟩
 rcases m1 with _|m1
 ·cases hF
 refine X0 8 rfl (qi rfl hF ?_ ?_)<;>intro hF
 ·refine X0 6 rfl ?_
  obtain ⟨y1,hy1,hF⟩:=qd hF
  have he1:=qax hy1
  obtain ⟨S3,S4,cs1,h⟩:=h.take hy1
  obtain ⟨p2,k2,rfl,-⟩:=h.own 0 rfl
  obtain ⟨b1,hp1,-,-,hl2⟩:=h.holeAt 1 rfl
  obtain ⟨q1,hq1⟩:∃ q,q=0+(i2).toNat*GoT.k (List Int):=⟨_,rfl⟩
  refine zx hp1 hq1 ⟨he1.1,qx he1.2.1 hl2⟩ rfl (zc 0 (qa5 h 1 rfl hp1 hq1) rfl (zp1 rfl ?_))
  obtain ⟨o2,hr1,hF⟩:=qd hF
  obtain ⟨r1,x2⟩:=o2
  refine qbN r1 (cB 65 rfl) (qai h hr1) rfl rfl rfl rfl ?_
  rintro w2 ⟨S5,h⟩
  refine X0 8 rfl ?_
  replace h:=h.put
  obtain ⟨S6,h⟩:=ql9 (S:=_) h
  exact rK ⟨_,_,_,_,hF,rfl,h⟩ rfl
 refine qm rfl ?_
 obtain rfl:=qb hF;replace hF:=hK1
 refine X0 5 rfl ?_
 obtain rfl:=qb hF
 exact qhY qc ⟨_,h⟩ ⟨rfl,trivial⟩
def qcd (a:(List Int)):Nat→Int→Int→Option (Flow Int (Int × Int))
 | 0,_,_=>none
 | n+1,i1,i2 =>
  bif decide (i2<(a.length:Int)) then
   (idx a i2).bind fun y1 =>
   bif (y1 != i1) then some (.ret (-1)) else
   qcd a n (W64 (i1+1)) (W64 (i2+1))
  else
   some (.nxt (i1,i2))
def qhd (n:Nat) (a:(List Int)) (k:Int):Option Int :=
 (qcd a n k 0).bind fun o=>match o with
 | .ret r=>some r
 | .nxt (i1,_) =>
  some i1
theorem qmV {a:(List Int)} {k:Int} (ha1:GoT.R w (old w) a cs1) {r:Int} (hF:qhd n a k=some r):RetV Tryz.prog 66 [GoT.v (List Int) cs1,.int .i64 k] w r:=by
 obtain ⟨p1,k1,rfl,s1⟩:=ha1
 refine zV 21 Tryz.func66 rfl fun h=>X0 9 rfl ?_
 obtain ⟨o1,hF,hK1⟩:=qd hF
 refine qk (rL (fun m e w'=>∃ (i1:Int) (i2:Int),qcd a m i1 i2=some o1∧e=[(0,.slice p1 a.length k1),(1,.int .i64 i1),(5,.int .i64 i2)]∧SH w w' []) n ⟨_,_,hF,rfl,h⟩ rfl ?_)
 rintro m1 e1 w1 ⟨i1,i2,hF,rfl,h⟩
 rcases m1 with _|m1
 ·cases hF
 refine X0 8 rfl (qi rfl hF ?_ ?_)<;>intro hF
 ·refine X0 8 rfl ?_
  obtain ⟨y1,hy1,hF,he1,b1,_,q1,cs2,hp1,hq1,rfl,hc2⟩:=s1.ix hF
  refine zxe hp1 hq1 he1 rfl (zc 0 (hc2.below h.below) rfl (X0 3 rfl (qi rfl hF ?_ ?_)))<;>intro hF
  ·refine X0 4 rfl ?_
   obtain rfl:=qb hF;replace hF:=hK1
   exact ri h hF rfl
  exact X0 12 rfl (rK ⟨_,_,hF,rfl,h⟩ rfl)
 refine qm rfl ?_
 obtain rfl:=qb hF;replace hF:=hK1
 exact X0 5 rfl (ri h hF rfl)
def qcH (a:(List (List Int))):Nat→Int→Int→Option (Flow Int (Int × Int))
 | 0,_,_=>none
 | n+1,i1,i2 =>
  bif decide (i2<(a.length:Int)) then
   (idx a i2).bind fun y1 =>
   (qhd n y1 i1).bind fun r1 =>
   bif decide (r1<0) then some (.ret (-1)) else
   qcH a n r1 (W64 (i2+1))
  else
   some (.nxt (i1,i2))
def qfh (n:Nat) (a:(List (List Int))) (k:Int):Option Int :=
 (qcH a n k 0).bind fun o=>match o with
 | .ret r=>some r
 | .nxt (i1,_) =>
  some i1
theorem qjb {a:(List (List Int))} {k:Int} (ha1:GoT.R w (old w) a cs1) {r:Int} (hF:qfh n a k=some r):RetV Tryz.prog 28 [GoT.v (List (List Int)) cs1,.int .i64 k] w r:=by
 obtain ⟨p1,k1,rfl,s1⟩:=ha1
 refine zV 21 Tryz.func28 rfl fun h=>X0 9 rfl ?_
 obtain ⟨o1,hF,hK1⟩:=qd hF
 refine qk (rL (fun m e w'=>∃ (i1:Int) (i2:Int),qcH a m i1 i2=some o1∧e=[(0,.slice p1 a.length k1),(1,.int .i64 i1),(5,.int .i64 i2)]∧SH w w' []) n ⟨_,_,hF,rfl,h⟩ rfl ?_)
 rintro m1 e1 w1 ⟨i1,i2,hF,rfl,h⟩
 rcases m1 with _|m1
 ·cases hF
 refine X0 8 rfl (qi rfl hF ?_ ?_)<;>intro hF
 ·refine X0 7 rfl ?_
  obtain ⟨y1,hy1,hF,he1,b1,_,q1,cs2,hp1,hq1,hr1,hc2⟩:=s1.ix hF
  obtain ⟨p2,k2,rfl,s2⟩:=hr1
  refine zxe hp1 hq1 he1 rfl (zc 0 (hc2.below h.below) rfl (zp1 rfl (zcI h hF (qmV ⟨_,_,rfl,(h.oldS s2)⟩) rfl fun r1 w2 h hF=>X0 7 rfl (qi rfl hF ?_ ?_))))<;>intro hF
  ·refine X0 4 rfl ?_
   obtain rfl:=qb hF;replace hF:=hK1
   exact ri h hF rfl
  exact X0 7 rfl (rK ⟨_,_,hF,rfl,h⟩ rfl)
 refine qm rfl ?_
 obtain rfl:=qb hF;replace hF:=hK1
 exact X0 5 rfl (ri h hF rfl)
def qeU (a:(List (List Int))) (b:(List (List Int))):Nat→Int→Option (Flow Bool Int)
 | 0,_=>none
 | n+1,i1 =>
  bif decide (i1<(a.length:Int)) then
   (idx a i1).bind fun y1 =>
   (idx b i1).bind fun y2 =>
   (qaD n y1 y2).bind fun r1 =>
   bif (!r1) then some (.ret false) else
   qeU a b n (W64 (i1+1))
  else
   some (.nxt i1)
def qff (n:Nat) (a:(List (List Int))) (b:(List (List Int))):Option Bool :=
 bif ((a.length:Int) != (b.length:Int)) then some false else
 (qeU a b n 0).bind fun o=>match o with
 | .ret r=>some r
 | .nxt _ =>
  some true
theorem qhJ {a:(List (List Int))} {b:(List (List Int))} (ha1:GoT.R w (old w) a cs1) (ha2:GoT.R w (old w) b cs2) {r:Bool} (hF:qff n a b=some r):RetV Tryz.prog 22 [GoT.v (List (List Int)) cs1,GoT.v (List (List Int)) cs2] w r:=by
 obtain ⟨p1,k1,rfl,s1⟩:=ha1
 obtain ⟨p2,k2,rfl,s2⟩:=ha2
 refine zV 27 Tryz.func22 rfl fun h=>X0 13 rfl (qi rfl hF ?_ ?_)<;>intro hF
 ·exact X0 4 rfl (rb h hF rfl)
 refine X0 6 rfl ?_
 obtain ⟨o1,hF,hK1⟩:=qd hF
 refine qk (rL (fun m e w'=>∃ (i1:Int),qeU a b m i1=some o1∧e=[(0,.slice p1 a.length k1),(1,.slice p2 b.length k2),(5,.int .i64 i1)]∧SH w w' []) n ⟨_,hF,rfl,h⟩ rfl ?_)
 rintro m1 e1 w1 ⟨i1,hF,rfl,h⟩
 rcases m1 with _|m1
 ·cases hF
 refine X0 8 rfl (qi rfl hF ?_ ?_)<;>intro hF
 ·refine X0 4 rfl (rD (zd2 rfl ?_))
  obtain ⟨y1,hy1,hF,he1,b1,_,q1,cs3,hp1,hq1,hr1,hc3⟩:=s1.ix hF
  obtain ⟨p3,k3,rfl,s3⟩:=hr1
  refine zdxe hp1 hq1 he1 rfl (zdc 0 (hc3.below h.below) rfl (zd2 rfl ?_))
  obtain ⟨y2,hy2,hF,he2,b2,_,q2,cs4,hp2,hq2,hr2,hc4⟩:=s2.ix hF
  obtain ⟨p4,k4,rfl,s4⟩:=hr2
  refine zdxe hp2 hq2 he2 rfl (zdc 0 (hc4.below h.below) rfl ?_)
  obtain ⟨r1,hr3,hF⟩:=qd hF
  refine qbR r1 (vsB _) (cB 57 rfl) (fun _ hb=>qaG ⟨_,_,rfl,((h.ext hb).oldS s3)⟩ ⟨_,_,rfl,((h.ext hb).oldS s4)⟩ hr3) rfl rfl rfl rfl (zd1 rfl (dN h fun w2 h=>qi rfl hF ?_ ?_))<;>intro hF
  ·refine X0 4 rfl ?_
   obtain rfl:=qb hF;replace hF:=hK1
   exact rb h hF rfl
  exact X0 7 rfl (rK ⟨_,hF,rfl,h⟩ rfl)
 refine qm rfl ?_
 obtain rfl:=qb hF;replace hF:=hK1
 exact X0 4 rfl (rb h hF rfl)
end Go.Fw


namespace Go.Fw
open Go Go.Proofs
open Go.RowKit (Below)
set_option maxRecDepth 100000
set_option maxHeartbeats 6400000
variable {n:Nat} {w:World} {cs1 cs2 cs3 cs4 cs5 cs6 cs7 cs8 cs9:List Value}
def qha (_:Nat) (x:Int):Option Bool :=
 some (x != x)
theorem qjO {x:Int}  {r:Bool} (hF:qha n x=some r):RetV Tryz.prog 222 [.int .i64 x] w r:=by
 exact zV 6 Tryz.func222 rfl fun h=>X0 11 rfl (rb h hF rfl)
def qgd (n:Nat) (x:Int) (y:Int):Option Int :=
 (qha n x).bind fun r1 =>
 (qha n y).bind fun r2 =>
 bif r1 then
  bif r2 then some 0 else
  some (-1)
 else
  bif r2 then some 1 else
  bif decide (x<y) then some (-1) else
  bif decide (x > y) then some 1 else
  some 0
theorem qlE {x:Int} {y:Int}  {r:Int} (hF:qgd n x y=some r):RetV Tryz.prog 198 [.int .i64 x,.int .i64 y] w r:=by
 refine zV 20 Tryz.func198 rfl fun h=>X0 7 rfl (zcB h hF qjO rfl fun r1 w1 h hF=>X0 5 rfl (zcB h hF qjO rfl fun r2 w2 h hF=>X0 7 rfl (qi rfl hF ?_ ?_)))<;>intro hF
 ·refine X0 5 rfl (qi rfl hF ?_ ?_)<;>intro hF
  ·exact X0 4 rfl (ri h hF rfl)
  exact X0 5 rfl (ri h hF rfl)
 refine X0 6 rfl (qi rfl hF ?_ ?_)<;>intro hF
 ·exact X0 4 rfl (ri h hF rfl)
 refine X0 8 rfl (qi rfl hF ?_ ?_)<;>intro hF
 ·exact X0 4 rfl (ri h hF rfl)
 refine X0 8 rfl (qi rfl hF ?_ ?_)<;>intro hF
 ·exact X0 4 rfl (ri h hF rfl)
 exact X0 5 rfl (ri h hF rfl)
def qaI (a_s1:(List Int)) (a_s2:(List Int)):Nat→Int→Option (Flow Int Int)
 | 0,_=>none
 | n+1,i1 =>
  bif decide (i1<(a_s1.length:Int)) then
   (idx a_s1 i1).bind fun y1 =>
   bif decide (i1 ≥ (a_s2.length:Int)) then some (.ret 1) else
   (idx a_s2 i1).bind fun y2 =>
   (qgd n y1 y2).bind fun r1 =>
   bif (r1 != 0) then some (.ret r1) else
   qaI a_s1 a_s2 n (W64 (i1+1))
  else
   some (.nxt i1)
def qdg (n:Nat) (a_s1:(List Int)) (a_s2:(List Int)):Option Int :=
 (qaI a_s1 a_s2 n 0).bind fun o=>match o with
 | .ret r=>some r
 | .nxt _ =>
  bif decide ((a_s1.length:Int)<(a_s2.length:Int)) then some (-1) else
  some 0
theorem qhw {a_s1:(List Int)} {a_s2:(List Int)} (ha1:GoT.R w (old w) a_s1 cs1) (ha2:GoT.R w (old w) a_s2 cs2) {r:Int} (hF:qdg n a_s1 a_s2=some r):RetV Tryz.prog 161 [GoT.v (List Int) cs1,GoT.v (List Int) cs2] w r:=by
 obtain ⟨p1,k1,rfl,s1⟩:=ha1
 obtain ⟨p2,k2,rfl,s2⟩:=ha2
 refine zV 36 Tryz.func161 rfl fun h=>X0 11 rfl ?_
 obtain ⟨o1,hF,hK1⟩:=qd hF
 refine qk (rL (fun m e w'=>∃ (i1:Int),qaI a_s1 a_s2 m i1=some o1∧e=[(0,.slice p1 a_s1.length k1),(1,.slice p2 a_s2.length k2),(9,.slice p1 a_s1.length k1),(10,.int .i64 (a_s1.length:Int)),(11,.int .i64 i1)]∧SH w w' []) n ⟨_,hF,rfl,h⟩ rfl ?_)
 rintro m1 e1 w1 ⟨i1,hF,rfl,h⟩
 rcases m1 with _|m1
 ·cases hF
 refine X0 5 rfl (qi rfl hF ?_ ?_)<;>intro hF
 ·refine X0 6 rfl ?_
  obtain ⟨y1,hy1,hF,he1,b1,_,q1,cs3,hp1,hq1,rfl,hc2⟩:=s1.ix hF
  refine zxe hp1 hq1 he1 rfl (zc 0 (hc2.below h.below) rfl (X0 11 rfl (qi rfl hF ?_ ?_)))<;>intro hF
  ·refine X0 4 rfl ?_
   obtain rfl:=qb hF;replace hF:=hK1
   exact ri h hF rfl
  refine X0 5 rfl ?_
  obtain ⟨y2,hy2,hF,he2,b2,_,q2,cs4,hp2,hq2,rfl,hc4⟩:=s2.ix hF
  refine zxe hp2 hq2 he2 rfl (zc 0 (hc4.below h.below) rfl (X0 6 rfl (zcI h hF qlE rfl fun r1 w2 h hF=>X0 7 rfl (qi rfl hF ?_ ?_))))<;>intro hF
  ·refine X0 5 rfl ?_
   obtain rfl:=qb hF;replace hF:=hK1
   exact ri h hF rfl
  exact X0 6 rfl (rK ⟨_,hF,rfl,h⟩ rfl)
 refine qm rfl ?_
 obtain rfl:=qb hF;replace hF:=hK1
 refine X0 9 rfl (qi rfl hF ?_ ?_)<;>intro hF
 ·exact X0 4 rfl (ri h hF rfl)
 exact X0 5 rfl (ri h hF rfl)
def qbE (a:(List Int)) (b:(List Int)):Nat→Int→Option (Flow Int Int)
 | 0,_=>none
 | n+1,i1 =>
  bif decide (i1<(a.length:Int)) then
   (idx a i1).bind fun y1 =>
   (idx b i1).bind fun y2 =>
   bif decide (y1<y2) then some (.ret (-1)) else
   (idx a i1).bind fun y3 =>
   (idx b i1).bind fun y4 =>
   bif decide (y3 > y4) then some (.ret 1) else
   qbE a b n (W64 (i1+1))
  else
   some (.nxt i1)
def qf1 (n:Nat) (a:(List Int)) (b:(List Int)):Option Int :=
 (qbE a b n 0).bind fun o=>match o with
 | .ret r=>some r
 | .nxt _ =>
  some 0
theorem qj1 {a:(List Int)} {b:(List Int)} (ha1:GoT.R w (old w) a cs1) (ha2:GoT.R w (old w) b cs2) {r:Int} (hF:qf1 n a b=some r):RetV Tryz.prog 164 [GoT.v (List Int) cs1,GoT.v (List Int) cs2] w r:=by
 obtain ⟨p1,k1,rfl,s1⟩:=ha1
 obtain ⟨p2,k2,rfl,s2⟩:=ha2
 refine zV 30 Tryz.func164 rfl fun h=>X0 9 rfl ?_
 obtain ⟨o1,hF,hK1⟩:=qd hF
 refine qk (rL (fun m e w'=>∃ (i1:Int),qbE a b m i1=some o1∧e=[(0,.slice p1 a.length k1),(1,.slice p2 b.length k2),(5,.int .i64 i1)]∧SH w w' []) n ⟨_,hF,rfl,h⟩ rfl ?_)
 rintro m1 e1 w1 ⟨i1,hF,rfl,h⟩
 rcases m1 with _|m1
 ·cases hF
 refine X0 8 rfl (qi rfl hF ?_ ?_)<;>intro hF
 ·refine X0 5 rfl (rD (zd2 rfl ?_))
  obtain ⟨y1,hy1,hF,he1,b1,_,q1,cs3,hp1,hq1,rfl,hc2⟩:=s1.ix hF
  refine zdxe hp1 hq1 he1 rfl (zdc 0 (hc2.below h.below) rfl (zd2 rfl ?_))
  obtain ⟨y2,hy2,hF,he2,b2,_,q2,cs4,hp2,hq2,rfl,hc3⟩:=s2.ix hF
  refine zdxe hp2 hq2 he2 rfl (zdc 0 (hc3.below h.below) rfl (zd1 rfl (dN h fun w2 h=>qi rfl hF ?_ ?_)))<;>intro hF
  ·refine X0 4 rfl ?_
   obtain rfl:=qb hF;replace hF:=hK1
   exact ri h hF rfl
  refine zKS (rD (zd2 rfl ?_))
  obtain ⟨y3,hy3,hF,he3,b3,_,q3,cs5,hp3,hq3,rfl,hc5⟩:=s1.ix hF
  refine zdxe hp3 hq3 he3 rfl (zdc 0 (hc5.below h.below) rfl (zd2 rfl ?_))
  obtain ⟨y4,hy4,hF,he4,b4,_,q4,cs6,hp4,hq4,rfl,hc6⟩:=s2.ix hF
  refine zdxe hp4 hq4 he4 rfl (zdc 0 (hc6.below h.below) rfl (zd1 rfl (dN h fun w3 h=>qi rfl hF ?_ ?_)))<;>intro hF
  ·refine X0 4 rfl ?_
   obtain rfl:=qb hF;replace hF:=hK1
   exact ri h hF rfl
  exact X0 7 rfl (rK ⟨_,hF,rfl,h⟩ rfl)
 refine qm rfl ?_
 obtain rfl:=qb hF;replace hF:=hK1
 exact X0 4 rfl (ri h hF rfl)
def qt (x:(List (List Int))) (target:(List Int)):Nat→Int→Int→Option (Int × Int)
 | 0,_,_=>none
 | n+1,i1,i2 =>
  bif decide (i1<i2) then
   (shrS .u64 (IntKind.wrap .u64 (W64 (i1+i2))) 1).bind fun y1 =>
   (idx x (W64 y1)).bind fun y2 =>
   (qdg n y2 target).bind fun r1 =>
   bif decide (r1<0) then qt x target n (W64 ((W64 y1)+1)) i2 else
   qt x target n i1 (W64 y1)
  else
   some (i1,i2)
def qad (n:Nat) (x:(List (List Int))) (target:(List Int)):Option (Int × Bool) :=
 (qt x target n 0 (x.length:Int)).bind fun o=>match o with
 | (i1,_) =>
  bif decide (i1<(x.length:Int)) then
   (idx x i1).bind fun y3 =>
   (qdg n y3 target).bind fun r2 =>
   some (i1,(r2==0))
  else
   some (i1,false)
theorem qdy {x:(List (List Int))} {target:(List Int)} (ha1:GoT.R w (old w) x cs1) (ha2:GoT.R w (old w) target cs2) {r:(Int × Bool)} (hF:qad n x target=some r):RetV Tryz.prog 160 [GoT.v (List (List Int)) cs1,GoT.v (List Int) cs2,.func (.func 161) #[] #[]] w r:=by
 obtain ⟨p1,k1,rfl,s1⟩:=ha1
 obtain ⟨p2,k2,rfl,s2⟩:=ha2
 refine zV 49 Tryz.func160 rfl fun h=>X0 18 rfl ?_
 obtain ⟨o1,hF,hK1⟩:=qd hF
 refine qk (rL (fun m e w'=>∃ (i1:Int) (i2:Int),qt x target m i1 i2=some o1∧e=[(0,.slice p1 x.length k1),(1,.slice p2 target.length k2),(2,.func (.func 161) #[] #[]),(8,.int .i64 (x.length:Int)),(9,.int .i64 i1),(10,.int .i64 i2)]∧SH w w' []) n ⟨_,_,hF,rfl,h⟩ rfl ?_)
 rintro m1 e1 w1 ⟨i1,i2,hF,rfl,h⟩
 rcases m1 with _|m1
 ·cases hF
 refine X0 7 rfl (qi rfl hF ?_ ?_)<;>intro hF
 ·refine X0 8 rfl ?_
  obtain ⟨y1,hx1,hF⟩:=qd hF
  obtain ⟨g1,hx1⟩:=quh hx1
  refine r_v (qxG g1 rfl rfl) rfl ?_
  rw [hx1]
  refine X0 8 rfl ?_
  obtain ⟨y2,hy1,hF,he1,b1,_,q1,cs3,hp1,hq1,hr1,hc2⟩:=s1.ix hF
  obtain ⟨p3,k3,rfl,s3⟩:=hr1
  refine zxe hp1 hq1 he1 rfl (zc 0 (hc2.below h.below) rfl (zp1 rfl (zcI h hF (qhw ⟨_,_,rfl,(h.oldS s3)⟩ ⟨_,_,rfl,(h.oldS s2)⟩) rfl fun r1 w2 h hF=>X0 2 rfl (qi rfl hF ?_ ?_))))<;>intro hF
  ·exact X0 6 rfl (rK ⟨_,_,hF,rfl,h⟩ rfl)
  exact X0 5 rfl (rK ⟨_,_,hF,rfl,h⟩ rfl)
 refine qm rfl ?_
 obtain rfl:=qb hF;replace hF:=hK1
 refine X0 7 rfl (ql (t:=39) hF rfl ?_ ?_)<;>intro hF
 ·refine X0 7 rfl ?_
  obtain ⟨y3,hy2,hF,he2,b2,_,q2,cs4,hp2,hq2,hr3,hc4⟩:=s1.ix hF
  obtain ⟨p4,k4,rfl,s4⟩:=hr3
  refine zxe hp2 hq2 he2 rfl (X0 1 rfl (zc 0 (hc4.below h.below) rfl (X0 3 rfl (zcI h hF (qhw ⟨_,_,rfl,(h.oldS s4)⟩ ⟨_,_,rfl,(h.oldS s2)⟩) rfl fun r2 w3 h hF=>X0 6 rfl ?_))))
  obtain rfl:=qb hF
  exact qak qc (ρ:=(Int × Bool)) [GoT.v Int [.int .i64 i1],GoT.v Bool [.bool (r2==0)]] h ⟨rfl,rfl,trivial⟩ (PV.done h (qbn h (qy (S:=fun _=>False) rfl) (qat (qy (S:=fun _=>False) rfl)) (by rfl)))
 refine X0 12 rfl ?_
 obtain rfl:=qb hF
 exact qak qc (ρ:=(Int × Bool)) [GoT.v Int [.int .i64 i1],GoT.v Bool [.bool false]] h ⟨rfl,rfl,trivial⟩ (PV.done h (qbn h (qy (S:=fun _=>False) rfl) (qat (qy (S:=fun _=>False) rfl)) (by rfl)))
end Go.Fw


namespace Go.Fw
open Go Go.Proofs
open Go.RowKit (Below)
set_option maxRecDepth 100000
set_option maxHeartbeats 6400000
def qhr (n:Nat) (tags:List (List Int)) (tag:List Int):Option (List (List Int)) :=
 (qad n tags tag).bind fun o=>match o with
  | (i,found)=>bif found then some tags else insS tags i tag
theorem qmH {n:Nat} {w0 w:World} {F:List Ch} {S S1:Nat→Prop} {tags r:List (List Int)} {tag:List Int} {p p1:Option Addr} {ln c ln1 c1:Nat}
  (h:SH w0 w (Ch.own S1 tag [.slice p1 ln1 c1]::Ch.own S tags [.slice p ln c]::F)) (hF:qhr n tags tag=some r):RetT Tryz.prog 102 [.slice p ln c,.slice p1 ln1 c1] w w0 F r:=by
 obtain rfl:ln=tags.length:=(h.sl 1 rfl).2
 obtain rfl:ln1=tag.length:=(h.sl 0 rfl).2
 obtain ⟨⟨i,fd⟩,hr,hF⟩:=qd hF
 refine qkn Tryz.func102 rfl (m:=20) rfl rfl ?_
 refine X0 8 rfl ?_
 refine qdj (i,fd) h (cB 160 rfl) (qdy (h.own 1 rfl) (h.own 0 rfl) hr) rfl rfl rfl rfl fun w2 S2 us hv hr2=>?_
 obtain ⟨S3,us2,rfl,hv2,hr3⟩:=hv.consI hr2
 obtain ⟨rfl,h⟩:=hv2.lastB hr3
 refine X0 11 rfl (qi rfl hF ?_ ?_)<;>intro hF
 ·refine X0 5 rfl ?_
  cases hF
  replace h:=h.pickT 2 [1] rfl
  exact qla qc h ⟨rfl,trivial⟩
 refine X0 6 rfl ?_
 refine qvG qc h rfl rfl rfl rfl rfl rfl rfl rfl rfl fun w3 p2 S4 h=>?_
 refine qnb (cB 162 rfl) (qvo h hF) rfl rfl rfl rfl fun w4 S5 p3 k3 h=>?_
 refine X0 2 rfl ?_
 exact qla qc h ⟨rfl,trivial⟩
end Go.Fw


namespace Go.Fw
open Go Go.Proofs
open Go.RowKit (Below)
set_option maxRecDepth 100000
set_option maxHeartbeats 6400000
def qeh (list:List (List Int)) (tag:List Int):Nat→Int→Option (Flow (List (List Int)) Int)
 | 0,_=>none
 | n+1,i =>
  bif decide (i<(list.length:Int)) then
   (idx list i).bind fun y =>
   (qf1 n y tag).bind fun r =>
   bif (r==0) then some (.ret list) else
   qeh list tag n (W64 (i+1))
  else some (.nxt i)
def qen (list:List (List Int)) (tag:List Int):Nat→Int→Option Int
 | 0,_=>none
 | n+1,a =>
  bif decide (a > 0) then
   (idx list (W64 (a-1))).bind fun y =>
   (qf1 n tag y).bind fun r =>
   bif decide (r<0) then qen list tag n (W64 (a-1)) else some a
  else some a
def qkh (n:Nat) (list:List (List Int)) (tag:List Int):Option (List (List Int)) :=
 (qeh list tag n 0).bind fun o=>match o with
  | .ret r=>some r
  | .nxt _=>(qen list tag n (list.length:Int)).bind fun a=>insS list a tag
theorem qp2 {n:Nat} {w0 w:World} {F:List Ch} {S S1:Nat→Prop} {list r:List (List Int)} {tag:List Int} {p p1:Option Addr} {ln c ln1 c1:Nat}
  (h:SH w0 w (Ch.own S1 tag [.slice p1 ln1 c1]::Ch.own S list [.slice p ln c]::F)) (hF:qkh n list tag=some r):RetT Tryz.prog 104 [.slice p ln c,.slice p1 ln1 c1] w w0 F r:=by
 obtain rfl:ln=list.length:=(h.sl 1 rfl).2
 obtain rfl:ln1=tag.length:=(h.sl 0 rfl).2
 refine qkn Tryz.func104 rfl (m:=52) rfl rfl ?_
 refine X0 15 rfl ?_
 obtain ⟨o1,hF,hK1⟩:=qd hF
 refine qk (rL (fun m e w'=>∃ (i1:Int),qeh list tag m i1=some o1∧e=[(0,.slice p list.length c),(1,.slice p1 tag.length c1),(5,.int .i64 list.length),(6,.int .i64 i1)]∧SH w0 w' (Ch.own S1 tag [.slice p1 tag.length c1]::Ch.own S list [.slice p list.length c]::F)) n ⟨_,hF,rfl,h⟩ rfl ?_)
 rintro m1 e1 w1 ⟨i1,hF,rfl,h⟩
 rcases m1 with _|m1
 ·cases hF
 refine X0 8 rfl (qi rfl hF ?_ ?_)<;>intro hF
 ·refine X0 7 rfl ?_
  obtain ⟨y1,hy1,hF,he1,b1,_,q1,cs3,hp1,hq1,hr1,hc2⟩:=(h.sl 1 rfl).1.ix hF
  obtain ⟨p3,k3,rfl,s3⟩:=hr1
  refine zxe hp1 hq1 he1 rfl (zc 0 hc2 rfl ?_)
  refine X0 1 rfl (zcI h hF (qj1 ⟨_,_,rfl,s3⟩ (h.own 0 rfl)) rfl fun r1 w2 h hF=>?_)
  refine X0 2 rfl (qi rfl hF ?_ ?_)<;>intro hF
  ·refine X0 5 rfl ?_
   obtain rfl:=qb hF;replace hF:=hK1
   cases hF
   replace h:=h.pickT 2 [1] rfl
   exact qla qc h ⟨rfl,trivial⟩
  refine X0 7 rfl ?_
  exact rK ⟨_,hF,rfl,h⟩ rfl
 refine qm rfl ?_
 obtain rfl:=qb hF;replace hF:=hK1
 obtain ⟨a,hF,hK2⟩:=qd hF
 refine X0 1 rfl ?_
 refine qcB (fun e w'=>e=[(0,.slice p list.length c),(1,.slice p1 tag.length c1),(5,.int .i64 a)]∧SH w0 w' (Ch.own S1 tag [.slice p1 tag.length c1]::Ch.own S list [.slice p list.length c]::F)) ?_ ?_
 refine qk (rL (fun m e w'=>∃ (i2:Int),qen list tag m i2=some a∧e=[(0,.slice p list.length c),(1,.slice p1 tag.length c1),(5,.int .i64 i2)]∧SH w0 w' (Ch.own S1 tag [.slice p1 tag.length c1]::Ch.own S list [.slice p list.length c]::F)) n ⟨_,hF,rfl,h⟩ rfl ?_)
 rintro m2 e2 w2 ⟨i2,hF,rfl,h⟩
 rcases m2 with _|m2
 ·cases hF
 refine X0 6 rfl (ql (t:=26) hF rfl ?_ ?_)<;>intro hF
 ·refine X0 9 rfl ?_
  obtain ⟨y2,hy2,hF,he2,b2,_,q2,cs4,hp2,hq2,hr2,hc4⟩:=(h.sl 1 rfl).1.ix hF
  obtain ⟨p4,k4,rfl,s4⟩:=hr2
  refine zxe hp2 hq2 he2 rfl ?_
  refine X0 1 rfl (zc 0 hc4 rfl ?_)
  refine X0 1 rfl (zcI h hF (qj1 (h.own 0 rfl) ⟨_,_,rfl,s4⟩) rfl fun r1 w2 h hF=>?_)
  refine X0 4 rfl (qi rfl hF ?_ ?_)<;>intro hF
  ·refine X0 8 rfl ?_
   exact rK ⟨_,hF,rfl,h⟩ rfl
  refine qm rfl ?_
  obtain rfl:=qb hF
  exact rG ⟨rfl,h⟩ rfl
 refine X0 10 rfl ?_
 refine qbK rfl rfl ?_
 refine qm rfl ?_
 obtain rfl:=qb hF
 exact rG ⟨rfl,h⟩ rfl
 rintro _ w3 ⟨rfl,h⟩
 obtain ⟨k,rfl,hk,hbig,rfl⟩:=qqO hK2
 replace h:=h.pickT 2 [1,0] rfl
 obtain ⟨Sr,Se,rs,hrs,h⟩:=h.splitL
 have hc:list.length≤c:=by have:=(h.sl 0 rfl).1.1;omega
 refine X0 2 rfl ?_
 refine qG qc [] [] ([]:List (Raw (List Int))) h rfl rfl rfl rfl rfl rfl rfl rfl rfl trivial rfl fun w4 p2 S2 h=>?_
 refine X0 2 rfl ?_
 refine r_v (qdI qc rfl rfl rfl ⟨by omega,by omega,by omega,by omega⟩ rfl rfl rfl rfl rfl rfl rfl) rfl ?_
 refine qok qc (α:=Raw (List Int)) 0 h rfl ((h.sl 1 rfl).1.sub (lo:=0) (hi:=k) (jG _) (by omega)) (by simp;omega) rfl rfl rfl rfl rfl rfl rfl rfl rfl (by simp [big];omega) rfl fun w5 p3 c3 S3 h=>?_
 refine X0 6 rfl ?_
 refine qG qc [.tmp 44] _ ([⟨[.slice p1 tag.length c1]⟩]:List (Raw (List Int))) h rfl rfl rfl rfl rfl rfl rfl rfl rfl ⟨⟨rfl,rfl,fun v hv=>by rw [List.mem_singleton.1 hv];rfl⟩,trivial⟩ rfl fun w6 p4 S4 h=>?_
 refine qok qc (α:=Raw (List Int)) 1 h rfl (h.sl 0 rfl).1 rfl rfl rfl rfl rfl rfl rfl rfl rfl rfl (by simp [big];omega) rfl fun w7 p5 c5 S5 h=>?_
 refine X0 7 rfl ?_
 refine r_v (qdI qc rfl rfl rfl ⟨by omega,by omega,by omega,by omega⟩ rfl rfl rfl rfl rfl rfl rfl) rfl ?_
 refine qok qc (α:=Raw (List Int)) 1 h rfl ((h.sl 2 rfl).1.sub (lo:=k) (hi:=list.length) hk (by omega)) (by simp;omega) rfl rfl rfl rfl rfl rfl rfl rfl rfl (by simp [big];omega) rfl fun w8 p6 c6 S6 h=>?_
 refine X0 2 rfl ?_
 have hrs':([]++(rs.take k).drop 0++[(⟨[.slice p1 tag.length c1]⟩:Raw (List Int))])++(rs.take list.length).drop k=rs.take k++(⟨[.slice p1 tag.length c1]⟩:Raw (List Int))::rs.drop k:=by
  rw [List.take_of_length_le (show rs.length≤list.length by omega)];simp
 replace h:=h.pickT 5 [4,3,1] rfl
 have h:SH w0 w8 (Ch.own S1 tag [.slice p1 tag.length c1]::Ch.els Se list rs::Ch.own S6 (([]++(rs.take k).drop 0++[(⟨[.slice p1 tag.length c1]⟩:Raw (List Int))])++(rs.take list.length).drop k) [.slice p6 _ c6]::F):=h
 rw [hrs'] at h
 replace h:=h.elsIns k hk
 replace h:=h.pickT 2 [1,0] rfl
 exact qla qc h.joinL ⟨rfl,trivial⟩
end Go.Fw


namespace Go.Fw
open Go
def qab (a:(List Int)):Nat:=a.length
theorem qcR {a:(List Int)} (h:(rngL rngI) a) (w:qab a≤1048576):(okL okI) a :=
 ⟨by simp only [qab] at w;omega,fun x hx=>h.2 x hx⟩
def qhs (x:qr):Prop:=(rngL rngI) x.Bd∧(rngL rngI) x.Bc∧(rngL rngI) x.Av
def qdN (x:qr):Nat:=qab x.Bd+qab x.Bc+qab x.Av
structure qh8 (x:qr):Prop where
 Bd:(okL okI) x.Bd
 Bc:(okL okI) x.Bc
 Av:(okL okI) x.Av
theorem qtr {x:qr} (h:qhs x) (w:qdN x≤1048576):qh8 x:=⟨qcR (h.1) (by simp only [qdN] at w;omega),qcR (h.2.1) (by simp only [qdN] at w;omega),qcR (h.2.2) (by simp only [qdN] at w;omega)⟩
def qcW (a:(List qr)):Nat:=a.length+(a.map fun x=>qdN x).sum
theorem qoh {a:(List qr)} (h:(rngL qhs) a) (w:qcW a≤1048576):(okL qh8) a :=
 ⟨by simp only [qcW] at w;omega,fun x hx=>qtr (h.2 x hx) (by have:=qbM (wt:=fun x:qr=>qdN x) hx;simp only [qcW] at w;omega)⟩
def qk8 (x:qF):Prop:=rngI x.Ar∧rngI x.Au∧rngI x.To∧rngI x.Bh∧(rngL qhs) x.Az∧(rngL qhs) x.Bi
def qh9 (x:qF):Nat:=qcW x.Az+qcW x.Bi
structure qmP (x:qF):Prop where
 Ar:okI x.Ar
 Au:okI x.Au
 To:okI x.To
 Bh:okI x.Bh
 Az:(okL qh8) x.Az
 Bi:(okL qh8) x.Bi
theorem qvM {x:qF} (h:qk8 x) (w:qh9 x≤1048576):qmP x:=⟨h.1,h.2.1,h.2.2.1,h.2.2.2.1,qoh (h.2.2.2.2.1) (by simp only [qh9] at w;omega),qoh (h.2.2.2.2.2) (by simp only [qh9] at w;omega)⟩
theorem qef {a:(List Int)} (h:qab a≤1048576):Ev (fun n=>qaD n a a) true:=by
 have hl:a.length≤1048576:=by simp only [qab] at h;omega
 unfold qaD
 exact Ev.ff (by simp) (Ev.bind (b:=.nxt (a.length:Int)) (qhU (eqf:=fun _ x y=>some (!(x != y))) (fun x _=>Ev.now (by simp))
  (fun n=>by simp only [qfx,qh (jf _),cond_false])
  (fun n j x hx=>by
   have hj:=(List.getElem?_eq_some_iff.1 hx).1
   simp only [qfx,qe hj,cond_true,qW hx,je,Bool.not_not,wS j])) .done)
theorem qv6 {a:qr} (h:qdN a≤1048576):Ev (fun n=>qhZ n a a) true:=by
 unfold qhZ
 simp only [qdN] at h
 exact Ev.bind (qef (a:=a.Bd) (by omega)) (Ev.ff rfl (Ev.bind (qef (a:=a.Bc) (by omega)) (Ev.ff rfl (Ev.bind (qef (a:=a.Av) (by omega)) (Ev.ff rfl (.done))))))
theorem qqP {a:(List qr)} (h:qcW a≤1048576):Ev (fun n=>qg4 n a a) true:=by
 have hl:a.length≤1048576:=by simp only [qcW] at h;omega
 unfold qg4
 exact Ev.ff (by simp) (Ev.bind (b:=.nxt (a.length:Int)) (qhU (eqf:=qhZ) (fun x hx=>qv6 (by have:=qbM (wt:=fun x:qr=>qdN x) hx;simp only [qcW] at h;omega))
  (fun n=>by simp only [qfd,qh (jf _),cond_false])
  (fun n j x hx=>by
   have hj:=(List.getElem?_eq_some_iff.1 hx).1
   simp only [qfd,qe hj,cond_true,qW hx,je,wS j])) .done)
theorem qxf {a:qF} (h:qh9 a≤1048576):Ev (fun n=>qjM n a a) true:=by
 unfold qjM
 simp only [qh9] at h
 exact Ev.ff qbr (Ev.ff qbr (Ev.ff qbr (Ev.ff qbr (Ev.bind (qqP (a:=a.Az) (by omega)) (Ev.ff rfl (Ev.bind (qqP (a:=a.Bi) (by omega)) (Ev.ff rfl (.done))))))))
def qgV (a:(List qF)):Nat:=a.length+(a.map fun x=>qh9 x).sum
theorem quK {a:(List qF)} (h:(rngL qk8) a) (w:qgV a≤1048576):(okL qmP) a :=
 ⟨by simp only [qgV] at w;omega,fun x hx=>qvM (h.2 x hx) (by have:=qbM (wt:=fun x:qF=>qh9 x) hx;simp only [qgV] at w;omega)⟩
theorem qwo {a:(List qF)} (h:qgV a≤1048576):Ev (fun n=>qke n a a) true:=by
 have hl:a.length≤1048576:=by simp only [qgV] at h;omega
 unfold qke
 exact Ev.ff (by simp) (Ev.bind (b:=.nxt (a.length:Int)) (qhU (eqf:=qjM) (fun x hx=>qxf (by have:=qbM (wt:=fun x:qF=>qh9 x) hx;simp only [qgV] at h;omega))
  (fun n=>by simp only [qgu,qh (jf _),cond_false])
  (fun n j x hx=>by
   have hj:=(List.getElem?_eq_some_iff.1 hx).1
   simp only [qgu,qe hj,cond_true,qW hx,je,wS j])) .done)
def qli (x:qX):Prop:=rngS x.As∧rngI x.Bl∧rngI x.Bk∧rngB x.Be
def qjX (x:qX):Nat:=x.As.size
structure qlT (x:qX):Prop where
 As:okS x.As
 Bl:okI x.Bl
 Bk:okI x.Bk
 Be:okT x.Be
theorem qvm {x:qX} (h:qli x) (w:qjX x≤1048576):qlT x:=⟨(by unfold okS;simp only [qjX] at w;omega),h.2.1,h.2.2.1,trivial⟩
def qgW (a:(List qX)):Nat:=a.length+(a.map fun x=>qjX x).sum
theorem quy {a:(List qX)} (h:(rngL qli) a) (w:qgW a≤1048576):(okL qlT) a :=
 ⟨by simp only [qgW] at w;omega,fun x hx=>qvm (h.2 x hx) (by have:=qbM (wt:=fun x:qX=>qjX x) hx;simp only [qgW] at w;omega)⟩
def qjU (x:qp):Prop:=rngS x.As∧rngI x.Ar∧(rngL qli) x.Am∧(rngL qk8) x.Ap∧(rngL rngI) x.Ay∧rngI x.Bo∧rngI x.Bg
def qfp (x:qp):Nat:=x.As.size+qgW x.Am+qgV x.Ap+qab x.Ay
structure qml (x:qp):Prop where
 As:okS x.As
 Ar:okI x.Ar
 Am:(okL qlT) x.Am
 Ap:(okL qmP) x.Ap
 Ay:(okL okI) x.Ay
 Bo:okI x.Bo
 Bg:okI x.Bg
theorem quj {x:qp} (h:qjU x) (w:qfp x≤1048576):qml x:=⟨(by unfold okS;simp only [qfp] at w;omega),h.2.1,quy (h.2.2.1) (by simp only [qfp] at w;omega),quK (h.2.2.2.1) (by simp only [qfp] at w;omega),qcR (h.2.2.2.2.1) (by simp only [qfp] at w;omega),h.2.2.2.2.2.1,h.2.2.2.2.2.2⟩
def qfU (a:(List qp)):Nat:=a.length+(a.map fun x=>qfp x).sum
theorem qs1 {a:(List qp)} (h:(rngL qjU) a) (w:qfU a≤1048576):(okL qml) a :=
 ⟨by simp only [qfU] at w;omega,fun x hx=>quj (h.2 x hx) (by have:=qbM (wt:=fun x:qp=>qfp x) hx;simp only [qfU] at w;omega)⟩
def qka (x:qn):Prop:=(rngL qjU) x.Ah
def qd4 (x:qn):Nat:=qfU x.Ah
structure qhj (x:qn):Prop where
 Ah:(okL qml) x.Ah
theorem qq2 {x:qn} (h:qka x) (w:qd4 x≤1048576):qhj x:=⟨qs1 (h) (by simp only [qd4] at w;omega)⟩
def qfP (x:qj):Prop:=rngS x.As∧rngI x.Ba∧(rngL rngI) x.Af
def qbt (x:qj):Nat:=x.As.size+qab x.Af
structure ql8 (x:qj):Prop where
 As:okS x.As
 Ba:okI x.Ba
 Af:(okL okI) x.Af
theorem qqf {x:qj} (h:qfP x) (w:qbt x≤1048576):ql8 x:=⟨(by unfold okS;simp only [qbt] at w;omega),h.2.1,qcR (h.2.2) (by simp only [qbt] at w;omega)⟩
def qbF (a:(List qj)):Nat:=a.length+(a.map fun x=>qbt x).sum
theorem qpy {a:(List qj)} (h:(rngL qfP) a) (w:qbF a≤1048576):(okL ql8) a :=
 ⟨by simp only [qbF] at w;omega,fun x hx=>qqf (h.2 x hx) (by have:=qbM (wt:=fun x:qj=>qbt x) hx;simp only [qbF] at w;omega)⟩
def qd0 (a:(List ByteArray)):Nat:=a.length+(a.map fun x=>x.size).sum
theorem qqW {a:(List ByteArray)} (_:(rngL rngS) a) (w:qd0 a≤1048576):(okL okS) a :=
 ⟨by simp only [qd0] at w;omega,fun x hx=>(by unfold okS;have:=qbM (wt:=fun x:ByteArray=>x.size) hx;simp only [qd0] at w;omega)⟩
def qj2 (x:qH):Prop:=rngS x.As∧rngI x.Bl∧rngI x.Bp
def qhn (x:qH):Nat:=x.As.size
structure qrt (x:qH):Prop where
 As:okS x.As
 Bl:okI x.Bl
 Bp:okI x.Bp
theorem quu {x:qH} (h:qj2 x) (w:qhn x≤1048576):qrt x:=⟨(by unfold okS;simp only [qhn] at w;omega),h.2.1,h.2.2⟩
def qfH (a:(List qH)):Nat:=a.length+(a.map fun x=>qhn x).sum
theorem qtp {a:(List qH)} (h:(rngL qj2) a) (w:qfH a≤1048576):(okL qrt) a :=
 ⟨by simp only [qfH] at w;omega,fun x hx=>quu (h.2 x hx) (by have:=qbM (wt:=fun x:qH=>qhn x) hx;simp only [qfH] at w;omega)⟩
def qk1 (x:qf):Prop:=(rngL qfP) x.Aa∧(rngL rngS) x.Af∧(rngL qj2) x.Ac
def qep (x:qf):Nat:=qbF x.Aa+qd0 x.Af+qfH x.Ac
structure qjC (x:qf):Prop where
 Aa:(okL ql8) x.Aa
 Af:(okL okS) x.Af
 Ac:(okL qrt) x.Ac
theorem qrN {x:qf} (h:qk1 x) (w:qep x≤1048576):qjC x:=⟨qpy (h.1) (by simp only [qep] at w;omega),qqW (h.2.1) (by simp only [qep] at w;omega),qtp (h.2.2) (by simp only [qep] at w;omega)⟩
def qjR (x:qB):Prop:=(rngL rngI) x.Ak∧(rngL rngI) x.Bn∧(rngL rngI) x.Bk∧(rngL rngI) x.Bf
def qfq (x:qB):Nat:=qab x.Ak+qab x.Bn+qab x.Bk+qab x.Bf
structure qnF (x:qB):Prop where
 Ak:(okL okI) x.Ak
 Bn:(okL okI) x.Bn
 Bk:(okL okI) x.Bk
 Bf:(okL okI) x.Bf
theorem quW {x:qB} (h:qjR x) (w:qfq x≤1048576):qnF x:=⟨qcR (h.1) (by simp only [qfq] at w;omega),qcR (h.2.1) (by simp only [qfq] at w;omega),qcR (h.2.2.1) (by simp only [qfq] at w;omega),qcR (h.2.2.2) (by simp only [qfq] at w;omega)⟩
def qfM (a:(List qB)):Nat:=a.length+(a.map fun x=>qfq x).sum
theorem qsE {a:(List qB)} (h:(rngL qjR) a) (w:qfM a≤1048576):(okL qnF) a :=
 ⟨by simp only [qfM] at w;omega,fun x hx=>quW (h.2 x hx) (by have:=qbM (wt:=fun x:qB=>qfq x) hx;simp only [qfM] at w;omega)⟩
def qmn (x:qg):Prop:=qka x.Ai∧qk1 x.Ab∧(rngL qjR) x.Aj
def qfR (x:qg):Nat:=qd4 x.Ai+qep x.Ab+qfM x.Aj
structure qb6 (x:qg):Prop where
 Ai:qhj x.Ai
 Ab:qjC x.Ab
 Aj:(okL qnF) x.Aj
theorem qsP {x:qg} (h:qmn x) (w:qfR x≤1048576):qb6 x:=⟨qq2 (h.1) (by simp only [qfR] at w;omega),qrN (h.2.1) (by simp only [qfR] at w;omega),qsE (h.2.2) (by simp only [qfR] at w;omega)⟩
theorem qxi {a:qX} (_:qjX a≤1048576):Ev (fun n=>qjW n a a) true:=by
 unfold qjW
 exact Ev.ff qjo (Ev.ff qbr (Ev.ff qbr (Ev.ff qrb (.done))))
theorem qwB {a:(List qX)} (h:qgW a≤1048576):Ev (fun n=>qkq n a a) true:=by
 have hl:a.length≤1048576:=by simp only [qgW] at h;omega
 unfold qkq
 exact Ev.ff (by simp) (Ev.bind (b:=.nxt (a.length:Int)) (qhU (eqf:=qjW) (fun x hx=>qxi (by have:=qbM (wt:=fun x:qX=>qjX x) hx;simp only [qgW] at h;omega))
  (fun n=>by simp only [qgt,qh (jf _),cond_false])
  (fun n j x hx=>by
   have hj:=(List.getElem?_eq_some_iff.1 hx).1
   simp only [qgt,qe hj,cond_true,qW hx,je,wS j])) .done)
theorem qwx {a:qp} (h:qfp a≤1048576):Ev (fun n=>qiK n a a) true:=by
 unfold qiK
 simp only [qfp] at h
 exact Ev.ff qjo (Ev.ff qbr (Ev.bind (qwB (a:=a.Am) (by omega)) (Ev.ff rfl (Ev.bind (qwo (a:=a.Ap) (by omega)) (Ev.ff rfl (Ev.bind (qef (a:=a.Ay) (by omega)) (Ev.ff rfl (Ev.ff qbr (Ev.ff qbr (.done))))))))))
theorem qvp {a:(List qp)} (h:qfU a≤1048576):Ev (fun n=>qju n a a) true:=by
 have hl:a.length≤1048576:=by simp only [qfU] at h;omega
 unfold qju
 exact Ev.ff (by simp) (Ev.bind (b:=.nxt (a.length:Int)) (qhU (eqf:=qiK) (fun x hx=>qwx (by have:=qbM (wt:=fun x:qp=>qfp x) hx;simp only [qfU] at h;omega))
  (fun n=>by simp only [qfX,qh (jf _),cond_false])
  (fun n j x hx=>by
   have hj:=(List.getElem?_eq_some_iff.1 hx).1
   simp only [qfX,qe hj,cond_true,qW hx,je,wS j])) .done)
theorem qsM {a:qn} (h:qd4 a≤1048576):Ev (fun n=>qhL n a a) true:=by
 unfold qhL
 simp only [qd4] at h
 exact Ev.bind (qvp (a:=a.Ah) (by omega)) (Ev.ff rfl (.done))
theorem qrJ {a:qj} (h:qbt a≤1048576):Ev (fun n=>qfW n a a) true:=by
 unfold qfW
 simp only [qbt] at h
 exact Ev.ff qjo (Ev.ff qbr (Ev.bind (qef (a:=a.Af) (by omega)) (Ev.ff rfl (.done))))
theorem qrk {a:(List qj)} (h:qbF a≤1048576):Ev (fun n=>qgM n a a) true:=by
 have hl:a.length≤1048576:=by simp only [qbF] at h;omega
 unfold qgM
 exact Ev.ff (by simp) (Ev.bind (b:=.nxt (a.length:Int)) (qhU (eqf:=qfW) (fun x hx=>qrJ (by have:=qbM (wt:=fun x:qj=>qbt x) hx;simp only [qbF] at h;omega))
  (fun n=>by simp only [qdJ,qh (jf _),cond_false])
  (fun n j x hx=>by
   have hj:=(List.getElem?_eq_some_iff.1 hx).1
   simp only [qdJ,qe hj,cond_true,qW hx,je,wS j])) .done)
theorem qtw {a:(List ByteArray)} (h:qd0 a≤1048576):Ev (fun n=>qhA n a a) true:=by
 have hl:a.length≤1048576:=by simp only [qd0] at h;omega
 unfold qhA
 exact Ev.ff (by simp) (Ev.bind (b:=.nxt (a.length:Int)) (qhU (eqf:=fun _ x y=>some (!(x.toList != y.toList))) (fun x _=>Ev.now (by simp))
  (fun n=>by simp only [qeJ,qh (jf _),cond_false])
  (fun n j x hx=>by
   have hj:=(List.getElem?_eq_some_iff.1 hx).1
   simp only [qeJ,qe hj,cond_true,qW hx,je,Bool.not_not,wS j])) .done)
theorem qwG {a:qH} (_:qhn a≤1048576):Ev (fun n=>qiS n a a) true:=by
 unfold qiS
 exact Ev.ff qjo (Ev.ff qbr (Ev.ff qbr (.done)))
theorem qvX {a:(List qH)} (h:qfH a≤1048576):Ev (fun n=>qjc n a a) true:=by
 have hl:a.length≤1048576:=by simp only [qfH] at h;omega
 unfold qjc
 exact Ev.ff (by simp) (Ev.bind (b:=.nxt (a.length:Int)) (qhU (eqf:=qiS) (fun x hx=>qwG (by have:=qbM (wt:=fun x:qH=>qhn x) hx;simp only [qfH] at h;omega))
  (fun n=>by simp only [qf4,qh (jf _),cond_false])
  (fun n j x hx=>by
   have hj:=(List.getElem?_eq_some_iff.1 hx).1
   simp only [qf4,qe hj,cond_true,qW hx,je,wS j])) .done)
theorem qt3 {a:qf} (h:qep a≤1048576):Ev (fun n=>qix n a a) true:=by
 unfold qix
 simp only [qep] at h
 exact Ev.bind (qrk (a:=a.Aa) (by omega)) (Ev.ff rfl (Ev.bind (qtw (a:=a.Af) (by omega)) (Ev.ff rfl (Ev.bind (qvX (a:=a.Ac) (by omega)) (Ev.ff rfl (.done))))))
theorem qwD {a:qB} (h:qfq a≤1048576):Ev (fun n=>qi0 n a a) true:=by
 unfold qi0
 simp only [qfq] at h
 exact Ev.bind (qef (a:=a.Ak) (by omega)) (Ev.ff rfl (Ev.bind (qef (a:=a.Bn) (by omega)) (Ev.ff rfl (Ev.bind (qef (a:=a.Bk) (by omega)) (Ev.ff rfl (Ev.bind (qef (a:=a.Bf) (by omega)) (Ev.ff rfl (.done))))))))
theorem qvc {a:(List qB)} (h:qfM a≤1048576):Ev (fun n=>qjA n a a) true:=by
 have hl:a.length≤1048576:=by simp only [qfM] at h;omega
 unfold qjA
 exact Ev.ff (by simp) (Ev.bind (b:=.nxt (a.length:Int)) (qhU (eqf:=qi0) (fun x hx=>qwD (by have:=qbM (wt:=fun x:qB=>qfq x) hx;simp only [qfM] at h;omega))
  (fun n=>by simp only [qfY,qh (jf _),cond_false])
  (fun n j x hx=>by
   have hj:=(List.getElem?_eq_some_iff.1 hx).1
   simp only [qfY,qe hj,cond_true,qW hx,je,wS j])) .done)
theorem qvn {a:qg} (h:qfR a≤1048576):Ev (fun n=>qjr n a a) true:=by
 unfold qjr
 simp only [qfR] at h
 exact Ev.bind (qsM (a:=a.Ai) (by omega)) (Ev.ff rfl (Ev.bind (qt3 (a:=a.Ab) (by omega)) (Ev.ff rfl (Ev.bind (qvc (a:=a.Aj) (by omega)) (Ev.ff rfl (.done))))))
theorem qeE {a:(List Int)} {left:Int} (h:(rngL rngI) a) (h0:0≤left) (h1:left≤1048576):Sz (fun n=>qa8 n a left) (fun r=>r=left-(qab a:Int)) :=
 Sz.less h0 h1 (by omega) (by have:=h.1;omega) (fun _=>rfl)
theorem qvZ {a:qr} {left:Int} (h:qhs a) (h0:0≤left) (h1:left≤1048576):Sz (fun n=>qhQ n a left) (fun r=>r=left-(qdN a:Int)):=by
 unfold qhQ
 obtain ⟨h_0,h_1,h_2⟩:=h
 exact Sz.step (qeE (a:=a.Bd) h_0 (by omega) (by omega)) fun r0 p0 q0=>Sz.step (qeE (a:=a.Bc) h_1 (by omega) (by omega)) fun r1 p1 q1=>Sz.step (qeE (a:=a.Av) h_2 (by omega) (by omega)) fun r2 p2 q2=>Sz.done p2 (by simp only [qdN];omega)
theorem qqx {a:(List qr)} {left:Int} (h:(rngL qhs) a) (h0:0≤left) (h1:left≤1048576):Sz (fun n=>qiw n a left) (fun r=>r=left-(qcW a:Int)) :=
 Sz.list (Lf:=qec a) (wt:=fun x:qr=>qdN x) (el:=qhQ) h0 h1 h.1 (fun x hx left p q=>qvZ (h.2 x hx) p q)
  (fun acc n=>by simp only [qec,qh (jf _),cond_false])
  (fun acc n j x hx=>by
   have hj:=(List.getElem?_eq_some_iff.1 hx).1
   have hl:=h.1
   simp only [qec,qe hj,cond_true,qW hx,je,wS j])
  (fun _=>rfl)
theorem qxq {a:qF} {left:Int} (h:qk8 a) (h0:0≤left) (h1:left≤1048576):Sz (fun n=>qjQ n a left) (fun r=>r=left-(qh9 a:Int)):=by
 unfold qjQ
 obtain ⟨h_0,h_1,h_2,h_3,h_4,h_5⟩:=h
 exact Sz.step (qqx (a:=a.Az) h_4 (by omega) (by omega)) fun r0 p0 q0=>Sz.step (qqx (a:=a.Bi) h_5 (by omega) (by omega)) fun r1 p1 q1=>Sz.done p1 (by simp only [qh9];omega)
theorem qwH {a:(List qF)} {left:Int} (h:(rngL qk8) a) (h0:0≤left) (h1:left≤1048576):Sz (fun n=>qlP n a left) (fun r=>r=left-(qgV a:Int)) :=
 Sz.list (Lf:=qfu a) (wt:=fun x:qF=>qh9 x) (el:=qjQ) h0 h1 h.1 (fun x hx left p q=>qxq (h.2 x hx) p q)
  (fun acc n=>by simp only [qfu,qh (jf _),cond_false])
  (fun acc n j x hx=>by
   have hj:=(List.getElem?_eq_some_iff.1 hx).1
   have hl:=h.1
   simp only [qfu,qe hj,cond_true,qW hx,je,wS j])
  (fun _=>rfl)
theorem qxs {a:qX} {left:Int} (h:qli a) (h0:0≤left) (h1:left≤1048576):Sz (fun n=>qjV n a left) (fun r=>r=left-(qjX a:Int)):=by
 unfold qjV
 obtain ⟨h_0,h_1,h_2,h_3⟩:=h
 exact Sz.strStep h_0 (by omega) (by omega) fun p0 q0=>Sz.done p0 (by simp only [qjX];omega)
theorem qwY {a:(List qX)} {left:Int} (h:(rngL qli) a) (h0:0≤left) (h1:left≤1048576):Sz (fun n=>ql3 n a left) (fun r=>r=left-(qgW a:Int)) :=
 Sz.list (Lf:=qfl a) (wt:=fun x:qX=>qjX x) (el:=qjV) h0 h1 h.1 (fun x hx left p q=>qxs (h.2 x hx) p q)
  (fun acc n=>by simp only [qfl,qh (jf _),cond_false])
  (fun acc n j x hx=>by
   have hj:=(List.getElem?_eq_some_iff.1 hx).1
   have hl:=h.1
   simp only [qfl,qe hj,cond_true,qW hx,je,wS j])
  (fun _=>rfl)
theorem qwA {a:qp} {left:Int} (h:qjU a) (h0:0≤left) (h1:left≤1048576):Sz (fun n=>qiQ n a left) (fun r=>r=left-(qfp a:Int)):=by
 unfold qiQ
 obtain ⟨h_0,h_1,h_2,h_3,h_4,h_5,h_6⟩:=h
 exact Sz.strStep h_0 (by omega) (by omega) fun p0 q0=>Sz.step (qwY (a:=a.Am) h_2 (by omega) (by omega)) fun r1 p1 q1=>Sz.step (qwH (a:=a.Ap) h_3 (by omega) (by omega)) fun r2 p2 q2=>Sz.step (qeE (a:=a.Ay) h_4 (by omega) (by omega)) fun r3 p3 q3=>Sz.done p3 (by simp only [qfp];omega)
theorem qvE {a:(List qp)} {left:Int} (h:(rngL qjU) a) (h0:0≤left) (h1:left≤1048576):Sz (fun n=>qlq n a left) (fun r=>r=left-(qfU a:Int)) :=
 Sz.list (Lf:=qew a) (wt:=fun x:qp=>qfp x) (el:=qiQ) h0 h1 h.1 (fun x hx left p q=>qwA (h.2 x hx) p q)
  (fun acc n=>by simp only [qew,qh (jf _),cond_false])
  (fun acc n j x hx=>by
   have hj:=(List.getElem?_eq_some_iff.1 hx).1
   have hl:=h.1
   simp only [qew,qe hj,cond_true,qW hx,je,wS j])
  (fun _=>rfl)
theorem qsD {a:qn} {left:Int} (h:qka a) (h0:0≤left) (h1:left≤1048576):Sz (fun n=>qhM n a left) (fun r=>r=left-(qd4 a:Int)):=by
 unfold qhM
 have h_0:=h
 exact Sz.step (qvE (a:=a.Ah) h_0 (by omega) (by omega)) fun r0 p0 q0=>Sz.done p0 (by simp only [qd4];omega)
theorem qsx {a:qj} {left:Int} (h:qfP a) (h0:0≤left) (h1:left≤1048576):Sz (fun n=>qfZ n a left) (fun r=>r=left-(qbt a:Int)):=by
 unfold qfZ
 obtain ⟨h_0,h_1,h_2⟩:=h
 exact Sz.strStep h_0 (by omega) (by omega) fun p0 q0=>Sz.step (qeE (a:=a.Af) h_2 (by omega) (by omega)) fun r1 p1 q1=>Sz.done p1 (by simp only [qbt];omega)
theorem qrf {a:(List qj)} {left:Int} (h:(rngL qfP) a) (h0:0≤left) (h1:left≤1048576):Sz (fun n=>qid n a left) (fun r=>r=left-(qbF a:Int)) :=
 Sz.list (Lf:=qcF a) (wt:=fun x:qj=>qbt x) (el:=qfZ) h0 h1 h.1 (fun x hx left p q=>qsx (h.2 x hx) p q)
  (fun acc n=>by simp only [qcF,qh (jf _),cond_false])
  (fun acc n j x hx=>by
   have hj:=(List.getElem?_eq_some_iff.1 hx).1
   have hl:=h.1
   simp only [qcF,qe hj,cond_true,qW hx,je,wS j])
  (fun _=>rfl)
theorem qsT {a:(List ByteArray)} {left:Int} (h:(rngL rngS) a) (h0:0≤left) (h1:left≤1048576):Sz (fun n=>qjI n a left) (fun r=>r=left-(qd0 a:Int)) :=
 Sz.list (Lf:=qdr a) (wt:=fun x:ByteArray=>x.size) (el:=fun _ (x:ByteArray) acc=>some (W64 (acc-(x.size:Int)))) h0 h1 h.1 (fun x hx left p q=>Sz.str (h.2 x hx) p q)
  (fun acc n=>by simp only [qdr,qh (jf _),cond_false])
  (fun acc n j x hx=>by
   have hj:=(List.getElem?_eq_some_iff.1 hx).1
   have hl:=h.1
   simp only [qdr,qe hj,cond_true,qW hx,je,wS j])
  (fun _=>rfl)
theorem qwt {a:qH} {left:Int} (h:qj2 a) (h0:0≤left) (h1:left≤1048576):Sz (fun n=>qiR n a left) (fun r=>r=left-(qhn a:Int)):=by
 unfold qiR
 obtain ⟨h_0,h_1,h_2⟩:=h
 exact Sz.strStep h_0 (by omega) (by omega) fun p0 q0=>Sz.done p0 (by simp only [qhn];omega)
theorem qv2 {a:(List qH)} {left:Int} (h:(rngL qj2) a) (h0:0≤left) (h1:left≤1048576):Sz (fun n=>qln n a left) (fun r=>r=left-(qfH a:Int)) :=
 Sz.list (Lf:=qeB a) (wt:=fun x:qH=>qhn x) (el:=qiR) h0 h1 h.1 (fun x hx left p q=>qwt (h.2 x hx) p q)
  (fun acc n=>by simp only [qeB,qh (jf _),cond_false])
  (fun acc n j x hx=>by
   have hj:=(List.getElem?_eq_some_iff.1 hx).1
   have hl:=h.1
   simp only [qeB,qe hj,cond_true,qW hx,je,wS j])
  (fun _=>rfl)
theorem qum {a:qf} {left:Int} (h:qk1 a) (h0:0≤left) (h1:left≤1048576):Sz (fun n=>qiB n a left) (fun r=>r=left-(qep a:Int)):=by
 unfold qiB
 obtain ⟨h_0,h_1,h_2⟩:=h
 exact Sz.step (qrf (a:=a.Aa) h_0 (by omega) (by omega)) fun r0 p0 q0=>Sz.step (qsT (a:=a.Af) h_1 (by omega) (by omega)) fun r1 p1 q1=>Sz.step (qv2 (a:=a.Ac) h_2 (by omega) (by omega)) fun r2 p2 q2=>Sz.done p2 (by simp only [qep];omega)
theorem qwP {a:qB} {left:Int} (h:qjR a) (h0:0≤left) (h1:left≤1048576):Sz (fun n=>qiL n a left) (fun r=>r=left-(qfq a:Int)):=by
 unfold qiL
 obtain ⟨h_0,h_1,h_2,h_3⟩:=h
 exact Sz.step (qeE (a:=a.Ak) h_0 (by omega) (by omega)) fun r0 p0 q0=>Sz.step (qeE (a:=a.Bn) h_1 (by omega) (by omega)) fun r1 p1 q1=>Sz.step (qeE (a:=a.Bk) h_2 (by omega) (by omega)) fun r2 p2 q2=>Sz.step (qeE (a:=a.Bf) h_3 (by omega) (by omega)) fun r3 p3 q3=>Sz.done p3 (by simp only [qfq];omega)
theorem qvI {a:(List qB)} {left:Int} (h:(rngL qjR) a) (h0:0≤left) (h1:left≤1048576):Sz (fun n=>qk2 n a left) (fun r=>r=left-(qfM a:Int)) :=
 Sz.list (Lf:=qeC a) (wt:=fun x:qB=>qfq x) (el:=qiL) h0 h1 h.1 (fun x hx left p q=>qwP (h.2 x hx) p q)
  (fun acc n=>by simp only [qeC,qh (jf _),cond_false])
  (fun acc n j x hx=>by
   have hj:=(List.getElem?_eq_some_iff.1 hx).1
   have hl:=h.1
   simp only [qeC,qe hj,cond_true,qW hx,je,wS j])
  (fun _=>rfl)
theorem qvC {a:qg} {left:Int} (h:qmn a) (h0:0≤left) (h1:left≤1048576):Sz (fun n=>qjy n a left) (fun r=>r=left-(qfR a:Int)):=by
 unfold qjy
 obtain ⟨h_0,h_1,h_2⟩:=h
 exact Sz.step (qsD (a:=a.Ai) h_0 (by omega) (by omega)) fun r0 p0 q0=>Sz.step (qum (a:=a.Ab) h_1 (by omega) (by omega)) fun r1 p1 q1=>Sz.step (qvI (a:=a.Aj) h_2 (by omega) (by omega)) fun r2 p2 q2=>Sz.done p2 (by simp only [qfR];omega)
theorem qex {a:(List Int)} (h:qab a≤1048576):Ev (fun n=>qaV n a) a:=by
 have hl:a.length≤1048576:=by simp only [qab] at h;omega
 unfold qaV
 exact Ev.bindN (qhV (by omega)) (Ev.bind (b:=(a,(a.length:Int))) (qiE (cp:=fun _ x=>some x) (fun _ _=>.done)
  (fun acc n=>by simp only [qfg,qh (jf _),cond_false])
  (fun acc n j x y hx hy=>by
   have hj:=(List.getElem?_eq_some_iff.1 hx).1
   simp only [qfg,qe hj,cond_true,qW hx,qW hy,je,wS j])) .done)
theorem qvT {a:qr} (h:qdN a≤1048576):Ev (fun n=>qhW n a) a:=by
 unfold qhW
 simp only [qdN] at h
 exact Ev.bind (qex (a:=a.Bd) (by omega)) (Ev.bind (qex (a:=a.Bc) (by omega)) (Ev.bind (qex (a:=a.Av) (by omega)) (.done)))
theorem qqM {a:(List qr)} (h:qcW a≤1048576):Ev (fun n=>qg2 n a) a:=by
 have hl:a.length≤1048576:=by simp only [qcW] at h;omega
 unfold qg2
 exact Ev.bindN (qhV (by omega)) (Ev.bind (b:=(a,(a.length:Int))) (qiE (cp:=qhW) (fun x hx=>qvT (by have:=qbM (wt:=fun x:qr=>qdN x) hx;simp only [qcW] at h;omega))
  (fun acc n=>by simp only [qfi,qh (jf _),cond_false])
  (fun acc n j x y hx hy=>by
   have hj:=(List.getElem?_eq_some_iff.1 hx).1
   simp only [qfi,qe hj,cond_true,qW hx,qW hy,je,wS j])) .done)
theorem qxd {a:qF} (h:qh9 a≤1048576):Ev (fun n=>qjP n a) a:=by
 unfold qjP
 simp only [qh9] at h
 exact Ev.bind (qqM (a:=a.Az) (by omega)) (Ev.bind (qqM (a:=a.Bi) (by omega)) (.done))
theorem qwU {a:(List qF)} (h:qgV a≤1048576):Ev (fun n=>qj9 n a) a:=by
 have hl:a.length≤1048576:=by simp only [qgV] at h;omega
 unfold qj9
 exact Ev.bindN (qhV (by omega)) (Ev.bind (b:=(a,(a.length:Int))) (qiE (cp:=qjP) (fun x hx=>qxd (by have:=qbM (wt:=fun x:qF=>qh9 x) hx;simp only [qgV] at h;omega))
  (fun acc n=>by simp only [qgz,qh (jf _),cond_false])
  (fun acc n j x y hx hy=>by
   have hj:=(List.getElem?_eq_some_iff.1 hx).1
   simp only [qgz,qe hj,cond_true,qW hx,qW hy,je,wS j])) .done)
theorem qxm {a:qX} (_:qjX a≤1048576):Ev (fun n=>qjS n a) a:=by
 unfold qjS
 exact .done
theorem qwm {a:(List qX)} (h:qgW a≤1048576):Ev (fun n=>qkd n a) a:=by
 have hl:a.length≤1048576:=by simp only [qgW] at h;omega
 unfold qkd
 exact Ev.bindN (qhV (by omega)) (Ev.bind (b:=(a,(a.length:Int))) (qiE (cp:=qjS) (fun x hx=>qxm (by have:=qbM (wt:=fun x:qX=>qjX x) hx;simp only [qgW] at h;omega))
  (fun acc n=>by simp only [qgo,qh (jf _),cond_false])
  (fun acc n j x y hx hy=>by
   have hj:=(List.getElem?_eq_some_iff.1 hx).1
   simp only [qgo,qe hj,cond_true,qW hx,qW hy,je,wS j])) .done)
theorem qwl {a:qp} (h:qfp a≤1048576):Ev (fun n=>qiF n a) a:=by
 unfold qiF
 simp only [qfp] at h
 exact Ev.bind (qwm (a:=a.Am) (by omega)) (Ev.bind (qwU (a:=a.Ap) (by omega)) (Ev.bind (qex (a:=a.Ay) (by omega)) (.done)))
theorem qva {a:(List qp)} (h:qfU a≤1048576):Ev (fun n=>qjx n a) a:=by
 have hl:a.length≤1048576:=by simp only [qfU] at h;omega
 unfold qjx
 exact Ev.bindN (qhV (by omega)) (Ev.bind (b:=(a,(a.length:Int))) (qiE (cp:=qiF) (fun x hx=>qwl (by have:=qbM (wt:=fun x:qp=>qfp x) hx;simp only [qfU] at h;omega))
  (fun acc n=>by simp only [qf2,qh (jf _),cond_false])
  (fun acc n j x y hx hy=>by
   have hj:=(List.getElem?_eq_some_iff.1 hx).1
   simp only [qf2,qe hj,cond_true,qW hx,qW hy,je,wS j])) .done)
theorem qsA {a:qn} (h:qd4 a≤1048576):Ev (fun n=>qh7 n a) a:=by
 unfold qh7
 simp only [qd4] at h
 exact Ev.bind (qva (a:=a.Ah) (by omega)) (.done)
theorem qrT {a:qj} (h:qbt a≤1048576):Ev (fun n=>qf0 n a) a:=by
 unfold qf0
 simp only [qbt] at h
 exact Ev.bind (qex (a:=a.Af) (by omega)) (.done)
theorem qqZ {a:(List qj)} (h:qbF a≤1048576):Ev (fun n=>qgR n a) a:=by
 have hl:a.length≤1048576:=by simp only [qbF] at h;omega
 unfold qgR
 exact Ev.bindN (qhV (by omega)) (Ev.bind (b:=(a,(a.length:Int))) (qiE (cp:=qf0) (fun x hx=>qrT (by have:=qbM (wt:=fun x:qj=>qbt x) hx;simp only [qbF] at h;omega))
  (fun acc n=>by simp only [qdH,qh (jf _),cond_false])
  (fun acc n j x y hx hy=>by
   have hj:=(List.getElem?_eq_some_iff.1 hx).1
   simp only [qdH,qe hj,cond_true,qW hx,qW hy,je,wS j])) .done)
theorem qsL {a:(List ByteArray)} (h:qd0 a≤1048576):Ev (fun n=>qhK n a) a:=by
 have hl:a.length≤1048576:=by simp only [qd0] at h;omega
 unfold qhK
 exact Ev.bindN (qhV (by omega)) (Ev.bind (b:=(a,(a.length:Int))) (qiE (cp:=fun _ x=>some x) (fun _ _=>.done)
  (fun acc n=>by simp only [qeN,qh (jf _),cond_false])
  (fun acc n j x y hx hy=>by
   have hj:=(List.getElem?_eq_some_iff.1 hx).1
   simp only [qeN,qe hj,cond_true,qW hx,qW hy,je,wS j])) .done)
theorem qw0 {a:qH} (_:qhn a≤1048576):Ev (fun n=>qiP n a) a:=by
 unfold qiP
 exact .done
theorem qvg {a:(List qH)} (h:qfH a≤1048576):Ev (fun n=>qjq n a) a:=by
 have hl:a.length≤1048576:=by simp only [qfH] at h;omega
 unfold qjq
 exact Ev.bindN (qhV (by omega)) (Ev.bind (b:=(a,(a.length:Int))) (qiE (cp:=qiP) (fun x hx=>qw0 (by have:=qbM (wt:=fun x:qH=>qhn x) hx;simp only [qfH] at h;omega))
  (fun acc n=>by simp only [qfV,qh (jf _),cond_false])
  (fun acc n j x y hx hy=>by
   have hj:=(List.getElem?_eq_some_iff.1 hx).1
   simp only [qfV,qe hj,cond_true,qW hx,qW hy,je,wS j])) .done)
theorem quC {a:qf} (h:qep a≤1048576):Ev (fun n=>qiD n a) a:=by
 unfold qiD
 simp only [qep] at h
 exact Ev.bind (qqZ (a:=a.Aa) (by omega)) (Ev.bind (qsL (a:=a.Af) (by omega)) (Ev.bind (qvg (a:=a.Ac) (by omega)) (.done)))
theorem qwN {a:qB} (h:qfq a≤1048576):Ev (fun n=>qiM n a) a:=by
 unfold qiM
 simp only [qfq] at h
 exact Ev.bind (qex (a:=a.Ak) (by omega)) (Ev.bind (qex (a:=a.Bn) (by omega)) (Ev.bind (qex (a:=a.Bk) (by omega)) (Ev.bind (qex (a:=a.Bf) (by omega)) (.done))))
theorem qvH {a:(List qB)} (h:qfM a≤1048576):Ev (fun n=>qjt n a) a:=by
 have hl:a.length≤1048576:=by simp only [qfM] at h;omega
 unfold qjt
 exact Ev.bindN (qhV (by omega)) (Ev.bind (b:=(a,(a.length:Int))) (qiE (cp:=qiM) (fun x hx=>qwN (by have:=qbM (wt:=fun x:qB=>qfq x) hx;simp only [qfM] at h;omega))
  (fun acc n=>by simp only [qf5,qh (jf _),cond_false])
  (fun acc n j x y hx hy=>by
   have hj:=(List.getElem?_eq_some_iff.1 hx).1
   simp only [qf5,qe hj,cond_true,qW hx,qW hy,je,wS j])) .done)
theorem qnf {a:qg} (h:qfR a≤1048576):Ev (fun n=>qfK n a) a:=by
 unfold qfK
 simp only [qfR] at h
 exact Ev.bind (qsA (a:=a.Ai) (by omega)) (Ev.bind (quC (a:=a.Ab) (by omega)) (Ev.bind (qvH (a:=a.Aj) (by omega)) (.done)))
end Go.Fw


namespace Go.Fw
open Go
set_option maxRecDepth 100000
theorem qer {n:Nat} {x lo hi:Int}:qan n x lo hi=some (inI x lo hi):=by
 simp only [qan,qlH,qnr];rfl
theorem qd1 {n:Nat} {x lo hi:Int}:qaE n x lo hi=some (inI x lo hi):=by
 simp only [qaE,qlH,qnr];rfl
def bt (s:ByteArray) (j:Nat):Nat:=(s.data.toList.getD j 0).toNat
theorem qvb {s:ByteArray} {j:Nat} (h:j<s.size):atS s (j:Int)=some (bt s j:Int):=by
 have h':j<s.data.size:=h
 have hl:j<s.data.toList.length:=by simpa using h'
 unfold atS
 rw [if_pos (by omega),jx]
 have:s[j]?=some (s.data.toList.getD j 0):=by
  rw [getElem?_pos s j h,jK,jg hl]
  rfl
 rw [this]
 rfl
def letB (b:Nat):Bool:=decide (97≤b)&&decide (b≤122)
def digB (b:Nat):Bool:=decide (48≤b)&&decide (b≤57)
def chB (s:ByteArray) (j:Nat):Bool:=letB (bt s j) || digB (bt s j)&&decide (0<j)
def nameB (s:ByteArray):Bool:=(decide (1≤s.size)&&decide (s.size≤8))&&allN (chB s) s.size
theorem qmM {s:ByteArray} (h:okS s):Ev (fun n=>qgA n s) (nameB s):=by
 unfold okS at h
 have hL:Ev (fun n=>qdC s n 0) (bif allN (chB s) s.size then .nxt (s.size:Int) else .ret false):=by
  refine qeZ ?_ (fun j hj X hX=>?_)
  ·exact Ev.succ (by simp only [qdC,qh (jf _),cond_false];exact .done)
  ·refine Ev.succ ?_
   simp only [qdC,qe hj,cond_true,qvb hj,je,qlH,qnr,wS j]
   have e1:(decide ((bt s j:Int) ≥ 97)&&decide ((bt s j:Int)≤122))=letB (bt s j):=by unfold letB;rw [jk];simp;omega
   have e2:(decide ((bt s j:Int) ≥ 48)&&decide ((bt s j:Int)≤57))=digB (bt s j):=by unfold digB;rw [jk];simp;omega
   have e3:decide ((j:Int) > 0)=decide (0<j):=by rw [jk];simp
   rw [e1,e2,e3]
   unfold chB
   cases letB (bt s j)<;>cases digB (bt s j)<;>cases decide (0<j)<;>first|exact hX|exact .done
 unfold qgA
 refine Ev.cast (r:=bif allN (chB s) s.size then (decide (1≤s.size)&&decide (s.size≤8)) else false) (Ev.bindB hL (fun _=>?_) (fun _=>.done)) ?_
 ·simp only [qlH,qnr]
  exact Ev.now (by congr 1;rw [jk];simp;omega)
 ·unfold nameB
  cases allN (chB s) s.size<;>simp
def cutset:List UInt8:=[97,98,99,100,101,102,103,104,105,106,107,108,109,110,111,112,113,114,115,116,117,118,119,120,121,122,48,49,50,51,52,53,54,55,56,57]
theorem qpx (b:UInt8):cutset.contains b=(letB b.toNat || digB b.toNat):=by
 have h0:(List.range 256).all (fun m=>cutset.contains (UInt8.ofNat m)==(letB (UInt8.ofNat m).toNat || digB (UInt8.ofNat m).toNat))=true:=by kernel_rfl
 have h:=List.all_eq_true.1 h0 b.toNat (List.mem_range.2 b.toNat_lt)
 rw [beq_iff_eq] at h
 simpa using h
def letters:List UInt8:=[97,98,99,100,101,102,103,104,105,106,107,108,109,110,111,112,113,114,115,116,117,118,119,120,121,122]
theorem qsK (m:Nat) (hm:m<256):decide ((Lib.indexByte letters m.toUInt8) ≥ 0)=letB m:=by
 have h0:(List.range 256).all (fun m=>decide ((Lib.indexByte letters m.toUInt8) ≥ 0)==letB m)=true:=by kernel_rfl
 have h:=List.all_eq_true.1 h0 m (List.mem_range.2 hm)
 rwa [beq_iff_eq] at h
theorem qpU {α:Type} {p:α→Bool} {l:List α}:l.dropWhile p=[]↔∀ x,x ∈ l→p x=true:=by
 induction l with
 | nil=>simp
 | cons y l ih =>
  rw [List.dropWhile_cons]
  by_cases h:p y=true
  ·rw [if_pos h,ih];simp [h]
  ·rw [if_neg h];simp [h]
theorem qqb {α:Type} {p:α→Bool} {l:List α} (h:∀ x,x ∈ l.dropWhile p→p x=true):∀ x,x ∈ l→p x=true:=by
 induction l with
 | nil=>simp
 | cons y l ih =>
  rw [List.dropWhile_cons] at h
  by_cases hy:p y=true
  ·rw [if_pos hy] at h
   intro x hx
   rcases List.mem_cons.1 hx with rfl|hx
   ·exact hy
   ·exact ih h x hx
  ·rw [if_neg hy] at h
   exact h
theorem qvB {l cs:List UInt8}:Lib.trimS l cs=[]↔∀ x,x ∈ l→cs.contains x=true:=by
 unfold Lib.trimS Lib.trimRightS Lib.trimLeftS
 rw [qpU]
 constructor
 ·intro h x hx
  exact qqb (p:=(cs.contains ·)) (l:=l.reverse) (fun y hy=>h y (List.mem_reverse.2 hy)) x (List.mem_reverse.2 hx)
 ·intro h x hx
  exact h x (List.mem_reverse.1 ((List.dropWhile_suffix _).subset (List.mem_reverse.1 hx)))
theorem qgY {a b:ByteArray}:(a.toList==b.toList)=decide (a=b):=by
 rw [jk,beq_iff_eq,decide_eq_true_iff]
 constructor
 ·intro h
  exact ByteArray.ext (by have:=congrArg List.toArray h;simpa [ByteArray.toList_eq] using this)
 ·rintro rfl;rfl
end Go.Fw


namespace Go.Fw
open Go
set_option maxRecDepth 100000
theorem qw3 {s:ByteArray} {j:Nat} (h:j<s.data.toList.length):bt s j=(s.data.toList[j]).toNat:=by
 unfold bt;rw [jK,jg h];rfl
theorem qxM {s:ByteArray} {j:Nat}:bt s j<256:=UInt8.toNat_lt _
theorem qqu {n:Nat} {s:ByteArray} (h:okS s):qiJ n s=some (nameB s):=by
 unfold okS at h
 have hl:s.data.toList.length=s.size:=by simp
 simp only [qiJ,qd1,je]
 cases hI:inI (s.size:Int) 1 8 with
 | false =>
  have hs:(decide (1≤s.size)&&decide (s.size≤8))=false:=by rw [qut] at hI;rw [Bool.and_eq_false_iff,decide_eq_false_iff_not,decide_eq_false_iff_not];omega
  simp [nameB,hs]
 | true =>
  have hs:1≤s.size∧s.size≤8:=by rw [qcU] at hI;omega
  have hT:qhO n s (⟨#[97,98,99,100,101,102,103,104,105,106,107,108,109,110,111,112,113,114,115,116,117,118,119,120,121,122,48,49,50,51,52,53,54,55,56,57]⟩:ByteArray)=some ⟨(Lib.trimS s.data.toList cutset).toArray⟩:=by
   unfold qhO
   rw [if_pos ⟨by omega,by decide,by decide⟩]
   rfl
  rw [hT]
  simp only [cond_true,je]
  have hE:(((⟨(Lib.trimS s.data.toList cutset).toArray⟩:ByteArray).toList==(⟨#[]⟩:ByteArray).toList))=allN (fun j=>letB (bt s j) || digB (bt s j)) s.size:=by
   rw [qgY,jk,decide_eq_true_iff,qaK]
   have:((⟨(Lib.trimS s.data.toList cutset).toArray⟩:ByteArray)=⟨#[]⟩)↔Lib.trimS s.data.toList cutset=[]:=by
    constructor
    ·intro he
     have:=congrArg (fun x:ByteArray=>x.data.toList) he
     simpa using this
    ·intro he;rw [he]
   rw [this,qvB]
   constructor
   ·intro hx j hj
    have hj':j<s.data.toList.length:=by omega
    have:=hx _ (jp hj')
    rw [qpx,←qw3 hj'] at this
    exact this
   ·intro hx x hm
    obtain ⟨j,hj,rfl⟩:=jI hm
    have:=hx j (by omega)
    rw [qpx,←qw3 hj]
    exact this
  rw [hE]
  have h0:atS s 0=some (bt s 0:Int):=qvb (j:=0) (by omega)
  have hI2:decide (Lib.indexByte letters (bt s 0:Int).toNat.toUInt8 ≥ 0)=letB (bt s 0):=by
   rw [jx];exact qsK _ qxM
  have hF:∀ b:Bool,(bif b then (atS s 0).bind fun y1=>(qge n (⟨#[97,98,99,100,101,102,103,104,105,106,107,108,109,110,111,112,113,114,115,116,117,118,119,120,121,122]⟩:ByteArray) (⟨y1⟩:IntK .u8)).bind fun r3=>some (decide (r3 ≥ 0)) else some false)=some (b&&letB (bt s 0)):=by
   intro b
   cases b with
   | false=>rfl
   | true =>
    rw [h0]
    simp only [cond_true,je,qge,jJ]
    exact congrArg some hI2
  rw [hF]
  congr 1
  have hs':(decide (1≤s.size)&&decide (s.size≤8))=true:=by simp [hs]
  unfold nameB
  rw [hs',jJ,jk,ji,qaK,qaK]
  simp only [chB,Bool.or_eq_true,ji,decide_eq_true_eq]
  constructor
  ·rintro ⟨h1,h2⟩ j hj
   rcases Nat.eq_zero_or_pos j with rfl|hp
   ·exact .inl h2
   ·exact (h1 j hj).imp id (fun h=>⟨h,hp⟩)
  ·intro h1
   refine ⟨fun j hj=>(h1 j hj).imp id (fun h=>h.1),?_⟩
   rcases h1 0 (by omega) with h2|h2
   ·exact h2
   ·omega
def strAt (xs:List ByteArray) (j:Nat):ByteArray:=xs.getD j ByteArray.empty
theorem qny {xs:List ByteArray} {j:Nat} (h:j<xs.length):strAt xs j=xs[j]:=by simp [strAt,h]
theorem qo1 {xs:List ByteArray} {j:Nat} (h:j<xs.length):idx xs (j:Int)=some (strAt xs j):=by rw [qaW h,qny h]
def neB (xs:List ByteArray) (j i:Nat):Bool:=!decide (strAt xs i=strAt xs j)
def namesB (xs:List ByteArray):Bool:=allN (fun j=>nameB (strAt xs j)&&allN (neB xs j) j) xs.length
theorem qlZ {xs:List ByteArray} (h:okL okS xs):Ev (fun n=>qf8 n xs) (namesB xs):=by
 have hl:=h.len
 have hL2:∀ j,j<xs.length→Ev (fun n=>qd2 xs (j:Int) n 0) (bif allN (neB xs j) j then .nxt (j:Int) else .ret false):=by
  intro j hj
  refine qeZ ?_ (fun i hi X hX=>Ev.succ ?_)
  ·exact Ev.succ (by simp only [qd2,qh (jf _),cond_false];exact .done)
  ·simp only [qd2,qe hi,cond_true,qo1 (show i<xs.length by omega),qo1 hj,je,qgY,wS i]
   unfold neB
   cases decide (strAt xs i=strAt xs j)
   ·exact hX
   ·exact .done
 have hL1:Ev (fun n=>qed xs n 0) (bif namesB xs then .nxt (xs.length:Int) else .ret false):=by
  refine qeZ ?_ (fun j hj X hX=>Ev.succ ?_)
  ·exact Ev.succ (by simp only [qed,qh (jf _),cond_false];exact .done)
  ·simp only [qed,qe hj,cond_true,qo1 hj,je,wS j]
   refine Ev.bind (qmM (by rw [qny hj];exact h.at hj)) ?_
   cases nameB (strAt xs j)
   ·exact .done
   ·refine Ev.ff rfl (Ev.bind (hL2 j hj) ?_)
    cases allN (neB xs j) j
    ·exact .done
    ·exact hX
 unfold qf8
 refine Ev.bind hL1 ?_
 cases namesB xs<;>exact .done
theorem qrP {xs:List ByteArray} {v:ByteArray} (hl:xs.length≤1048576):Ev (fun n=>qe7 n xs v) (ixL (fun x=>decide (v=x)) xs) :=
 qdF (fin:=(xs.length:Int)) (Lf:=qbL xs v) (pf:=fun _ x=>some (decide (v=x))) (fun _ _=>.done)
  (fun n=>by simp only [qbL,qh (jf _),cond_false])
  (fun n j x hx=>by
   have hj:=(List.getElem?_eq_some_iff.1 hx).1
   simp only [qbL,qe hj,cond_true,qW hx,je,qgY,wS j])
  (fun n=>by unfold qe7;congr 1;funext o;cases o<;>rfl)
theorem qpt {xs:List ByteArray} {v:ByteArray} (hl:xs.length≤1048576):Ev (fun n=>qdO n xs v) (xs.any fun x=>decide (v=x)):=by
 unfold qdO
 exact Ev.bind (qrP hl) (Ev.now (by rw [qig]))
theorem qiW {xs:List ByteArray} (h:okL okS xs):Ev (fun n=>qdT n xs) (namesB xs):=by
 have hl:=h.len
 have hL1:Ev (fun n=>qdX xs n 0) (bif namesB xs then .nxt (xs.length:Int) else .ret false):=by
  refine qeZ ?_ (fun j hj X hX=>Ev.succ ?_)
  ·exact Ev.succ (by simp only [qdX,qh (jf _),cond_false];exact .done)
  ·have hs:subS xs 0 (j:Int)=some (xs.take j):=by
    unfold subS
    rw [if_pos ⟨by omega,by omega,by omega⟩]
    simp
   simp only [qdX,qe hj,cond_true,qo1 hj,je,hs,qqu (show okS (strAt xs j) by rw [qny hj];exact h.at hj),wS j]
   cases nameB (strAt xs j)
   ·exact .done
   ·refine Ev.ff rfl (Ev.bind (qpt (by simp;omega)) ?_)
    have:((xs.take j).any fun x=>decide (strAt xs j=x)) = !allN (neB xs j) j:=by
     rw [qsc (d:=ByteArray.empty)]
     congr 1
     rw [Jb,Nat.min_eq_left (by omega)]
     refine qhm (fun i hi=>?_)
     unfold neB strAt
     congr 1
     have:(xs.take j).getD i ByteArray.empty=xs.getD i ByteArray.empty:=by simp [jK,hi]
     rw [this]
     exact decide_eq_decide.2 eq_comm
    rw [this]
    cases allN (neB xs j) j
    ·exact .done
    ·exact hX
 unfold qdT
 refine Ev.bind hL1 ?_
 cases namesB xs<;>exact .done
end Go.Fw


namespace Go.Fw
open Go
set_option maxRecDepth 100000
theorem qp1 {n:Nat} {x lo hi:Int}:qgH n x lo hi=some (!inI x lo hi):=by simp only [qgH,qd1,je]
theorem qfN {xs:List Int} {lo hi:Int} (hl:xs.length≤1048576):Ev (fun n=>qbI n xs lo hi) (xs.all fun x=>inI x lo hi):=by
 have h1:Ev (fun n=>qaL n xs lo hi) (ixL (fun x=>!inI x lo hi) xs) :=
  qdF (fin:=(xs.length:Int)) (Lf:=qU xs lo hi) (pf:=fun _ x=>some (!inI x lo hi)) (fun _ _=>.done)
   (fun n=>by simp only [qU,qh (jf _),cond_false])
   (fun n j x hx=>by
    have hj:=(List.getElem?_eq_some_iff.1 hx).1
    simp only [qU,qe hj,cond_true,qW hx,je,qp1,wS j])
   (fun n=>by unfold qaL;congr 1;funext o;cases o<;>rfl)
 unfold qbI qbh
 refine Ev.bind (Ev.bind h1 (Ev.now rfl)) (Ev.now ?_)
 rw [qig,qns]
def stepB (xs:List Int) (j:Nat):Bool:=decide (j=0) || decide (at0 xs (j-1)<at0 xs j)
def incB (xs:List Int):Bool:=allN (stepB xs) xs.length
theorem qi7 {xs:List Int} (hl:xs.length≤1048576):Ev (fun n=>qdq n xs) (incB xs):=by
 have hL:Ev (fun n=>qba xs n 1) (bif incB xs then .nxt (max 1 xs.length:Int) else .ret false):=by
  by_cases h0:xs.length=0
  ·have hb:incB xs=true:=by unfold incB;rw [h0];rfl
   rw [hb]
   refine Ev.succ ?_
   have:decide ((1:Int)<(xs.length:Int))=false:=by rw [h0];decide
   simp only [qba,this,cond_false]
   exact Ev.now (by rw [h0];rfl)
  ·have:=qtN (Lf:=qba xs) (len:=xs.length) (i0:=1) (f:=stepB xs) (bad:=false) (fin:=.nxt (max 1 xs.length:Int)) (by omega)
    (Ev.succ (by
     simp only [qba,qh (jf _),cond_false]
     exact Ev.now (by congr 2;omega)))
    (fun j h1 hj X hX=>Ev.succ (by
     simp only [qba,qe hj,cond_true,wS j,show (j:Int)-1=((j-1:Nat):Int) by omega,qau (show -9223372036854775808≤((j-1:Nat):Int) by omega) (by omega),qbm (show j-1<xs.length by omega),qbm hj,je]
     unfold stepB
     by_cases hc:at0 xs (j-1)<at0 xs j
     ·have e1:decide (at0 xs (j-1) ≥ at0 xs j)=false:=by simp;omega
      rw [e1];simp only [hc,decide_true,Bool.or_true,cond_true,cond_false];exact hX
     ·have e1:decide (at0 xs (j-1) ≥ at0 xs j)=true:=by simp;omega
      have e2:decide (j=0)=false:=by simp;omega
      rw [e1,e2];simp only [hc,decide_false,Bool.or_self,cond_true,cond_false];exact .done))
   have e:allN (fun j=>stepB xs (1+j)) (xs.length-1)=incB xs:=by
    unfold incB
    rw [jk,qaK,qaK]
    constructor
    ·intro h j hj
     cases j with
     | zero=>rfl
     | succ j=>have:=h j (by omega);rwa [Nat.add_comm] at this
    ·intro h j hj
     exact h (1+j) (by omega)
   rw [e] at this
   exact this
 unfold qdq
 refine Ev.bind hL ?_
 cases incB xs<;>exact .done
def lenB {α:Type} (xs:List α) (lo hi:Nat):Bool:=decide (lo≤xs.length)&&decide (xs.length≤hi)
theorem qq4 {α:Type} {xs:List α} {lo hi:Nat}:inI (xs.length:Int) (lo:Int) (hi:Int)=lenB xs lo hi:=by
 unfold inI lenB;rw [jk];simp
def axisB (xs:List Int):Bool:=lenB xs 1 4&&((xs.all fun x=>inI x 0 100000)&&incB xs)
theorem qqm {xs:List Int} (hl:xs.length≤1048576):Ev (fun n=>qiX n xs) (axisB xs):=by
 simp only [qiX,qas,je,qd1,show inI (xs.length:Int) 1 4=lenB xs 1 4 from qq4 (lo:=1) (hi:=4)]
 unfold axisB
 cases lenB xs 1 4
 ·exact .done
 ·refine Ev.tt rfl (Ev.bind (qfN hl) ?_)
  cases (xs.all fun x=>inI x 0 100000)
  ·exact .done
  ·exact Ev.tt rfl (Ev.bind (qi7 hl) .done)
theorem qpE {xs:List Int} (hl:xs.length≤1048576):Ev (fun n=>qhy n xs) (axisB xs):=by
 have hL:Ev (fun n=>qdA xs n 0) (bif allN (fun j=>inI (at0 xs j) 0 100000&&stepB xs j) xs.length then .nxt (xs.length:Int) else .ret false):=by
  refine qeZ ?_ (fun j hj X hX=>Ev.succ ?_)
  ·exact Ev.succ (by simp only [qdA,qh (jf _),cond_false];exact .done)
  ·simp only [qdA,qe hj,cond_true,qbm hj,je,qer,wS j]
   cases inI (at0 xs j) 0 100000
   ·exact .done
   ·simp only [Jj,cond_false,jJ]
    unfold stepB
    by_cases h0:j=0
    ·subst h0
     exact Ev.ff (by decide) hX
    ·simp only [show (j:Int)-1=((j-1:Nat):Int) by omega,qau (show -9223372036854775808≤((j-1:Nat):Int) by omega) (by omega),qbm (show j-1<xs.length by omega),je]
     have e2:decide (j=0)=false:=by simp;omega
     have e3:decide ((j:Int) > 0)=true:=by simp;omega
     rw [e2,e3]
     simp only [cond_true,Jk]
     by_cases hc:at0 xs (j-1)<at0 xs j
     ·have e1:decide (at0 xs (j-1) ≥ at0 xs j)=false:=by simp;omega
      rw [e1];simp only [hc,decide_true,cond_true,cond_false];exact hX
     ·have e1:decide (at0 xs (j-1) ≥ at0 xs j)=true:=by simp;omega
      rw [e1];simp only [hc,decide_false,cond_true,cond_false];exact .done
 have e:axisB xs=(allN (fun j=>inI (at0 xs j) 0 100000&&stepB xs j) xs.length&&lenB xs 1 4):=by
  unfold axisB incB
  rw [qkD,qhC (d:=0),Bool.and_comm]
  rfl
 rw [e]
 unfold qhy
 refine Ev.bind hL ?_
 cases allN (fun j=>inI (at0 xs j) 0 100000&&stepB xs j) xs.length
 ·exact .done
 ·simp only [cond_true,qlH,qnr,jJ]
  exact Ev.now (by congr 1;unfold lenB;rw [jk];simp;omega)
def tableB (t:qr):Bool:=axisB t.Bd&&(axisB t.Bc&&(decide (t.Av.length=t.Bd.length*t.Bc.length)&&(t.Av.all fun x=>inI x (-1000000) 1000000)))
theorem qtH {a b:Nat} (ha:a≤1048576) (hb:b≤1048576):W64 ((a:Int)*(b:Int))=((a*b:Nat):Int):=by
 have h:a*b≤1048576*1048576:=Nat.mul_le_mul ha hb
 have e:(a:Int)*(b:Int)=((a*b:Nat):Int):=by simp
 rw [e]
 exact qau (by omega) (by omega)
theorem qsY {t:qr} (h:qh8 t):Ev (fun n=>qjf n t) (tableB t):=by
 unfold qjf tableB
 refine Ev.bind (qqm h.Bd.len) ?_
 cases axisB t.Bd
 ·exact .done
 ·refine Ev.tt rfl (Ev.bind (qqm h.Bc.len) ?_)
  cases axisB t.Bc
  ·exact .done
  ·rw [qtH h.Bd.len h.Bc.len]
   have e:(((t.Av.length:Nat):Int)==((t.Bd.length*t.Bc.length:Nat):Int))=decide (t.Av.length=t.Bd.length*t.Bc.length):=by rw [jk];simp;omega
   rw [e]
   cases decide (t.Av.length=t.Bd.length*t.Bc.length)
   ·exact .done
   ·exact Ev.tt rfl (Ev.tt rfl (Ev.bind (qfN h.Av.len) .done))
theorem qse {t:qr} (h:qh8 t):Ev (fun n=>qjz n t) (tableB t):=by
 have hl:=h.Av.len
 have hL:Ev (fun n=>qez t n 0) (bif (t.Av.all fun x=>inI x (-1000000) 1000000) then .nxt (t.Av.length:Int) else .ret false) :=
  qlS (fun n=>by simp only [qez,qh (jf _),cond_false]) (fun j hj X hX=>by
   simp only [qez,qe hj,cond_true,qaW hj,je,qer,wS j]
   cases inI t.Av[j] (-1000000) 1000000
   ·exact .done
   ·exact hX)
 unfold qjz tableB
 refine Ev.bind (b:=!(axisB t.Bd&&(axisB t.Bc&&decide (t.Av.length=t.Bd.length*t.Bc.length)))) ?_ ?_
 ·refine Ev.bind (qpE h.Bd.len) ?_
  cases axisB t.Bd
  ·exact .done
  ·refine Ev.ff rfl (Ev.bind (qpE h.Bc.len) ?_)
   cases axisB t.Bc
   ·exact .done
   ·refine Ev.ff rfl (Ev.now ?_)
    rw [qtH h.Bd.len h.Bc.len]
    congr 1
    rw [jk];simp;omega
 ·cases axisB t.Bd
  ·exact .done
  ·cases axisB t.Bc
   ·exact .done
   ·cases decide (t.Av.length=t.Bd.length*t.Bc.length)
    ·exact .done
    ·refine Ev.ff rfl (Ev.bind hL ?_)
     cases (t.Av.all fun x=>inI x (-1000000) 1000000)<;>exact .done
end Go.Fw


namespace Go.Fw
open Go
set_option maxRecDepth 100000
instance:Inhabited qX:=⟨⟨ByteArray.empty,0,0,false⟩⟩
instance:Inhabited qr:=⟨⟨[],[],[]⟩⟩
instance:Inhabited qF:=⟨⟨0,0,0,0,[],[]⟩⟩
instance:Inhabited qp:=⟨⟨ByteArray.empty,0,[],[],[],0,0⟩⟩
instance:Inhabited qj:=⟨⟨ByteArray.empty,0,[]⟩⟩
instance:Inhabited qH:=⟨⟨ByteArray.empty,0,0⟩⟩
instance:Inhabited qB:=⟨⟨[],[],[],[]⟩⟩
theorem lastE {j m:Nat} (h:j<m) (hm:m≤1048576):((j:Int)==W64 ((m:Int)-1))=decide (j+1=m):=by
 rcases qwS h with h|h
 ·exact h
 ·omega
theorem qjD {α:Type} [Inhabited α] {xs:List α} {g:α→ByteArray} {j:Nat} (h:j<xs.length):strAt (xs.map g) j=g (gt xs j):=by
 rw [qny (by simpa using h),qjJ h];simp
theorem qmf {α:Type} {xs:List α} {g:α→ByteArray} {ok:α→Prop} (h:okL ok xs) (hg:∀ x,ok x→okS (g x)):okL okS (xs.map g) :=
 ⟨by rw [jN];exact h.1,fun y hy=>by
  obtain ⟨x,hx,rfl⟩:=List.mem_map.1 hy
  exact hg x (h.2 x hx)⟩
theorem qkS {α β:Type} {xs:List α} {g:α→β} {j:Nat} (h:j<xs.length) (hl:xs.length≤1048576) {y:β}:appS ((xs.take j).map g) [y]=some ((xs.take j).map g++[y]) :=
 qcc (by simp;omega)
def pinB (ps:List qX) (j:Nat):Bool :=
 bif decide (j+1=ps.length) then ((gt ps j).Bl==2)&&(((gt ps j).Bk==0)&&!(gt ps j).Be) else ((gt ps j).Bl==1)&&inI (gt ps j).Bk 0 500
def pinsB (ps:List qX):Bool:=allN (pinB ps) ps.length&&(lenB ps 2 5&&namesB (ps.map qX.As))
def clkN (ps:List qX) (j:Nat):Nat:=cntP (fun i=>(gt ps i).Be) j
theorem qsB {ps:List qX} (h:okL qlT ps):Ev (fun n=>qjp n ps) (pinsB ps):=by
 have hl:=h.len
 have hL:Ev (fun n=>qcQ ps n ([]:List ByteArray) 0) (bif allN (pinB ps) ps.length then .nxt (ps.map qX.As,(ps.length:Int)) else .ret false):=by
  refine loopN (Lf:=qcQ ps) (S:=fun j=>(ps.take j).map qX.As) (pinB ps) (fun n=>?_) (fun j hj hp X hX=>?_)
  ·simp only [qcQ,qh (jf _),cond_false,jC]
  ·simp only [qcQ,qe hj,cond_true,qS hj,je,qkS hj hl,qfS (g:=qX.As) hj,lastE hj hl,bne,qbw,qd1,wS j]
   generalize hc:pinB ps j=c at hX ⊢
   unfold pinB at hc
   cases hd:decide (j+1=ps.length)
   ·rw [hd] at hc
    simp only [cond_false] at hc ⊢
    subst hc
    exact Ev.okP (fun h1=>Ev.okP1 (fun h2=>hX (by rw [h1,h2];rfl)))
   ·rw [hd] at hc
    simp only [cond_true] at hc ⊢
    subst hc
    refine Ev.okP (fun h1=>Ev.okP (fun h2=>Ev.chkP1 (fun h3=>hX (by rw [h1,h2,h3];rfl))))
 unfold qjp pinsB
 refine Ev.bind hL ?_
 cases allN (pinB ps) ps.length
 ·exact .done
 ·simp only [cond_true,qbD,qd1,je,show inI (ps.length:Int) 2 5=lenB ps 2 5 from qq4 (lo:=2) (hi:=5),jJ]
  exact Ev.andP (fun _=>Ev.last (qiW (qmf h (fun x hx=>hx.As))))
def pinS (ps:List qX) (j:Nat):Bool:=allN (neB (ps.map qX.As) j) j&&((nameB (gt ps j).As&&inI (gt ps j).Bk 0 500)&&(bif decide (j+1=ps.length) then ((gt ps j).Bl==2)&&(((gt ps j).Bk==0)&&!(gt ps j).Be) else ((gt ps j).Bl==1)))
theorem qwq {ps:List qX}:(lenB ps 2 5&&allN (pinS ps) ps.length)=pinsB ps:=by
 have e:namesB (ps.map qX.As)=allN (fun j=>nameB (gt ps j).As&&allN (neB (ps.map qX.As) j) j) ps.length:=by
  unfold namesB
  rw [jN]
  exact qhm (fun j hj=>by rw [qjD hj])
 unfold pinsB
 rw [e,←Bool.and_assoc,Bool.and_comm (allN (pinB ps) ps.length),Bool.and_assoc,←qkD]
 congr 1
 refine qhm (fun j hj=>?_)
 unfold pinS pinB
 cases hd:decide (j+1=ps.length)
 ·simp only [cond_false]
  cases allN (neB (ps.map qX.As) j) j<;>cases nameB (gt ps j).As<;>cases inI (gt ps j).Bk 0 500<;>cases ((gt ps j).Bl==1)<;>rfl
 ·simp only [cond_true]
  cases hcap:((gt ps j).Bk==0)
  ·simp
  ·have:inI (gt ps j).Bk 0 500=true:=by rw [beq_iff_eq] at hcap;rw [hcap];rfl
   rw [this]
   cases allN (neB (ps.map qX.As) j) j<;>cases nameB (gt ps j).As<;>cases ((gt ps j).Bl==2)<;>cases (gt ps j).Be<;>rfl
theorem qsC {c:qp} (h:okL qlT c.Am):Ev (fun n=>qjk n c) (bif pinsB c.Am then (((clkN c.Am c.Am.length:Nat):Int),true) else (0,false)):=by
 have hl:=h.len
 have hL2:∀ j,j<c.Am.length→Ev (fun n=>qey c (j:Int) (gt c.Am j) n 0) (bif allN (neB (c.Am.map qX.As) j) j then .nxt (j:Int) else .ret (0,false)):=by
  intro j hj
  refine qeZ ?_ (fun i hi X hX=>Ev.succ ?_)
  ·exact Ev.succ (by simp only [qey,qh (jf _),cond_false];exact .done)
  ·simp only [qey,qe hi,cond_true,qS (show i<c.Am.length by omega),je,qgY,wS i]
   unfold neB
   rw [qjD (g:=qX.As) (show i<c.Am.length by omega),qjD (g:=qX.As) hj]
   exact Ev.chkP1 (fun _=>hX)
 have hL1:Ev (fun n=>qcS c n 0 0) (bif allN (pinS c.Am) c.Am.length then .nxt (((clkN c.Am c.Am.length:Nat):Int),(c.Am.length:Int)) else .ret (0,false)):=by
  refine loopN (Lf:=qcS c) (S:=fun j=>((clkN c.Am j:Nat):Int)) (pinS c.Am) (fun n=>?_) (fun j hj hp X hX=>?_)
  ·simp only [qcS,qh (jf _),cond_false]
  ·have hn:clkN c.Am j≤j:=qeR
   have ejl:((j:Int)==W64 ((c.Am.length:Int)-1))=decide (j+1=c.Am.length):=lastE hj hl
   have elt:decide ((j:Int)<W64 ((c.Am.length:Int)-1)) = !decide (j+1=c.Am.length):=by
    rw [qau (by omega) (by omega),jk];simp;omega
   simp only [qcS,qe hj,cond_true,qS hj,je,wS j,qej (show clkN c.Am j<9223372036854775807 by omega),ejl,elt,qer]
   unfold pinS
   refine Ev.bind (hL2 j hj) ?_
   cases ha:allN (neB (c.Am.map qX.As) j) j
   ·exact .done
   ·simp only [cond_true,jJ]
    refine Ev.chkT ?_ (fun h1=>?_)
    ·exact Ev.or (qmM (qh4 h hj).As) (fun _=>.done)
    ·refine Ev.chkT1 ?_ (fun h2=>?_)
     ·cases decide (j+1=c.Am.length)
      ·exact .done
      ·simp only [cond_true,Jj,cond_false,bne,qbw]
       cases ((gt c.Am j).Bl==2)<;>cases ((gt c.Am j).Bk==0)<;>cases (gt c.Am j).Be<;>exact .done
     ·have hX:=hX (by unfold pinS;rw [ha,h1,h2];rfl)
      have hck:clkN c.Am (j+1)=clkN c.Am j+(bif (gt c.Am j).Be then 1 else 0):=rfl
      rw [hck] at hX
      cases hc:(gt c.Am j).Be
      ·rw [hc] at hX;exact Ev.ff rfl hX
      ·rw [hc] at hX;exact Ev.tt rfl hX
 rw [←qwq]
 unfold qjk
 refine Ev.guard ?_ (fun h1=>?_)
 ·unfold lenB
  have e1:decide ((c.Am.length:Int)<2) = !decide (2≤c.Am.length):=by rw [jk];simp;omega
  have e2:decide ((c.Am.length:Int) > 5) = !decide (c.Am.length≤5):=by rw [jk];simp;omega
  rw [e1,e2]
  cases decide (2≤c.Am.length)<;>cases decide (c.Am.length≤5)<;>exact .done
 ·refine Ev.bind hL1 ?_
  cases allN (pinS c.Am) c.Am.length<;>exact .done
def mnL (xs:List Int):Int:=(xs.drop 1).foldl (fun m y=>if y<m then y else m) (at0 xs 0)
def mxL (xs:List Int):Int:=(xs.drop 1).foldl (fun m y=>if y > m then y else m) (at0 xs 0)
theorem qpN {t:qr} (h:tableB t=true):1≤t.Av.length:=by
 unfold tableB axisB lenB at h
 simp only [ji,decide_eq_true_eq] at h
 obtain ⟨⟨⟨h1,_⟩,_⟩,⟨⟨h2,_⟩,_⟩,h3,_⟩:=h
 rw [h3]
 exact Nat.mul_pos h1 h2
theorem qww {xs:List Int} (h1:1≤xs.length) (hl:xs.length≤1048576):Ev (fun n=>qgQ n xs) (mnL xs):=by
 have hL:=(qod (Lf:=fun n t j=>qcM xs n t j) (xs:=xs) (step:=fun (m y:Int)=>if y<m then y else m) (fin:=fun t=>(t,(xs.length:Int))) 1 (at0 xs 0) (fun _ _=>True) h1 trivial (fun _ _ _ _=>trivial)
  (fun n t=>by simp only [qcM,qh (jf _),cond_false])
  (fun j t hj _ X hX=>by simpa only [qcM,qe hj,cond_true,qaW hj,je,wS j] using hX)).1
 unfold qgQ
 rw [show decide ((xs.length:Int)<1)=false by simp;omega,show idx xs (0:Int)=some (at0 xs 0) from qbm (j:=0) (by omega)]
 simp only [cond_false,je]
 exact Ev.bind hL .done
theorem qsG {t:qr} (h:qh8 t):Ev (fun n=>qgL n t) (bif tableB t then (⟨mnL t.Av,mxL t.Av⟩,0) else (⟨0,0⟩,1)):=by
 unfold qgL
 refine Ev.chk1 (qse h) (fun hb=>?_)
 have h1:=qpN hb
 have hl:=h.Av.len
 have hL:=(qod (Lf:=fun n (t':Int × Int) j=>qcG t n t'.1 t'.2 j) (xs:=t.Av) (step:=fun (m:Int × Int) y=>(if y<m.1 then y else m.1,if y > m.2 then y else m.2)) (fin:=fun t'=>(t'.1,t'.2,(t.Av.length:Int))) 1 (at0 t.Av 0,at0 t.Av 0) (fun _ _=>True) h1 trivial (fun _ _ _ _=>trivial)
  (fun n t=>by simp only [qcG,qh (jf _),cond_false])
  (fun j t hj _ X hX=>by simpa only [qcG,qe hj,cond_true,qaW hj,je,wS j] using hX)).1
 have hf:∀ (ys:List Int) (a b:Int),ys.foldl (fun (m:Int × Int) y=>(if y<m.1 then y else m.1,if y > m.2 then y else m.2)) (a,b)=(ys.foldl (fun m y=>if y<m then y else m) a,ys.foldl (fun m y=>if y > m then y else m) b):=by
  intro ys
  induction ys with
  | nil=>intro a b;rfl
  | cons y ys ih=>intro a b;simp only [List.foldl_cons,ih]
 rw [hf] at hL
 rw [show idx t.Av (0:Int)=some (at0 t.Av 0) from qbm (j:=0) (by omega)]
 simp only [je]
 exact Ev.bind hL .done
def tabB (pos:Bool) (t:qr):Bool:=tableB t&&(!pos || decide (0≤mnL t.Av))
def tablesB (ts:List qr) (pos:Bool):Bool:=decide (ts.length=2)&&ts.all (tabB pos)
theorem qlp {ts:List qr} {pos:Bool} (h:okL qh8 ts):Ev (fun n=>qfA n ts pos) (tablesB ts pos):=by
 have hl:=h.len
 have h1:Ev (fun n=>qaw n ts pos) (ixL (fun x=>!tabB pos x) ts) :=
  qdF (fin:=(ts.length:Int)) (Lf:=qL ts pos) (pf:=fun n x=>qgP n x pos) (fun x hx=>by
    unfold qgP tabB
    refine Ev.or (qsY (h.2 x hx)) (fun hb=>?_)
    cases pos
    ·exact .done
    ·refine Ev.tt rfl (Ev.bind (qww (qpN hb) (h.2 x hx).Av.len) (Ev.now ?_))
     congr 1
     rw [jk];simp)
   (fun n=>by simp only [qL,qh (jf _),cond_false])
   (fun n j x hx=>by
    have hj:=(List.getElem?_eq_some_iff.1 hx).1
    simp only [qL,qe hj,cond_true,qW hx,je,wS j])
   (fun n=>by unfold qaw;congr 1;funext o;cases o<;>rfl)
 unfold qfA qaT tablesB
 rw [show ((ts.length:Int)==2)=decide (ts.length=2) by rw [jk];simp;omega]
 refine Ev.andP (fun _=>Ev.bind (Ev.bind h1 (Ev.now rfl)) (Ev.now ?_))
 rw [qig,qns]
theorem qhB {ts:List qr} {pos:Bool} (h:okL qh8 ts):Ev (fun n=>qdc n ts pos) (tablesB ts pos):=by
 unfold qdc tablesB
 rw [show ((ts.length:Int) != 2) = !decide (ts.length=2) by rw [jk];simp;omega]
 simp only [qbw]
 refine Ev.andP (fun h2=>?_)
 have h2:ts.length=2:=by simpa using h2
 have hL:Ev (fun n=>qcD ts pos n 0) (bif allN (fun j=>tabB pos (gt ts j)) ts.length then .nxt (2:Int) else .ret false):=by
  refine qeZ (len:=ts.length) ?_ (fun j hj X hX=>Ev.succ ?_)
  ·rw [h2];exact Ev.succ (by simp only [qcD];exact .done)
  ·simp only [qcD,show decide ((j:Int)<2)=true by simp;omega,cond_true,qS hj,je,wS j]
   refine Ev.bind (qsG (qh4 h hj)) ?_
   unfold tabB
   cases tableB (gt ts j)
   ·exact .done
   ·simp only [cond_true,jJ]
    refine Ev.ff rfl ?_
    cases pos
    ·exact hX
    ·refine Ev.tt rfl ?_
     rw [show decide (mnL (gt ts j).Av<0) = !decide (0≤mnL (gt ts j).Av) by rw [jk];simp]
     simp only [qbw]
     exact Ev.okP1 (fun _=>hX)
 rw [qii]
 refine Ev.bind hL ?_
 cases allN (fun j=>tabB pos (gt ts j)) ts.length<;>exact .done
end Go.Fw


namespace Go.Fw
open Go
set_option maxRecDepth 100000
theorem qgr {α:Type} [Inhabited α] {xs:List α} {x:Int} (h0:0≤x) (h1:x<xs.length):idx xs x=some (gt xs x.toNat):=by
  have:=qS (xs:=xs) (j:=x.toNat) (by omega)
  rwa [←qpk h0] at this
theorem qqq {q:Nat→Bool} {m n:Nat} (h:m≤n):cntP q m≤cntP q n:=by
  induction n with
  | zero =>
    obtain rfl:m=0:=by omega
    exact jf _
  | succ n ih =>
    rcases Nat.lt_or_eq_of_le h with h|rfl
    · exact jS (ih (by omega)) (Nat.le_add_right _ _)
    · exact jf _
theorem qk6 {m k:Nat}:decide ((m:Int)≤(k:Int))=decide (m≤k):=by rw [jk];simp
theorem qsq {q:Nat→Bool} {n i j:Nat} (hi:i<j) (hj:j<n) (h1:q i=true) (h2:q j=true):2≤cntP q n:=by
  have e1:cntP q (i+1)=cntP q i+1:=by rw [cntP,h1];rfl
  have e2:cntP q (j+1)=cntP q j+1:=by rw [cntP,h2];rfl
  have m1:=qqq (q:=q) (show i+1≤j by omega)
  have m2:=qqq (q:=q) (show j+1≤n by omega)
  omega
theorem qrC {q:Nat→Bool} {n i j:Nat} (hn:cntP q n≤1) (hi:i<n) (hj:j<n) (h1:q i=true) (h2:q j=true):i=j:=by
  rcases Nat.lt_trichotomy i j with h|h|h
  · have:=qsq h hj h1 h2;omega
  · exact h
  · have:=qsq h hi h2 h1;omega
def clkIx (ps:List qX):Int:=ixL (fun p=>p.Be) ps
def clkAt (ps:List qX) (x:Int):Bool:=(gt ps x.toNat).Be
theorem qvP {c:qp} (hl:c.Am.length≤1048576):Ev (fun n=>qhe n c) (clkIx c.Am):=by
  unfold qhe
  refine Ev.bind (b:=clkIx c.Am) ?_ .done
  exact qdF (fin:=(c.Am.length:Int)) (Lf:=qN c.Am) (pf:=fun n x=>qhP n x) (fun _ _=>.done)
    (fun n=>by simp only [qN,qh (jf _),cond_false])
    (fun n j x hx=>by
      have hj:=(List.getElem?_eq_some_iff.1 hx).1
      simp only [qN,qe hj,cond_true,qW hx,je,wS j])
    (fun n=>by unfold qa9;congr 1;funext o;cases o<;>rfl)
def arcI (ps:List qX) (a:qF):Bool :=
  bif (a.Ar==4) || (a.Ar==5) then
    (a.Bh==0)&&(((a.Bi.length:Int)==0)&&(tablesB a.Az false&&((a.Au==clkIx ps)&&(decide (a.Au ≥ 0)&&(inI a.To 0 (ps.length-2)&&!(a.To==a.Au))))))
  else
    (tablesB a.Az true&&(tablesB a.Bi true&&((a.To==(ps.length:Int)-1)&&inI a.Au 0 (ps.length-2)))) &&
      (bif a.Ar==1 then !clkAt ps a.Au&&inI a.Bh 1 3 else (bif (a.Ar==2) || (a.Ar==3) then clkAt ps a.Au&&(a.Bh==0) else false))
def arcS (ps:List qX) (a:qF):Bool :=
  (inI a.Au 0 (ps.length-2)&&inI a.To 0 (ps.length-1)) &&
    (bif a.Ar==1 then !clkAt ps a.Au&&((a.To==(ps.length:Int)-1)&&(inI a.Bh 1 3&&(tablesB a.Az true&&tablesB a.Bi true)))
     else (bif (a.Ar==2) || (a.Ar==3) then clkAt ps a.Au&&((a.To==(ps.length:Int)-1)&&((a.Bh==0)&&(tablesB a.Az true&&tablesB a.Bi true)))
     else (bif (a.Ar==4) || (a.Ar==5) then clkAt ps a.Au&&(decide (a.To<(ps.length:Int)-1)&&(!clkAt ps a.To&&((a.Bh==0)&&(tablesB a.Az false&&((a.Bi.length:Int)==0))))) else false)))
theorem qom {c d:Bool}:(bif c then some c else some d)=some (c || d):=by cases c<;>rfl
theorem qsu {c d:Bool}:(bif c then some true else some d)=some (c || d):=by cases c<;>rfl
theorem qsI {n:Nat} {k:Int}:qjl n k=some ((k==4) || (k==5)):=by simp only [qjl,qsu]
theorem qvJ {c:qp} {a:qF} (h:okL qlT c.Am) (ha:qmP a) (hm:2≤c.Am.length):Ev (fun n=>qhc n c a) (arcI c.Am a):=by
  have hl:=h.len
  have e1:W64 ((c.Am.length:Int)-1)=(c.Am.length:Int)-1:=qb5 (by omega)
  have e2:W64 ((c.Am.length:Int)-1-1)=(c.Am.length:Int)-2:=by rw [qau (by omega) (by omega)];omega
  simp only [qhc,qsI,je,qgh,qcm,qbD,e1,e2,qd1,qom,bne]
  unfold arcI
  refine Ev.iff (fun _=>Ev.last ?_) (fun _=>Ev.guardB ?_ (fun hb=>?_))
  · exact Ev.andP fun _=>Ev.andP fun _=>Ev.and (qlp ha.Az) fun _=>Ev.bind (qvP hl) (Ev.andP fun _=>Ev.andP fun _=>Ev.andP fun _=>.done)
  · refine Ev.or (qlp ha.Az) fun _=>Ev.or (qlp ha.Bi) fun _=>?_
    simp only [qbw]
    exact Ev.orBP fun _=>.done
  · have hf:0≤a.Au∧a.Au≤(c.Am.length:Int)-2:=by
      simp only [ji,qcU] at hb
      exact hb.2.2.2
    simp only [qgr hf.1 (show a.Au<(c.Am.length:Int) by omega),je]
    exact Ev.iff (fun _=>Ev.andP fun _=>.done) (fun _=>Ev.iff (fun _=>Ev.andP fun _=>.done) (fun _=>.done))
theorem quH {c:qp} {a:qF} (h:okL qlT c.Am) (ha:qmP a) (hm:2≤c.Am.length):Ev (fun n=>qkm n c a) (arcS c.Am a):=by
  have hl:=h.len
  have e1:W64 ((c.Am.length:Int)-1)=(c.Am.length:Int)-1:=qb5 (by omega)
  have e2:W64 ((c.Am.length:Int)-1-1)=(c.Am.length:Int)-2:=by rw [qau (by omega) (by omega)];omega
  simp only [qkm,je,e1,e2,qer,qom]
  unfold arcS
  refine Ev.guardB ?_ (fun hb=>?_)
  · simp only [qbw]
    exact Ev.orBP fun _=>.done
  · have hf:(0≤a.Au∧a.Au≤(c.Am.length:Int)-2)∧(0≤a.To∧a.To≤(c.Am.length:Int)-1):=by
      simp only [ji,qcU] at hb
      exact hb
    simp only [qgr hf.1.1 (show a.Au<(c.Am.length:Int) by omega),qgr hf.2.1 (show a.To<(c.Am.length:Int) by omega),je]
    refine Ev.iff (fun _=>?_) (fun _=>Ev.iff (fun _=>?_) (fun _=>Ev.iff (fun _=>?_) (fun _=>.done)))
    · exact Ev.andP fun _=>Ev.andP fun _=>Ev.andP fun _=>Ev.and (qhB ha.Az) fun _=>Ev.last (qhB ha.Bi)
    · exact Ev.andP fun _=>Ev.andP fun _=>Ev.andP fun _=>Ev.and (qhB ha.Az) fun _=>Ev.last (qhB ha.Bi)
    · exact Ev.andP fun _=>Ev.andP fun _=>Ev.andP fun _=>Ev.andP fun _=>Ev.and (qhB ha.Az) fun _=>.done
theorem qn9 {ps:List qX} (h1:clkN ps ps.length≤1) {x:Int} (hx:0≤x):clkIx ps=x↔x<ps.length∧clkAt ps x=true:=by
  unfold clkIx ixL
  cases hf:ps.findIdx? (fun p=>p.Be) with
  | some j =>
    obtain ⟨hj,hp,_⟩:=List.findIdx?_eq_some_iff_getElem.1 hf
    have hpj:(gt ps j).Be=true:=by rw [qjJ hj];exact hp
    constructor
    · intro e
      have e:(j:Int)=x:=e
      subst e
      exact ⟨by omega,by unfold clkAt;rw [jx];exact hpj⟩
    · rintro ⟨hl,hc⟩
      have:=qrC h1 hj (show x.toNat<ps.length by omega) hpj hc
      show (j:Int)=x
      omega
  | none =>
    have hn:=List.findIdx?_eq_none_iff.1 hf
    constructor
    · intro e
      have e:(-1:Int)=x:=e
      omega
    · rintro ⟨hl,hc⟩
      have hxl:x.toNat<ps.length:=by omega
      unfold clkAt at hc
      rw [qjJ hxl] at hc
      have:=hn _ (jp hxl)
      rw [hc] at this
      exact absurd this (by decide)
theorem qjN {ps:List qX} (h:pinsB ps=true):(2≤ps.length∧ps.length≤5)∧clkAt ps ((ps.length:Int)-1)=false:=by
  unfold pinsB lenB at h
  simp only [ji,decide_eq_true_eq] at h
  refine ⟨h.2.1,?_⟩
  have h1:=qaK.1 h.1 (ps.length-1) (by omega)
  unfold pinB at h1
  rw [show decide (ps.length-1+1=ps.length)=true by simp;omega] at h1
  simp only [cond_true,ji,jO] at h1
  unfold clkAt
  rw [show ((ps.length:Int)-1).toNat=ps.length-1 by omega]
  exact h1.2.2
theorem qve {ps:List qX} {a:qF} (h:pinsB ps=true) (h1:clkN ps ps.length≤1):arcI ps a=arcS ps a:=by
  obtain ⟨⟨hm,hm5⟩,hlast⟩:=qjN h
  rw [jk]
  unfold arcI arcS
  cases h45:((a.Ar==4) || (a.Ar==5)) with
  | true =>
    have k1:(a.Ar==1)=false:=by simp at h45 ⊢;omega
    have k23:((a.Ar==2) || (a.Ar==3))=false:=by simp at h45 ⊢;omega
    rw [k1,k23]
    simp only [cond_true,cond_false,ji,qcU,decide_eq_true_eq,beq_iff_eq,jO,beq_eq_false_iff_ne,ne_eq]
    constructor
    · rintro ⟨hs,hsl,hd,hf,hf0,ht,hne⟩
      obtain ⟨hl,hc⟩:=(qn9 h1 hf0).1 hf.symm
      have hfl:a.Au ≠ (ps.length:Int)-1:=by intro e;rw [e,hlast] at hc;cases hc
      refine ⟨⟨⟨hf0,by omega⟩,⟨ht.1,by omega⟩⟩,hc,by omega,?_,hs,hd,hsl⟩
      cases hct:clkAt ps a.To with
      | false=>rfl
      | true =>
        have:=(qn9 h1 ht.1).2 ⟨by omega,hct⟩
        omega
    · rintro ⟨⟨hf,ht⟩,hc,hlt,hct,hs,hd,hsl⟩
      have:=(qn9 h1 hf.1).2 ⟨by omega,hc⟩
      refine ⟨hs,hsl,hd,this.symm,hf.1,⟨ht.1,by omega⟩,?_⟩
      intro e
      rw [e,hc] at hct
      cases hct
  | false =>
    simp only [cond_false,ji,qcU,beq_iff_eq]
    cases (a.Ar==1)
    · cases ((a.Ar==2) || (a.Ar==3))
      · simp
      · simp only [cond_true,cond_false,ji,beq_iff_eq]
        constructor
        · rintro ⟨⟨h1,h2,h3,h4⟩,h5,h6⟩
          exact ⟨⟨h4,by omega⟩,h5,h3,h6,h1,h2⟩
        · rintro ⟨⟨h4,h7⟩,h5,h3,h6,h1,h2⟩
          exact ⟨⟨h1,h2,h3,h4⟩,h5,h6⟩
    · simp only [cond_true,ji,qcU,jO,beq_iff_eq]
      constructor
      · rintro ⟨⟨h1,h2,h3,h4⟩,h5,h6⟩
        exact ⟨⟨h4,by omega⟩,h5,h3,h6,h1,h2⟩
      · rintro ⟨⟨h4,h7⟩,h5,h3,h6,h1,h2⟩
        exact ⟨⟨h1,h2,h3,h4⟩,h5,h6⟩
theorem qqv {ps:List qX} {a:qF} (h:arcS ps a=true):1≤a.Ar∧a.Ar≤5:=by
  unfold arcS at h
  rw [ji] at h
  have h:=h.2
  cases h1:(a.Ar==1)
  · cases h2:((a.Ar==2) || (a.Ar==3))
    · cases h4:((a.Ar==4) || (a.Ar==5))
      · rw [h1,h2,h4] at h;cases h
      · simp at h4;omega
    · simp at h2;omega
  · simp at h1;omega
def sameArc (x y:qF):Bool:=(x.Ar==y.Ar)&&((x.Au==y.Au)&&(x.To==y.To))
def newArc (ar:List qF) (j:Nat):Bool:=allN (fun i=>!sameArc (gt ar i) (gt ar j)) j
theorem qtz {c:qp} (h:okL qlT c.Am) (ha:okL qmP c.Ap) (hm:2≤c.Am.length):Ev (fun n=>qgl n c) (allN (fun j=>arcI c.Am (gt c.Ap j)&&newArc c.Ap j) c.Ap.length&&decide (c.Ap.length≤8)):=by
  have hl:=ha.len
  have h1:∀ (ar:List qF) (y:qF),ar.length≤1048576→Ev (fun n=>qaq n ar y) (ar.any fun x=>sameArc x y):=by
    intro ar y hl
    unfold qaq
    refine Ev.bind (b:=ixL (fun x=>sameArc x y) ar) (qdF (fin:=(ar.length:Int)) (Lf:=qI ar y) (pf:=fun n x=>qe5 n x y) (fun x _=>?_)
      (fun n=>by simp only [qI,qh (jf _),cond_false])
      (fun n j x hx=>by
        have hj:=(List.getElem?_eq_some_iff.1 hx).1
        simp only [qI,qe hj,cond_true,qW hx,je,wS j])
      (fun n=>by unfold qaY;congr 1;funext o;cases o<;>rfl)) (Ev.now (by rw [qig]))
    unfold qe5 sameArc
    exact Ev.andP fun _=>Ev.andP fun _=>.done
  have hL:Ev (fun n=>qcr c n 0) (bif allN (fun j=>arcI c.Am (gt c.Ap j)&&newArc c.Ap j) c.Ap.length then .nxt (c.Ap.length:Int) else .ret false):=by
    refine qeZ ?_ (fun j hj X hX=>Ev.succ ?_)
    · exact Ev.succ (by simp only [qcr,qh (jf _),cond_false];exact .done)
    · simp only [qcr,qe hj,cond_true,qS hj,je,qui (Nat.le_of_lt hj),wS j]
      refine Ev.chk (qvJ h (qh4 ha hj) hm) fun _=>Ev.chkT1 ?_ (fun _=>hX)
      refine (h1 _ _ (by simp;omega)).cast ?_
      rw [qu1 (Nat.le_of_lt hj)];rfl
  unfold qgl
  refine Ev.bind hL ?_
  cases allN (fun j=>arcI c.Am (gt c.Ap j)&&newArc c.Ap j) c.Ap.length
  · exact .done
  · refine Ev.now ?_
    show some (decide ((c.Ap.length:Int)≤((8:Nat):Int)))=some (true&&decide (c.Ap.length≤8))
    rw [qk6,jJ]
def hasB (ar:List qF) (k:Int):Bool:=ar.any fun a=>a.Ar==k
theorem qn7 {c:qp} {k:Int} (hl:c.Ap.length≤1048576):Ev (fun n=>qc8 n c k) (hasB c.Ap k):=by
  unfold qc8 qa1
  exact Ev.last (Ev.bind (b:=ixL (fun x=>x.Ar==k) c.Ap) (qdF (fin:=(c.Ap.length:Int)) (Lf:=qR c.Ap k) (pf:=fun n x=>qi4 n x k) (fun x _=>.done)
      (fun n=>by simp only [qR,qh (jf _),cond_false])
      (fun n j x hx=>by
        have hj:=(List.getElem?_eq_some_iff.1 hx).1
        simp only [qR,qe hj,cond_true,qW hx,je,wS j])
      (fun n=>by unfold qbl;congr 1;funext o;cases o<;>rfl)) (Ev.now (by rw [qig];rfl)))
def kindN (ar:List qF) (k:Nat) (j:Nat):Nat:=cntP (fun i=>(gt ar i).Ar==(k:Int)) j
theorem qqj {ar:List qF} {k:Nat}:decide (((kindN ar k ar.length:Nat):Int) > 0)=hasB ar k:=by
  rw [show decide (((kindN ar k ar.length:Nat):Int) > 0)=decide (0<kindN ar k ar.length) by simp]
  unfold kindN hasB
  rw [qrZ,qvR]
theorem qtm {ar:List qF} {k:Nat}:(((kindN ar k ar.length:Nat):Int)==0) = !hasB ar k:=by
  rw [←qqj,jk];simp
theorem qso {c:qp} (ha:okL qmP c.Ap) (hk:∀ j,j<c.Ap.length→1≤(gt c.Ap j).Ar∧(gt c.Ap j).Ar≤5):Ev (fun n=>qiu n c) (vecC (fun k=>kindN c.Ap k c.Ap.length) 6):=by
  have hl:=ha.len
  have hL:Ev (fun n=>qcZ c n (vecC (fun _=>0) 6) 0) (vecC (fun k=>kindN c.Ap k c.Ap.length) 6,(c.Ap.length:Int)):=by
    refine loopF (Lf:=qcZ c) (S:=fun j=>vecC (fun k=>kindN c.Ap k j) 6) (len:=c.Ap.length) (fun n=>?_) (fun j hj X hX=>?_)
    · simp only [qcZ,qh (jf _),cond_false]
    · obtain ⟨k1,k5⟩:=hk j hj
      have ek:(gt c.Ap j).Ar=(((gt c.Ap j).Ar.toNat:Nat):Int):=qpk (by omega)
      have hc:kindN c.Ap (gt c.Ap j).Ar.toNat j≤j:=qeR
      simp only [qcZ,qe hj,cond_true,qS hj,je,wS j]
      rw [ek,qjY (show (gt c.Ap j).Ar.toNat<6 by omega)]
      simp only [je]
      rw [qqH (c:=fun k=>kindN c.Ap k j) (by show kindN c.Ap _ j<_;omega)]
      have:vecC (fun i=>kindN c.Ap i j+(bif decide ((gt c.Ap j).Ar.toNat=i) then 1 else 0)) 6=vecC (fun k=>kindN c.Ap k (j+1)) 6:=by
        refine qjG (fun k _=>?_)
        show _=kindN c.Ap k j+(bif (gt c.Ap j).Ar==(k:Int) then 1 else 0)
        congr 2
        rw [jk];simp;omega
      rw [this]
      exact hX
  unfold qiu
  rw [show mkS 6 (0:Int)=some (vecC (fun _=>0) 6) from qmk (m:=6) (by omega)]
  simp only [je]
  exact Ev.bind hL .done
def kindB (c:qp):Bool :=
  bif c.Ar==1 then (((clkN c.Am c.Am.length:Nat):Int)==0)&&(((c.Ay.length:Int)==((2 ^ (c.Am.length-1):Nat):Int))&&(c.Ay.all fun x=>inI x 0 1))
  else bif c.Ar==2 then (((clkN c.Am c.Am.length:Nat):Int)==1)&&(((c.Ay.length:Int)==0)&&(!hasB c.Ap 1&&!(hasB c.Ap 2==hasB c.Ap 3)))
  else bif c.Ar==3 then (((clkN c.Am c.Am.length:Nat):Int)==1)&&(((c.Ay.length:Int)==0)&&(hasB c.Ap 1&&(hasB c.Ap 2&&!hasB c.Ap 3)))
  else false
theorem qqQ {c:qp} (h:kindB c=true):clkN c.Am c.Am.length≤1:=by
  unfold kindB at h
  cases h1:(c.Ar==1)
  · cases h2:(c.Ar==2)
    · cases h3:(c.Ar==3)
      · rw [h1,h2,h3] at h;cases h
      · rw [h1,h2,h3] at h
        simp only [cond_true,cond_false,ji,beq_iff_eq] at h
        omega
    · rw [h1,h2] at h
      simp only [cond_true,cond_false,ji,beq_iff_eq] at h
      omega
  · rw [h1] at h
    simp only [cond_true,ji,beq_iff_eq] at h
    omega
theorem qsv {m:Nat} (h1:2≤m) (h2:m≤5):shlS 1 (W64 ((m:Int)-1))=some ((2 ^ (m-1):Nat):Int)∧shlS 1 (IntKind.wrap .u64 (W64 ((m:Int)-1)))=some ((2 ^ (m-1):Nat):Int):=by
  have:m=2∨m=3∨m=4∨m=5:=by omega
  rcases this with rfl|rfl|rfl|rfl<;>exact ⟨by decide,by decide⟩
theorem qsg {c:qp} (hc:qml c) (hm:2≤c.Am.length) (hm5:c.Am.length≤5):Ev (fun n=>qfQ n c) (kindB c):=by
  have hl:=hc.Am.len
  have hL:Ev (fun n=>qaZ c n 0 0) (((clkN c.Am c.Am.length:Nat):Int),(c.Am.length:Int)):=by
    refine loopF (Lf:=qaZ c) (S:=fun j=>((clkN c.Am j:Nat):Int)) (len:=c.Am.length) (fun n=>?_) (fun j hj X hX=>?_)
    · simp only [qaZ,qh (jf _),cond_false]
    · have hn:clkN c.Am j≤j:=qeR
      simp only [qaZ,qe hj,cond_true,qS hj,je,wS j,qej (show clkN c.Am j<9223372036854775807 by omega)]
      have hck:clkN c.Am (j+1)=clkN c.Am j+(bif (gt c.Am j).Be then 1 else 0):=rfl
      rw [hck] at hX
      cases hc:(gt c.Am j).Be
      · rw [hc] at hX;exact Ev.ff rfl hX
      · rw [hc] at hX;exact Ev.tt rfl hX
  unfold qfQ kindB
  refine Ev.bind hL ?_
  simp only [qcm,qbD,je,(qsv hm hm5).1]
  have hal:=hc.Ap.len
  refine Ev.iff (fun _=>?_) (fun _=>Ev.iff (fun _=>?_) (fun _=>Ev.iff (fun _=>?_) (fun _=>.done)))
  · exact Ev.andP fun _=>Ev.andP fun _=>Ev.last (qfN hc.Ay.len)
  · exact Ev.andP fun _=>Ev.andP fun _=>Ev.bind (qn7 hal) (Ev.andP fun _=>Ev.bind (qn7 hal) (Ev.bind (qn7 hal) .done))
  · exact Ev.andP fun _=>Ev.andP fun _=>Ev.and (qn7 hal) fun _=>Ev.and (qn7 hal) fun _=>Ev.bind (qn7 hal) .done
def cellB (c:qp):Bool :=
  nameB c.As&&(pinsB c.Am&&((allN (fun j=>arcI c.Am (gt c.Ap j)&&newArc c.Ap j) c.Ap.length&&decide (c.Ap.length≤8))&&(inI c.Bo 0 100000&&(inI c.Bg 0 100000&&kindB c))))
theorem qt4 {c:qp} (hc:qml c):Ev (fun n=>qkc n c) (cellB c):=by
  simp only [qkc,qqu hc.As,qd1,je]
  unfold cellB
  refine Ev.andP fun _=>Ev.and (qsB hc.Am) fun hp=>?_
  obtain ⟨⟨hm,hm5⟩,_⟩:=qjN hp
  exact Ev.and (qtz hc.Am hc.Ap hm) fun _=>Ev.andP fun _=>Ev.andP fun _=>Ev.last (qsg hc hm hm5)
theorem qs8 {c:qp} (hc:qml c):Ev (fun n=>qkl n c) (cellB c):=by
  have hal:=hc.Ap.len
  have htl:=hc.Ay.len
  have e:cellB c=((pinsB c.Am&&(nameB c.As&&(decide (c.Ap.length≤8)&&(inI c.Bo 0 100000&&inI c.Bg 0 100000))))&&(allN (fun j=>arcS c.Am (gt c.Ap j)&&newArc c.Ap j) c.Ap.length&&kindB c)):=by
    unfold cellB
    cases hk:kindB c
    · simp
    · cases hp:pinsB c.Am
      · simp
      · rw [qhm (fun j _=>by rw [qve hp (qqQ hk)])]
        cases nameB c.As<;>cases allN (fun j=>arcS c.Am (gt c.Ap j)&&newArc c.Ap j) c.Ap.length<;>cases decide (c.Ap.length≤8)<;>cases inI c.Bo 0 100000<;>cases inI c.Bg 0 100000<;>rfl
  rw [e]
  unfold qkl
  refine Ev.bind (qsC hc.Am) ?_
  cases hp:pinsB c.Am
  · exact .done
  · obtain ⟨⟨hm,hm5⟩,_⟩:=qjN hp
    simp only [cond_true,jJ,Jj,cond_false]
    refine Ev.guardB ?_ (fun _=>?_)
    · simp only [qer,je,qbw]
      refine Ev.orB (qmM hc.As) fun _=>?_
      rw [show decide ((c.Ap.length:Int) > 8) = !decide (c.Ap.length≤8) by rw [jk];simp;omega,qbw]
      exact Ev.orBP fun _=>Ev.orBP fun _=>.done
    · have hL2:∀ j,j<c.Ap.length→Ev (fun n=>qdf c (j:Int) (gt c.Ap j) n 0) (bif newArc c.Ap j then .nxt (j:Int) else .ret false):=by
        intro j hj
        refine qeZ ?_ (fun i hi X hX=>Ev.succ ?_)
        · exact Ev.succ (by simp only [qdf,qh (jf _),cond_false];exact .done)
        · simp only [qdf,qe hi,cond_true,qS (show i<c.Ap.length by omega),je,wS i]
          unfold sameArc
          cases ((gt c.Ap i).Ar==(gt c.Ap j).Ar)
          · exact hX
          · cases ((gt c.Ap i).Au==(gt c.Ap j).Au)
            · exact hX
            · cases ((gt c.Ap i).To==(gt c.Ap j).To)
              · exact hX
              · exact .done
      have hL1:Ev (fun n=>qfm c n 0) (bif allN (fun j=>arcS c.Am (gt c.Ap j)&&newArc c.Ap j) c.Ap.length then .nxt (c.Ap.length:Int) else .ret false):=by
        refine qeZ ?_ (fun j hj X hX=>Ev.succ ?_)
        · exact Ev.succ (by simp only [qfm,qh (jf _),cond_false];exact .done)
        · simp only [qfm,qe hj,cond_true,qS hj,je,wS j]
          refine Ev.chk (quH hc.Am (qh4 hc.Ap hj) hm) fun _=>Ev.bind (hL2 j hj) ?_
          cases newArc c.Ap j
          · exact .done
          · exact hX
      have hL3:Ev (fun n=>qe8 c n 0) (bif (c.Ay.all fun x=>inI x 0 1) then .nxt (c.Ay.length:Int) else .ret false) :=
        qlS (fun n=>by simp only [qe8,qh (jf _),cond_false]) (fun j hj X hX=>by
          simp only [qe8,qe hj,cond_true,qaW hj,je,qer,wS j,qbw]
          exact Ev.okP1 fun _=>hX)
      refine Ev.bind hL1 ?_
      cases hA:allN (fun j=>arcS c.Am (gt c.Ap j)&&newArc c.Ap j) c.Ap.length
      · exact .done
      · have hk:∀ j,j<c.Ap.length→1≤(gt c.Ap j).Ar∧(gt c.Ap j).Ar≤5:=fun j hj=>by
          have:=qaK.1 hA j hj
          rw [ji] at this
          exact qqv this.1
        simp only [cond_true,jJ]
        refine Ev.bind (qso hc.Ap hk) ?_
        simp only [(qsv hm hm5).2,je,
          show idx (vecC (fun k=>kindN c.Ap k c.Ap.length) 6) (1:Int)=some ((kindN c.Ap 1 c.Ap.length:Nat):Int) from qjY (k:=1) (by omega),
          show idx (vecC (fun k=>kindN c.Ap k c.Ap.length) 6) (2:Int)=some ((kindN c.Ap 2 c.Ap.length:Nat):Int) from qjY (k:=2) (by omega),
          show idx (vecC (fun k=>kindN c.Ap k c.Ap.length) 6) (3:Int)=some ((kindN c.Ap 3 c.Ap.length:Nat):Int) from qjY (k:=3) (by omega),qqj,qtm]
        unfold kindB
        refine Ev.iff (fun _=>?_) (fun _=>Ev.iff (fun _=>?_) (fun _=>Ev.iff (fun _=>?_) (fun _=>.done)))
        · refine Ev.bind hL3 ?_
          cases (c.Ay.all fun x=>inI x 0 1)
          · exact Ev.now (by simp)
          · exact (Ev.andP (fun _=>.done)).cast (by rw [Bool.and_true])
        · refine (Ev.andP fun _=>Ev.andP fun _=>Ev.andP fun _=>.done).cast ?_
          cases (((clkN c.Am c.Am.length:Nat):Int)==1)<;>cases ((c.Ay.length:Int)==0)<;>cases hasB c.Ap ((1:Nat):Int)<;>cases hasB c.Ap ((2:Nat):Int)<;>cases hasB c.Ap ((3:Nat):Int)<;>rfl
        · refine (Ev.andP fun _=>Ev.andP fun _=>Ev.andP fun _=>Ev.andP fun _=>.done).cast ?_
          cases (((clkN c.Am c.Am.length:Nat):Int)==1)<;>cases ((c.Ay.length:Int)==0)<;>cases hasB c.Ap ((1:Nat):Int)<;>cases hasB c.Ap ((2:Nat):Int)<;>cases hasB c.Ap ((3:Nat):Int)<;>rfl
def libB (l:qn):Bool:=l.Ah.all cellB&&(decide (l.Ah.length≤8)&&namesB (l.Ah.map qp.As))
theorem qrh {l:qn} (h:qhj l):Ev (fun n=>qh5 n l) (libB l):=by
  have hl:=h.Ah.len
  have hL:Ev (fun n=>qcy l n ([]:List ByteArray) 0) (bif allN (fun j=>cellB (gt l.Ah j)) l.Ah.length then .nxt (l.Ah.map qp.As,(l.Ah.length:Int)) else .ret false):=by
    refine loopN (Lf:=qcy l) (S:=fun j=>(l.Ah.take j).map qp.As) (fun j=>cellB (gt l.Ah j)) (fun n=>?_) (fun j hj hp X hX=>?_)
    · simp only [qcy,qh (jf _),cond_false,jC]
    · simp only [qcy,qe hj,cond_true,qS hj,je,qkS hj hl,qfS (g:=qp.As) hj,wS j]
      exact Ev.chk1 (qt4 (qh4 h.Ah hj)) hX
  unfold qh5 libB
  rw [qii]
  refine Ev.bind hL ?_
  cases allN (fun j=>cellB (gt l.Ah j)) l.Ah.length
  · exact .done
  · simp only [cond_true,jJ,show decide ((l.Ah.length:Int)≤8)=decide (l.Ah.length≤8) from qk6 (k:=8)]
    exact Ev.andP fun _=>Ev.last (qiW (qmf h.Ah (fun x hx=>hx.As)))
end Go.Fw
