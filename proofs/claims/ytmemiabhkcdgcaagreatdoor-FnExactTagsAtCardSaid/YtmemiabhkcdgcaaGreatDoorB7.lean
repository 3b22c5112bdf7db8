/- By a program of mine (gen.py): for each function a plain function and the proof that the code computes it. -/
import Derived.Test.YtmemiabhkcdgcaaGreatDoorD1
import Derived.Test.YtmemiabhkcdgcaaGreatDoorFw27
import Derived.Test.YtmemiabhkcdgcaaGreatDoorFw38
open Option renaming bind_some → je, map_some → jT
open Nat renaming le_refl → jf, le_of_ble_eq_true → js, mul_le_mul_right → jt, lt_of_lt_of_le → jy, zero_le → jE, succ_mul → jM, le_trans → jS, add_zero → jX, zero_add → Jf
open List renaming getElem?_eq_getElem → jg, mem_cons_self → jm, mem_cons_of_mem → jn, length_append → jo, getElem?_append_left → jp, getElem_mem → jq, take_succ_eq_append_getElem → jr, getElem?_take → ju, length_singleton → jv, getElem?_append_right → jx, mem_of_getElem? → jz, getElem?_drop → jA, take_length → jB, drop_eq_getElem_cons → jC, getElem?_toArray → jD, getElem_of_mem → jF, eq_nil_of_length_eq_zero → jG, getD_eq_getElem?_getD → jH, map_append → jJ, getElem?_cons_succ → jK, size_toArray → jN, mem_append_left → jO, append_nil → jP, length_map → jQ, range_succ → jR, all_eq_true → jU, map_cons → jV, length_cons → jY, drop_eq_nil_of_le → jZ, ext_getElem → Ja, append_assoc → Jb, length_take → Jc, not_mem_nil → Jd, mem_cons → Je
open Go.Result renaming andThen_ok → jh
open Bool renaming and_eq_true → ji, eq_iff_iff → jj, true_and → jI, not_eq_true' → jL, not_true → Jg
open Go.Sem renaming run_bind → jk, run_pure → jl
open Int renaming toNat_natCast → jw
open Array renaming getElem?_append_left → jW

namespace Go.Fw
open Go Go.Proofs
open Go.RowKit (Below)
set_option maxRecDepth 100000
set_option maxHeartbeats 6400000
variable {n:Nat} {w:World} {cs1 cs2 cs3 cs4 cs5 cs6 cs7 cs8 cs9:List Value}
def qbC (n:Nat) (b:qi):Option Int :=
 (qc2 n (⟨b.Ab.Aa,b.Ab.Af,b.Ab.Ac⟩:qe)).bind fun r1 =>
 some (r1.length:Int)
theorem qeX {b:qi} (ha1:GoT.R w (old w) b cs1) {r:Int} (hF:qbC n b=some r):RetV Tryz.prog 70 [GoT.v qi cs1] w r:=by
 obtain ⟨p1,k1,p2,k2,p3,k3,p4,k4,p5,k5,rfl,s1,s2,s3,s4,s5⟩:=qO ha1
 exact zV 7 Tryz.func70 rfl fun h=>zSR (qt h rfl rfl fun w1 bb1 h=>X1 6 0 h rfl (zcL h hF (qeE (qaq _ (h.oldS s2) (h.oldS s3) (h.oldS s4))) rfl fun r1 w2 S1 p6 k6 h hF=>X0 3 rfl (ri h hF rfl)))
def qbO (b:qi) (list:(List Int)) (sorted:Bool):Nat→Int→Option (Flow Bool Int)
 | 0,_=>none
 | n+1,i1 =>
  bif decide (i1<(list.length:Int)) then
   (idx list i1).bind fun y1 =>
   (qbC n b).bind fun r1 =>
   (qaj n y1 0 (W64 (r1-1))).bind fun r2 =>
   bif (!r2) then some (.ret false) else
   bif sorted then
    bif decide (i1 > 0) then
     (idx list (W64 (i1-1))).bind fun y2 =>
     (idx list i1).bind fun y3 =>
     bif decide (y2 ≥ y3) then some (.ret false) else
     qbO b list sorted n (W64 (i1+1))
    else
     qbO b list sorted n (W64 (i1+1))
   else
    qbO b list sorted n (W64 (i1+1))
  else
   some (.nxt i1)
def qfp (n:Nat) (b:qi) (list:(List Int)) (sorted:Bool):Option Bool :=
 (qbO b list sorted n 0).bind fun o=>match o with
 | .ret r=>some r
 | .nxt _ =>
  some (decide ((list.length:Int)≤4))
theorem qhh {b:qi} {list:(List Int)} {sorted:Bool} (ha1:GoT.R w (old w) b cs1) (ha2:GoT.R w (old w) list cs2) {r:Bool} (hF:qfp n b list sorted=some r):RetV Tryz.prog 150 [GoT.v qi cs1,GoT.v (List Int) cs2,.bool sorted] w r:=by
 obtain ⟨p1,k1,p2,k2,p3,k3,p4,k4,p5,k5,rfl,s1,s2,s3,s4,s5⟩:=qO ha1
 obtain ⟨p6,k6,rfl,s6⟩:=ha2
 refine zV 45 Tryz.func150 rfl fun h=>zSR (qt h rfl rfl fun w1 bb1 h=>X0 7 rfl ?_)
 obtain ⟨o1,hF,hK1⟩:=qd hF
 refine qk (rL (fun m e w'=>∃ (i1:Int),qbO b list sorted m i1=some o1∧e=[(1,.slice p6 list.length k6),(2,.bool sorted),(3,.pointer (some ⟨bb1,0,none⟩)),(7,.int .i64 i1)]∧SH w w' [Ch.box bb1 (qah b p1 p2 p3 p4 p5 k1 k2 k3 k4 k5) 34]) n ⟨_,hF,rfl,h⟩ rfl ?_)
 rintro m1 e1 w2 ⟨i1,hF,rfl,h⟩
 rcases m1 with _|m1
 ·cases hF
 refine X0 8 rfl (qj rfl hF ?_ ?_)<;>intro hF
 ·refine X0 4 rfl (rD (zd2 rfl ?_))
  obtain ⟨y1,hy1,hF,he1,b1,_,q1,cs3,hp1,hq1,rfl,hc2⟩:=s6.ix hF
  refine zdxe hp1 hq1 he1 rfl (zdc 0 (hc2.below h.below) rfl (Y1 1 0 h rfl ?_))
  obtain ⟨r1,hr2,hF⟩:=qd hF
  refine qbU r1 (vsI _) (cB 70 rfl) (fun _ hb=>qeX ((h.ext hb).old ha1) hr2) rfl rfl rfl rfl (zd1 rfl ?_)
  obtain ⟨r2,hr3,hF⟩:=qd hF
  refine qbU r2 (vsB _) (cB 88 rfl) (fun _ hb=>qT  hr3) rfl rfl rfl rfl (zd2 rfl (qbo (t:=23) hF rfl ?_ ?_))<;>intro hF
  ·refine Y0 18 rfl (dN h fun w3 h=>qes rfl rfl (X0 4 rfl ?_))
   obtain rfl:=qb hF;replace hF:=hK1
   exact rb h hF rfl
  refine Y0 4 rfl (qbo (t:=25) hF rfl ?_ ?_)<;>intro hF
  ·refine Y0 8 rfl (qbo (t:=29) hF rfl ?_ ?_)<;>intro hF
   ·refine Y0 7 rfl ?_
    obtain ⟨y2,hy2,hF,he2,b2,_,q2,cs4,hp2,hq2,rfl,hc3⟩:=s6.ix hF
    refine zdxe hp2 hq2 he2 rfl (Y0 1 rfl (zdc 0 (hc3.below h.below) rfl (Y0 5 rfl ?_)))
    obtain ⟨y3,hy3,hF,he3,b3,_,q3,cs5,hp3,hq3,rfl,hc4⟩:=s6.ix hF
    refine zdxe hp3 hq3 he3 rfl (Y0 1 rfl (zdc 0 (hc4.below h.below) rfl (Y0 5 rfl (dN h fun w4 h=>qj rfl hF ?_ ?_))))<;>intro hF
    ·refine X0 4 rfl ?_
     obtain rfl:=qb hF;replace hF:=hK1
     exact rb h hF rfl
    exact X0 7 rfl (rK ⟨_,hF,rfl,h⟩ rfl)
   exact Y0 13 rfl (dN h fun w5 h=>qcf rfl rfl (X0 7 rfl (rK ⟨_,hF,rfl,h⟩ rfl)))
  exact Y0 19 rfl (dN h fun w6 h=>qcf rfl rfl (X0 7 rfl (rK ⟨_,hF,rfl,h⟩ rfl)))
 refine qn rfl ?_
 obtain rfl:=qb hF;replace hF:=hK1
 exact X0 7 rfl (rb h hF rfl)
def qgn (n:Nat) (b:qi) (a_e:qa):Option Bool :=
 (
  (qg8 n b).bind fun r4 =>
  bif (!r4) then some true else
  (qfp n b a_e.Av true).bind fun r5 =>
  bif (!r5) then some true else
  (qfp n b a_e.As false).bind fun r6 =>
  bif (!r6) then some true else
  (qfp n b a_e.To true).bind fun r7 =>
  some (!r7)).bind fun b1 =>
 bif b1 then some false else
 bif (a_e.Aq==1) then some (a_e.Bk==0) else
 bif (a_e.Aq==2) then
  (qaj n a_e.Bk 1 10).bind fun r1 =>
  some r1
 else
  bif (a_e.Aq==3) then
   bif (a_e.Aq==3) then
    (qaj n a_e.Bk 0 1000000000).bind fun r2 =>
    some r2
   else
    some false
  else
   bif (a_e.Aq==4) then
    (qaj n a_e.Bk 0 1000000000).bind fun r3 =>
    some r3
   else
    some false
theorem qlW {b:qi} {a_e:qa} (ha1:GoT.R w (old w) b cs1) (ha2:GoT.R w (old w) a_e cs2) {r:Bool} (hF:qgn n b a_e=some r):RetV Tryz.prog 87 [GoT.v qi cs1,GoT.v qa cs2] w r:=by
 obtain ⟨p1,k1,p2,k2,p3,k3,p4,k4,p5,k5,rfl,s1,s2,s3,s4,s5⟩:=qO ha1
 obtain ⟨p6,k6,p7,k7,p8,k8,rfl,s6,s7,s8⟩:=qD ha2
 refine zV 47 Tryz.func87 rfl fun h=>zSR (qt h rfl rfl fun w1 bb1 h=>qt h rfl rfl fun w2 bb2 h=>X0 4 rfl ?_)
 obtain ⟨KF1,hKF1,o1,hF,hK1⟩:=bindE hF
 refine qdh (fun e w'=>∃ (b1:Bool),KF1 b1=some r∧e=[(3,.pointer (some ⟨bb2,0,none⟩)),(28,.bool b1)]∧SH w w' [Ch.box bb2 (qhj a_e p6 p7 p8 k6 k7 k8) 106]) ?_ ?_
 ·refine X1 2 1 h rfl (zcB h hF (qkO (h.old ha1)) rfl fun r4 w6 h hF=>zp2 rfl (ql (t:=8) hF rfl ?_ ?_))<;>intro hF
  ·refine X0 21 rfl ?_
   replace h:=h.pick [0] rfl
   obtain rfl:=qb hF
   exact rG ⟨_,hK1,rfl,h⟩ rfl
  refine X2 7 1 0 h rfl (zcB h hF (qhh (h.old ha1) ⟨_,_,rfl,(h.oldS s6)⟩) rfl fun r5 w7 h hF=>X0 4 rfl (ql (t:=15) hF rfl ?_ ?_))<;>intro hF
  ·refine X0 14 rfl ?_
   replace h:=h.pick [0] rfl
   obtain rfl:=qb hF
   exact rG ⟨_,hK1,rfl,h⟩ rfl
  refine X2 7 1 0 h rfl (zcB h hF (qhh (h.old ha1) ⟨_,_,rfl,(h.oldS s7)⟩) rfl fun r6 w8 h hF=>X0 4 rfl (ql (t:=22) hF rfl ?_ ?_))<;>intro hF
  ·refine X0 7 rfl ?_
   replace h:=h.pick [0] rfl
   obtain rfl:=qb hF
   exact rG ⟨_,hK1,rfl,h⟩ rfl
  refine X2 7 1 0 h rfl (zcB h hF (qhh (h.old ha1) ⟨_,_,rfl,(h.oldS s8)⟩) rfl fun r7 w9 h hF=>X0 4 rfl ?_)
  replace h:=h.pick [0] rfl
  obtain rfl:=qb hF
  exact rG ⟨_,hK1,rfl,h⟩ rfl
 rintro e1 w10 ⟨b1,hF,rfl,h⟩
 subst hKF1
 refine qj rfl hF ?_ ?_<;>intro hF
 ·exact X0 4 rfl (rb h hF rfl)
 refine X1 13 0 h rfl (qj rfl hF ?_ ?_)<;>intro hF
 ·exact X1 7 0 h rfl (rb h hF rfl)
 refine X0 5 rfl (qj rfl hF ?_ ?_)<;>intro hF
 ·exact X1 4 0 h rfl (zcB h hF qT rfl fun r1 w3 h hF=>X0 2 rfl (rb h hF rfl))
 refine X0 6 rfl (qj rfl hF ?_ ?_)<;>intro hF
 ·refine qhW (qj rfl hF ?_ ?_)<;>intro hF
  ·exact X1 4 0 h rfl (zcB h hF qT rfl fun r2 w4 h hF=>X0 2 rfl (rb h hF rfl))
  exact X0 6 rfl (rb h hF rfl)
 refine X0 4 rfl (qj rfl hF ?_ ?_)<;>intro hF
 ·exact X1 4 0 h rfl (zcB h hF qT rfl fun r3 w5 h hF=>X0 2 rfl (rb h hF rfl))
 exact X0 6 rfl (rb h hF rfl)
def qbd (_:Nat) (list:(List Tplace)):Option Int :=
 some (list.length:Int)
theorem qgv {list:(List Tplace)} (ha1:GoT.R w (old w) list cs1) {r:Int} (hF:qbd n list=some r):RetV Tryz.prog 82 [GoT.v (List Tplace) cs1] w r:=by
 obtain ⟨p1,k1,rfl,s1⟩:=ha1
 exact zV 5 Tryz.func82 rfl fun h=>X0 10 rfl (ri h hF rfl)
def qiJ (n:Nat) (kind:Int) (value:Int):Option Bool :=
 bif (kind==1) then some (value==0) else
 bif (kind==2) then
  (qaw n value 1 10).bind fun r1 =>
  some r1
 else
  bif (kind==3) then
   bif (kind==3) then
    (qaw n value 0 1000000000).bind fun r2 =>
    some r2
   else
    some false
  else
   bif (kind==4) then
    (qaw n value 0 1000000000).bind fun r3 =>
    some r3
   else
    some false
theorem qnH {kind:Int} {value:Int}  {r:Bool} (hF:qiJ n kind value=some r):RetV Tryz.prog 139 [.int .i64 kind,.int .i64 value] w r:=by
 refine zV 19 Tryz.func139 rfl fun h=>X0 15 rfl (qj rfl hF ?_ ?_)<;>intro hF
 ·exact X0 6 rfl (rb h hF rfl)
 refine X0 5 rfl (qj rfl hF ?_ ?_)<;>intro hF
 ·exact X0 3 rfl (zcB h hF qam rfl fun r1 w1 h hF=>X0 2 rfl (rb h hF rfl))
 refine X0 6 rfl (qj rfl hF ?_ ?_)<;>intro hF
 ·refine qhW (qj rfl hF ?_ ?_)<;>intro hF
  ·exact X0 3 rfl (zcB h hF qam rfl fun r2 w2 h hF=>X0 2 rfl (rb h hF rfl))
  exact X0 6 rfl (rb h hF rfl)
 refine X0 4 rfl (qj rfl hF ?_ ?_)<;>intro hF
 ·exact X0 3 rfl (zcB h hF qam rfl fun r3 w3 h hF=>X0 2 rfl (rb h hF rfl))
 exact X0 6 rfl (rb h hF rfl)
def qad (v:(Option Tview)) (a_e:qa):Nat→Int→Option (Flow Bool Int)
 | 0,_=>none
 | n+1,i1 =>
  bif decide (i1<((3:Nat):Int)) then
   (idx ([a_e.Av,a_e.As,a_e.To]:List (List Int)) i1).bind fun y1 =>
   bif decide ((y1.length:Int) > 4) then some (.ret false) else
   (v).bind fun y2 =>
   (qbd n y2.places).bind fun r1 =>
   (qbB n y1 0 (W64 (r1-1))).bind fun r2 =>
   bif (!r2) then some (.ret false) else
   qad v a_e n (W64 (i1+1))
  else
   some (.nxt i1)
def qeb (n:Nat) (v:(Option Tview)) (a_e:qa):Option Bool :=
 (qad v a_e n 0).bind fun o=>match o with
 | .ret r=>some r
 | .nxt _ =>
  (qiJ n a_e.Aq a_e.Bk).bind fun r3 =>
  bif r3 then
   (qde n a_e.Av).bind fun r4 =>
   bif r4 then
    (qde n a_e.To).bind fun r5 =>
    some r5
   else
    some false
  else
   some false
theorem qj0 {v:(Option Tview)} {a_e:qa} (ha1:GoT.R w (old w) v cs1) (ha2:GoT.R w (old w) a_e cs2) {r:Bool} (hF:qeb n v a_e=some r):RetV Tryz.prog 78 [GoT.v (Option Tview) cs1,GoT.v qa cs2] w r:=by
 obtain ⟨p1,rfl,s1⟩:=qfe ha1
 obtain ⟨p2,k1,p3,k2,p4,k3,rfl,s2,s3,s4⟩:=qD ha2
 refine zV 49 Tryz.func78 rfl fun h=>zSR (qt h rfl rfl fun w1 bb1 h=>X3 11 0 0 0 h rfl (qtI qc [.tmp 8,.tmp 10,.tmp 12] _ ([a_e.Av,a_e.As,a_e.To]:List (List Int)) h rfl rfl rfl rfl rfl rfl rfl rfl rfl ⟨⟨_,_,rfl,s2⟩,⟨_,_,rfl,s3⟩,⟨_,_,rfl,s4⟩,trivial⟩ rfl fun w2 p5 S1 h=>X0 3 rfl ?_))
 obtain ⟨o1,hF,hK1⟩:=qd hF
 refine qk (rL (fun m e w'=>∃ (i1:Int),qad v a_e m i1=some o1∧e=[(0,.pointer p1),(3,.pointer (some ⟨bb1,0,none⟩)),(13,.slice p5 3 3),(14,.int .i64 ((3:Nat):Int)),(15,.int .i64 i1)]∧SH w w' [Ch.rowD w S1 (([a_e.Av,a_e.As,a_e.To]:List (List Int)):List (List Int)) p5 3,Ch.box bb1 (qhj a_e p2 p3 p4 k1 k2 k3) 106]) n ⟨_,hF,rfl,h⟩ rfl ?_)
 rintro m1 e1 w3 ⟨i1,hF,rfl,h⟩
 rcases m1 with _|m1
 ·cases hF
 refine X0 5 rfl (qj rfl hF ?_ ?_)<;>intro hF
 ·refine zKSBSR ?_
  obtain ⟨y1,hy1,hF⟩:=qd hF
  have he1:=qav hy1
  obtain ⟨b1,o_1,q1,cs3,hp1,hq1,-,hr1,hc2⟩:=h.atD 0 rfl hy1
  obtain ⟨p6,k4,rfl,s5⟩:=hr1
  refine zxe hp1 hq1 he1 rfl (zc 0 hc2 rfl (X0 8 rfl (ql (t:=22) hF rfl ?_ ?_)))<;>intro hF
  ·refine X0 11 rfl (qes rfl rfl (X0 4 rfl ?_))
   obtain rfl:=qb hF;replace hF:=hK1
   exact rb h hF rfl
  refine X0 5 rfl ?_
  obtain ⟨y2,hy2,hF⟩:=qd hF
  obtain ⟨b2,o_2,cs4,rfl,-,hr2,hc3⟩:=PtR.get s1 hy2
  obtain ⟨p7,k5,p8,k6,p9,k7,p10,k8,p11,k9,p12,k10,p13,k11,p14,k12,p15,k13,p16,k14,rfl,s6,s7,s8,s9,s10,s11,s12,s13,s14,s15⟩:=qhV hr2
  refine X0 4 rfl (zc 5 (hc3.below h.below) rfl (X0 1 rfl (zcI h hF (qgv ⟨_,_,rfl,(h.oldS s11)⟩) rfl fun r1 w4 h hF=>X0 3 rfl (zcB h hF (qcq ⟨_,_,rfl,(h.oldS s5)⟩) rfl fun r2 w5 h hF=>X0 4 rfl (qj rfl hF ?_ ?_)))))<;>intro hF
  ·refine X0 4 rfl ?_
   obtain rfl:=qb hF;replace hF:=hK1
   exact rb h hF rfl
  exact X0 6 rfl (rK ⟨_,hF,rfl,h⟩ rfl)
 refine qn rfl ?_
 obtain rfl:=qb hF;replace hF:=hK1
 refine X2 6 1 1 h rfl (zcB h hF qnH rfl fun r3 w6 h hF=>zp1 rfl (ql (t:=39) hF rfl ?_ ?_))<;>intro hF
 ·refine X1 5 1 h rfl (zcB h hF (qf7 ⟨_,_,rfl,(h.oldS s2)⟩) rfl fun r4 w7 h hF=>zp2 rfl (ql (t:=44) hF rfl ?_ ?_))<;>intro hF
  ·exact X1 5 1 h rfl (zcB h hF (qf7 ⟨_,_,rfl,(h.oldS s4)⟩) rfl fun r5 w8 h hF=>X0 3 rfl (rb h hF rfl))
  exact X0 6 rfl (rb h hF rfl)
 exact X0 11 rfl (rb h hF rfl)
def qeV (n:Nat) (a:qa) (left:Int):Option Int :=
 (qa2 n a.Av left).bind fun r1 =>
 bif decide (r1<0) then some (-1) else
 (qa2 n a.As r1).bind fun r2 =>
 bif decide (r2<0) then some (-1) else
 (qa2 n a.To r2).bind fun r3 =>
 bif decide (r3<0) then some (-1) else
 some r3
theorem qlS {a:qa} {left:Int} (ha1:GoT.R w (old w) a cs1) {r:Int} (hF:qeV n a left=some r):RetV Tryz.prog 52 [GoT.v qa cs1,.int .i64 left] w r:=by
 obtain ⟨p1,k1,p2,k2,p3,k3,rfl,s1,s2,s3⟩:=qD ha1
 refine zV 24 Tryz.func52 rfl fun h=>zSR (qt h rfl rfl fun w1 bb1 h=>X1 7 0 h rfl (zcI h hF (qaJ ⟨_,_,rfl,(h.oldS s1)⟩) rfl fun r1 w2 h hF=>X0 8 rfl (qj rfl hF ?_ ?_)))<;>intro hF
 ·exact X0 4 rfl (ri h hF rfl)
 refine X1 6 0 h rfl (zcI h hF (qaJ ⟨_,_,rfl,(h.oldS s2)⟩) rfl fun r2 w3 h hF=>X0 8 rfl (qj rfl hF ?_ ?_))<;>intro hF
 ·exact X0 4 rfl (ri h hF rfl)
 refine X1 6 0 h rfl (zcI h hF (qaJ ⟨_,_,rfl,(h.oldS s3)⟩) rfl fun r3 w4 h hF=>X0 8 rfl (qj rfl hF ?_ ?_))<;>intro hF
 ·exact X0 4 rfl (ri h hF rfl)
 exact X0 6 rfl (ri h hF rfl)
def qb6 (a:(List qa)):Nat→Int→Int→Option (Flow Int (Int × Int))
 | 0,_,_=>none
 | n+1,i1,i2 =>
  bif decide (i2<(a.length:Int)) then
   (idx a i2).bind fun y1 =>
   (qeV n y1 i1).bind fun r1 =>
   bif decide (r1<0) then some (.ret (-1)) else
   qb6 a n r1 (W64 (i2+1))
  else
   some (.nxt (i1,i2))
def qhs (n:Nat) (a:(List qa)) (left:Int):Option Int :=
 bif decide ((W64 (left-(a.length:Int)))<0) then some (-1) else
 (qb6 a n (W64 (left-(a.length:Int))) 0).bind fun o=>match o with
 | .ret r=>some r
 | .nxt (i1,_) =>
  some i1
theorem qlk {a:(List qa)} {left:Int} (ha1:GoT.R w (old w) a cs1) {r:Int} (hF:qhs n a left=some r):RetV Tryz.prog 19 [GoT.v (List qa) cs1,.int .i64 left] w r:=by
 obtain ⟨p1,k1,rfl,s1⟩:=ha1
 refine zV 27 Tryz.func19 rfl fun h=>X0 18 rfl (qj rfl hF ?_ ?_)<;>intro hF
 ·exact X0 4 rfl (ri h hF rfl)
 refine X0 6 rfl ?_
 obtain ⟨o1,hF,hK1⟩:=qd hF
 refine qk (rL (fun m e w'=>∃ (i1:Int) (i2:Int),qb6 a m i1 i2=some o1∧e=[(0,.slice p1 a.length k1),(1,.int .i64 i1),(5,.int .i64 i2)]∧SH w w' []) n ⟨_,_,hF,rfl,h⟩ rfl ?_)
 rintro m1 e1 w1 ⟨i1,i2,hF,rfl,h⟩
 rcases m1 with _|m1
 ·cases hF
 refine X0 8 rfl (qj rfl hF ?_ ?_)<;>intro hF
 ·refine X0 7 rfl ?_
  obtain ⟨y1,hy1,hF,he1,b1,_,q1,cs2,hp1,hq1,hr1,hc3⟩:=s1.ix hF
  obtain ⟨p2,k2,p3,k3,p4,k4,rfl,s2,s3,s4⟩:=qD hr1
  refine zxe hp1 hq1 he1 rfl (zc 0 (hc3.below h.below) rfl (zp1 rfl (zcI h hF (qlS (qcp y1 (h.oldS s2) (h.oldS s3) (h.oldS s4))) rfl fun r1 w2 h hF=>X0 7 rfl (qj rfl hF ?_ ?_))))<;>intro hF
  ·refine X0 4 rfl ?_
   obtain rfl:=qb hF;replace hF:=hK1
   exact ri h hF rfl
  exact X0 7 rfl (rK ⟨_,_,hF,rfl,h⟩ rfl)
 refine qn rfl ?_
 obtain rfl:=qb hF;replace hF:=hK1
 exact X0 5 rfl (ri h hF rfl)
def qe9 (n:Nat) (a:qa):Option qa :=
 (qaP n a.Av).bind fun r1 =>
 (qaP n a.As).bind fun r2 =>
 (qaP n a.To).bind fun r3 =>
 some (⟨a.Aq,a.Bk,r1,r2,r3⟩:qa)
theorem qlT {a:qa} (ha1:GoT.R w (old w) a cs1) {r:qa} (hF:qe9 n a=some r):RetV Tryz.prog 56 [GoT.v qa cs1] w r:=by
 obtain ⟨p1,k1,p2,k2,p3,k3,rfl,s1,s2,s3⟩:=qD ha1
 refine zV 23 Tryz.func56 rfl fun h=>zSR (qt h rfl rfl fun w1 bb1 h=>qE qc h rfl rfl rfl fun w2 bb2 h=>zNSR (qE qc h rfl rfl rfl fun w3 bb3 h=>X1 6 2 h rfl (zs 0 h rfl fun w4 h=>X1 6 2 h rfl (zs 0 h rfl fun w5 h=>X1 5 2 h rfl (zcL h hF (qaI ⟨_,_,rfl,(h.oldS s1)⟩) rfl fun r1 w6 S1 p4 k4 h hF=>zp1 rfl (zs 1 h rfl fun w7 h=>X1 5 3 h rfl (zcL h hF (qaI ⟨_,_,rfl,(h.oldS s2)⟩) rfl fun r2 w8 S2 p5 k5 h hF=>zp1 rfl (zs 2 h rfl fun w9 h=>X1 5 4 h rfl (zcL h hF (qaI ⟨_,_,rfl,(h.oldS s3)⟩) rfl fun r3 w10 S3 p6 k6 h hF=>zp1 rfl (zs 3 h rfl fun w11 h=>X1 4 3 h rfl (zs 4 h rfl fun w12 h=>qec ?_)))))))))))
 obtain rfl:=qb hF
 exact qaA qc (ρ:=qa) [GoT.v qa [.int .i64 a.Aq,.int .i64 a.Bk,.slice p4 r1.length k4,.slice p5 r2.length k5,.slice p6 r3.length k6]] h ⟨⟨_,_,_,rfl,rfl,h.box 4 rfl,rfl⟩,trivial⟩ (PV.done h (qaN (ql4 (⟨a.Aq,a.Bk,r1,r2,r3⟩:qa) h (qB (S:=fun _=>False) rfl) (qB (S:=fun _=>False) rfl) (qay 2 h rfl) (qay 1 h rfl) (qay 0 h rfl) (by rfl) (by rfl) (by rfl) (by rfl))))
def qc7 (a:(List qa)):Nat→(List qa)→Int→Option ((List qa) × Int)
 | 0,_,_=>none
 | n+1,x2,i1 =>
  bif decide (i1<(a.length:Int)) then
   (idx a i1).bind fun y1 =>
   (qe9 n y1).bind fun r1 =>
   (idx x2 i1).bind fun _ =>
   qc7 a n (setS x2 i1 r1) (W64 (i1+1))
  else
   some (x2,i1)
def qck (n:Nat) (a:(List qa)):Option (List qa) :=
 (mkS (a.length:Int) ((⟨0,0,[],[],[]⟩:qa):qa)).bind fun x1 =>
 (qc7 a n x1 0).bind fun o=>match o with
 | (x2,_) =>
  some x2
theorem qeD {a:(List qa)} (ha1:GoT.R w (old w) a cs1) {r:(List qa)} (hF:qck n a=some r):RetV Tryz.prog 21 [GoT.v (List qa) cs1] w r:=by
 obtain ⟨p1,k1,rfl,s1⟩:=ha1
 refine zV 23 Tryz.func21 rfl fun h=>X0 8 rfl ?_
 obtain ⟨x1,hx1,hF⟩:=qd hF
 obtain ⟨g1,g2,hx1⟩:=qbT hx1
 refine qcY qc qa h rfl rfl rfl rfl rfl rfl rfl rfl rfl g1 g2 hx1 rfl fun w1 S1 p2 h=>X0 7 rfl ?_
 obtain ⟨o1,hF,hK1⟩:=qd hF
 refine qk (rL (fun m e w'=>∃ (S2:Nat→Prop) (x2:(List qa)) (i1:Int),qc7 a m x2 i1=some o1∧e=[(0,.slice p1 a.length k1),(3,.slice p2 x1.length x1.length),(4,.int .i64 i1)]∧SH w w' [Ch.own S2 (x2:List qa) [.slice p2 x1.length x1.length]]) n ⟨_,_,_,hF,rfl,h⟩ rfl ?_)
 rintro m1 e1 w2 ⟨S2,x2,i1,hF,rfl,h⟩
 rcases m1 with _|m1
 ·cases hF
 refine X0 8 rfl (qj rfl hF ?_ ?_)<;>intro hF
 ·refine X0 8 rfl ?_
  obtain ⟨y1,hy1,hF,he1,b1,_,q1,cs2,hp1,hq1,hr1,hc2⟩:=s1.ix hF
  obtain ⟨p3,k2,p4,k3,p5,k4,rfl,s2,s3,s4⟩:=qD hr1
  refine zxe hp1 hq1 he1 rfl (zc 0 (hc2.below h.below) rfl (zcO h hF (qlT (qcp y1 (h.oldS s2) (h.oldS s3) (h.oldS s4))) rfl fun r1 w3 S3 cs3 h hF=>?_))
  obtain ⟨p6,k5,p7,k6,p8,k7,rfl,-,-,-⟩:=qD (h.own 0 rfl)
  obtain ⟨y2,hy2,hF⟩:=qd hF
  have he2:=qav hy2
  replace h:=h.lrn0 1 rfl
  obtain ⟨b2,o_2,q2,cs4,hp2,hq2,-,hr3,hc3⟩:=(qhH (h.lrnO 1 rfl)).1.at hy2
  have hr4:=hr3
  obtain ⟨p9,k8,p10,k9,p11,k10,rfl,s8,s9,s10⟩:=qD hr3
  replace h:=h.lrnAdd 1 rfl hr4
  refine zx hp2 hq2 ⟨he2.1,qw he2.2.1 (qhH (h.lrnO 1 rfl)).2⟩ rfl ?_
  replace h:=h.unlrn 1 rfl
  exact qj3 qc r1 h hy2 hp2 hq2 rfl rfl rfl rfl rfl fun w4 S4 h=>X0 7 rfl (rK ⟨_,_,_,hF,rfl,h⟩ rfl)
 refine qn rfl ?_
 obtain rfl:=qb hF;replace hF:=hK1
 refine X0 5 rfl ?_
 obtain rfl:=qb hF
 exact rO 0 h rfl ⟨rfl,trivial⟩
def qfd (n:Nat) (a:qa) (b:qa):Option Bool :=
 bif (a.Aq != b.Aq) then some false else
 bif (a.Bk != b.Bk) then some false else
 (qau n a.Av b.Av).bind fun r1 =>
 bif (!r1) then some false else
 (qau n a.As b.As).bind fun r2 =>
 bif (!r2) then some false else
 (qau n a.To b.To).bind fun r3 =>
 bif (!r3) then some false else
 some true
theorem qlZ {a:qa} {b:qa} (ha1:GoT.R w (old w) a cs1) (ha2:GoT.R w (old w) b cs2) {r:Bool} (hF:qfd n a b=some r):RetV Tryz.prog 61 [GoT.v qa cs1,GoT.v qa cs2] w r:=by
 obtain ⟨p1,k1,p2,k2,p3,k3,rfl,s1,s2,s3⟩:=qD ha1
 obtain ⟨p4,k4,p5,k5,p6,k6,rfl,s4,s5,s6⟩:=qD ha2
 refine zV 33 Tryz.func61 rfl fun h=>zSR (qt h rfl rfl fun w1 bb1 h=>qt h rfl rfl fun w2 bb2 h=>X2 11 1 0 h rfl (qj rfl hF ?_ ?_))<;>intro hF
 ·exact X0 4 rfl (rb h hF rfl)
 refine X2 10 1 0 h rfl (qj rfl hF ?_ ?_)<;>intro hF
 ·exact X0 4 rfl (rb h hF rfl)
 refine X2 8 1 0 h rfl (zcB h hF (qaz ⟨_,_,rfl,(h.oldS s1)⟩ ⟨_,_,rfl,(h.oldS s4)⟩) rfl fun r1 w3 h hF=>X0 2 rfl (qj rfl hF ?_ ?_))<;>intro hF
 ·exact X0 4 rfl (rb h hF rfl)
 refine X2 8 1 0 h rfl (zcB h hF (qaz ⟨_,_,rfl,(h.oldS s2)⟩ ⟨_,_,rfl,(h.oldS s5)⟩) rfl fun r2 w4 h hF=>X0 2 rfl (qj rfl hF ?_ ?_))<;>intro hF
 ·exact X0 4 rfl (rb h hF rfl)
 refine X2 8 1 0 h rfl (zcB h hF (qaz ⟨_,_,rfl,(h.oldS s3)⟩ ⟨_,_,rfl,(h.oldS s6)⟩) rfl fun r3 w5 h hF=>X0 2 rfl (qj rfl hF ?_ ?_))<;>intro hF
 ·exact X0 4 rfl (rb h hF rfl)
 exact X0 5 rfl (rb h hF rfl)
def qc6 (a:(List qa)) (b:(List qa)):Nat→Int→Option (Flow Bool Int)
 | 0,_=>none
 | n+1,i1 =>
  bif decide (i1<(a.length:Int)) then
   (idx a i1).bind fun y1 =>
   (idx b i1).bind fun y2 =>
   (qfd n y1 y2).bind fun r1 =>
   bif (!r1) then some (.ret false) else
   qc6 a b n (W64 (i1+1))
  else
   some (.nxt i1)
def qf0 (n:Nat) (a:(List qa)) (b:(List qa)):Option Bool :=
 bif ((a.length:Int) != (b.length:Int)) then some false else
 (qc6 a b n 0).bind fun o=>match o with
 | .ret r=>some r
 | .nxt _ =>
  some true
theorem qlA {a:(List qa)} {b:(List qa)} (ha1:GoT.R w (old w) a cs1) (ha2:GoT.R w (old w) b cs2) {r:Bool} (hF:qf0 n a b=some r):RetV Tryz.prog 24 [GoT.v (List qa) cs1,GoT.v (List qa) cs2] w r:=by
 obtain ⟨p1,k1,rfl,s1⟩:=ha1
 obtain ⟨p2,k2,rfl,s2⟩:=ha2
 refine zV 27 Tryz.func24 rfl fun h=>X0 13 rfl (qj rfl hF ?_ ?_)<;>intro hF
 ·exact X0 4 rfl (rb h hF rfl)
 refine X0 6 rfl ?_
 obtain ⟨o1,hF,hK1⟩:=qd hF
 refine qk (rL (fun m e w'=>∃ (i1:Int),qc6 a b m i1=some o1∧e=[(0,.slice p1 a.length k1),(1,.slice p2 b.length k2),(5,.int .i64 i1)]∧SH w w' []) n ⟨_,hF,rfl,h⟩ rfl ?_)
 rintro m1 e1 w1 ⟨i1,hF,rfl,h⟩
 rcases m1 with _|m1
 ·cases hF
 refine X0 8 rfl (qj rfl hF ?_ ?_)<;>intro hF
 ·refine X0 4 rfl (rD (zd2 rfl ?_))
  obtain ⟨y1,hy1,hF,he1,b1,_,q1,cs3,hp1,hq1,hr1,hc3⟩:=s1.ix hF
  obtain ⟨p3,k3,p4,k4,p5,k5,rfl,s3,s4,s5⟩:=qD hr1
  refine zdxe hp1 hq1 he1 rfl (zdc 0 (hc3.below h.below) rfl (zd2 rfl ?_))
  obtain ⟨y2,hy2,hF,he2,b2,_,q2,cs4,hp2,hq2,hr2,hc4⟩:=s2.ix hF
  obtain ⟨p6,k6,p7,k7,p8,k8,rfl,s6,s7,s8⟩:=qD hr2
  refine zdxe hp2 hq2 he2 rfl (zdc 0 (hc4.below h.below) rfl ?_)
  obtain ⟨r1,hr3,hF⟩:=qd hF
  refine qbU r1 (vsB _) (cB 61 rfl) (fun _ hb=>qlZ (qcp y1 ((h.ext hb).oldS s3) ((h.ext hb).oldS s4) ((h.ext hb).oldS s5)) (qcp y2 ((h.ext hb).oldS s6) ((h.ext hb).oldS s7) ((h.ext hb).oldS s8)) hr3) rfl rfl rfl rfl (zd1 rfl (dN h fun w2 h=>qj rfl hF ?_ ?_))<;>intro hF
  ·refine X0 4 rfl ?_
   obtain rfl:=qb hF;replace hF:=hK1
   exact rb h hF rfl
  exact X0 7 rfl (rK ⟨_,hF,rfl,h⟩ rfl)
 refine qn rfl ?_
 obtain rfl:=qb hF;replace hF:=hK1
 exact X0 4 rfl (rb h hF rfl)
end Go.Fw


namespace Go.Fw
open Go Go.Proofs
open Go.RowKit (Below)
set_option maxRecDepth 100000
set_option maxHeartbeats 6400000
variable {n:Nat} {w:World} {cs1 cs2 cs3 cs4 cs5 cs6 cs7 cs8 cs9:List Value}
def qbR (s:(List Int)) (v:Int):Nat→Int→Option (Flow Int Int)
 | 0,_=>none
 | n+1,i1 =>
  bif decide (i1<(s.length:Int)) then
   (idx s i1).bind fun y1 =>
   bif (v==y1) then some (.ret i1) else
   qbR s v n (W64 (i1+1))
  else
   some (.nxt i1)
def qgY (n:Nat) (s:(List Int)) (v:Int):Option Int :=
 (qbR s v n 0).bind fun o=>match o with
 | .ret r=>some r
 | .nxt _ =>
  some (-1)
theorem qkS {s:(List Int)} {v:Int} (ha1:GoT.R w (old w) s cs1) {r:Int} (hF:qgY n s v=some r):RetV Tryz.prog 143 [GoT.v (List Int) cs1,.int .i64 v] w r:=by
 obtain ⟨p1,k1,rfl,s1⟩:=ha1
 refine zV 19 Tryz.func143 rfl fun h=>X0 11 rfl ?_
 obtain ⟨o1,hF,hK1⟩:=qd hF
 refine qk (rL (fun m e w'=>∃ (i1:Int),qbR s v m i1=some o1∧e=[(0,.slice p1 s.length k1),(1,.int .i64 v),(7,.int .i64 (s.length:Int)),(8,.int .i64 i1)]∧SH w w' []) n ⟨_,hF,rfl,h⟩ rfl ?_)
 rintro m1 e1 w1 ⟨i1,hF,rfl,h⟩
 rcases m1 with _|m1
 ·cases hF
 refine X0 5 rfl (qj rfl hF ?_ ?_)<;>intro hF
 ·refine X0 13 rfl ?_
  obtain ⟨y1,hy1,hF,he1,b1,_,q1,cs2,hp1,hq1,rfl,hc2⟩:=s1.ix hF
  refine zxe hp1 hq1 he1 rfl (zc 0 (hc2.below h.below) rfl (X0 2 rfl (qj rfl hF ?_ ?_)))<;>intro hF
  ·refine X0 5 rfl ?_
   obtain rfl:=qb hF;replace hF:=hK1
   exact ri h hF rfl
  exact X0 6 rfl (rK ⟨_,hF,rfl,h⟩ rfl)
 refine qn rfl ?_
 obtain rfl:=qb hF;replace hF:=hK1
 exact X0 4 rfl (ri h hF rfl)
def qd9 (n:Nat) (s:(List Int)) (v:Int):Option Bool :=
 (qgY n s v).bind fun r1 =>
 some (decide (r1 ≥ 0))
theorem qj2 {s:(List Int)} {v:Int} (ha1:GoT.R w (old w) s cs1) {r:Bool} (hF:qd9 n s v=some r):RetV Tryz.prog 83 [GoT.v (List Int) cs1,.int .i64 v] w r:=by
 obtain ⟨p1,k1,rfl,s1⟩:=ha1
 exact zV 9 Tryz.func83 rfl fun h=>X0 8 rfl (zcI h hF (qkS ⟨_,_,rfl,(h.oldS s1)⟩) rfl fun r1 w1 h hF=>X0 3 rfl (rb h hF rfl))
def qbK (n:Nat) (a_e:qa) (found:Int) (place:Int):Option Int :=
 bif decide (found ≥ 0) then
  (qaB n a_e.As).bind fun r1 =>
  bif decide (found<r1) then
   (idx a_e.As found).bind fun y1 =>
   bif (y1==place) then some (W64 (found+1)) else
   some found
  else
   some found
 else
  some found
theorem qdB {a_e:qa} {found:Int} {place:Int} (ha1:GoT.R w (old w) a_e cs1) {r:Int} (hF:qbK n a_e found place=some r):RetV Tryz.prog 86 [GoT.v qa cs1,.int .i64 found,.int .i64 place] w r:=by
 obtain ⟨p1,k1,p2,k2,p3,k3,rfl,s1,s2,s3⟩:=qD ha1
 refine zV 28 Tryz.func86 rfl fun h=>zSR (qt h rfl rfl fun w1 bb1 h=>X0 8 rfl (ql (t:=9) hF rfl ?_ ?_))<;>intro hF
 ·refine X1 7 0 h rfl (zcI h hF (qbz ⟨_,_,rfl,(h.oldS s2)⟩) rfl fun r1 w2 h hF=>X0 4 rfl (ql (t:=16) hF rfl ?_ ?_))<;>intro hF
  ·refine X1 7 0 h rfl ?_
   obtain ⟨y1,hy1,hF,he1,b1,_,q1,cs2,hp1,hq1,rfl,hc1⟩:=s2.ix hF
   refine zxe hp1 hq1 he1 rfl (X0 1 rfl (zc 0 (hc1.below h.below) rfl (X0 6 rfl (qj rfl hF ?_ ?_))))<;>intro hF
   ·exact X0 6 rfl (ri h hF rfl)
   exact X0 6 rfl (ri h hF rfl)
  exact X0 9 rfl (qcf rfl rfl (X0 6 rfl (ri h hF rfl)))
 exact X0 16 rfl (qcf rfl rfl (X0 6 rfl (ri h hF rfl)))
def qet (n:Nat) (a_e:qa) (place:Int):Option Int :=
 bif decide ((a_e.Av.length:Int) > 0) then
  (qd9 n a_e.Av place).bind fun r1 =>
  bif (!r1) then some (-1) else
  (qbK n a_e 0 place).bind fun r2 =>
  some r2
 else
  (qbK n a_e 0 place).bind fun r3 =>
  some r3
theorem qkb {a_e:qa} {place:Int} (ha1:GoT.R w (old w) a_e cs1) {r:Int} (hF:qet n a_e place=some r):RetV Tryz.prog 85 [GoT.v qa cs1,.int .i64 place] w r:=by
 obtain ⟨p1,k1,p2,k2,p3,k3,rfl,s1,s2,s3⟩:=qD ha1
 refine zV 19 Tryz.func85 rfl fun h=>zSR (qt h rfl rfl fun w1 bb1 h=>X1 10 0 h rfl (ql (t:=9) hF rfl ?_ ?_))<;>intro hF
 ·refine X1 7 0 h rfl (zcB h hF (qj2 ⟨_,_,rfl,(h.oldS s1)⟩) rfl fun r1 w2 h hF=>X0 4 rfl (qj rfl hF ?_ ?_))<;>intro hF
  ·exact X0 4 rfl (ri h hF rfl)
  exact X1 5 0 h rfl (zcI h hF (qdB (h.old ha1)) rfl fun r2 w3 h hF=>X0 2 rfl (ri h hF rfl))
 exact X0 7 rfl (qcf rfl rfl (X1 5 0 h rfl (zcI h hF (qdB (h.old ha1)) rfl fun r3 w4 h hF=>X0 2 rfl (ri h hF rfl))))
def qeO (y1:qa) (x2:(List Int)):Nat→Int→Int→Option (Int × Int)
 | 0,_,_=>none
 | n+1,i2,i3 =>
  bif decide (i3<(x2.length:Int)) then
   (idx x2 i3).bind fun y3 =>
   (qbK n y1 i2 y3).bind fun r2 =>
   qeO y1 x2 n r2 (W64 (i3+1))
  else
   some (i2,i3)
def qeK (list:(List qa)) (path:(List Int)):Nat→(List Int)→Int→Option ((List Int) × Int)
 | 0,_,_=>none
 | n+1,x1,i1 =>
  bif decide (i1<(list.length:Int)) then
   (idx list i1).bind fun y1 =>
   (idx path 0).bind fun y2 =>
   (qet n y1 y2).bind fun r1 =>
   (subS path 1 (path.length:Int)).bind fun x2 =>
   (qeO y1 x2 n r1 0).bind fun o=>match o with
   | (i2,_) =>
    (appS x1 ([i2]:List Int)).bind fun x3 =>
    qeK list path n x3 (W64 (i1+1))
  else
   some (x1,i1)
def qhS (n:Nat) (list:(List qa)) (path:(List Int)):Option (List Int) :=
 (qeK list path n ([]:List Int) 0).bind fun o=>match o with
 | (x1,_) =>
  some x1
theorem qo8 {list:(List qa)} {path:(List Int)} (ha1:GoT.R w (old w) list cs1) (ha2:GoT.R w (old w) path cs2) {r:(List Int)} (hF:qhS n list path=some r):RetV Tryz.prog 33 [GoT.v (List qa) cs1,GoT.v (List Int) cs2] w r:=by
 obtain ⟨p1,k1,rfl,s1⟩:=ha1
 obtain ⟨p2,k2,rfl,s2⟩:=ha2
 refine zV 40 Tryz.func33 rfl fun h=>X0 15 rfl ?_
 replace h:=h.nil (α:=Int)
 obtain ⟨o1,hF,hK1⟩:=qd hF
 refine qk (rL (fun m e w'=>∃ (S1:Nat→Prop) (p3:Option Addr) (ln1:Nat) (k3:Nat) (x1:(List Int)) (i1:Int),qeK list path m x1 i1=some o1∧e=[(1,.slice p2 path.length k2),(5,.slice p3 ln1 k3),(11,.slice p1 list.length k1),(12,.int .i64 (list.length:Int)),(13,.int .i64 i1)]∧SH w w' [Ch.own S1 (x1:List Int) [.slice p3 ln1 k3]]) n ⟨_,_,_,_,_,_,hF,rfl,h⟩ rfl ?_)
 rintro m1 e1 w1 ⟨S1,p3,ln1,k3,x1,i1,hF,rfl,h⟩
 obtain rfl:=(h.sl 0 rfl).2
 rcases m1 with _|m1
 ·cases hF
 refine X0 5 rfl (qj rfl hF ?_ ?_)<;>intro hF
 ·refine zKSBSR ?_
  obtain ⟨y1,hy1,hF,he1,b1,_,q1,cs3,hp1,hq1,hr1,hc2⟩:=s1.ix hF
  obtain ⟨p4,k4,p5,k5,p6,k6,rfl,s3,s4,s5⟩:=qD hr1
  refine zxe hp1 hq1 he1 rfl (zc 0 (hc2.below h.below) rfl (qE qc h rfl rfl rfl fun w2 bb1 h=>zs 0 h rfl fun w3 h=>zNS (rD (Y1 1 0 h rfl ?_))))
  refine zd1 rfl ?_
  obtain ⟨y2,hy2,hF,he2,b2,_,q2,cs4,hp2,hq2,rfl,hc3⟩:=s2.ix hF
  refine zdxe hp2 hq2 he2 rfl (zdc 0 (hc3.below h.below) rfl ?_)
  obtain ⟨r1,hr3,hF⟩:=qd hF
  refine qbU r1 (vsI _) (cB 85 rfl) (fun _ hb=>qkb (qcp y1 ((h.ext hb).oldS s3) ((h.ext hb).oldS s4) ((h.ext hb).oldS s5)) hr3) rfl rfl rfl rfl (zd1 rfl (dN h fun w4 h=>X0 4 rfl ?_))
  obtain ⟨x2,hx1,hF⟩:=qd hF
  obtain ⟨p7,k7,hp3,hk1,hl1,g1⟩:=qrN (h.oldS s2) hx1
  refine r_v (qeH qc rfl rfl rfl (qr0 g1 rfl) hp3 hk1 hl1 rfl rfl rfl rfl) rfl ?_
  have s6:=qsc s2 hx1 hp3 hk1
  refine X0 3 rfl ?_
  obtain ⟨o2,hF,hK2⟩:=qd hF
  refine qk (rL (fun m e w'=>∃ (i2:Int) (i3:Int),qeO y1 x2 m i2 i3=some o2∧e=[(1,.slice p2 path.length k2),(5,.slice p3 x1.length k3),(7,.pointer (some ⟨bb1,0,none⟩)),(8,.int .i64 i2),(11,.slice p1 list.length k1),(12,.int .i64 (list.length:Int)),(13,.int .i64 i1),(23,.slice p7 x2.length k7),(24,.int .i64 (x2.length:Int)),(25,.int .i64 i3)]∧SH w w' [Ch.box bb1 (qhj y1 p4 p5 p6 k4 k5 k6) 106,Ch.own S1 (x1:List Int) [.slice p3 x1.length k3]]) m1 ⟨_,_,hF,rfl,h⟩ rfl ?_)
  rintro m2 e2 w5 ⟨i2,i3,hF,rfl,h⟩
  rcases m2 with _|m2
  ·cases hF
  refine X0 5 rfl (qj rfl hF ?_ ?_)<;>intro hF
  ·refine zKSBSR ?_
   obtain ⟨y3,hy3,hF,he3,b3,_,q3,cs5,hp4,hq3,rfl,hc5⟩:=s6.ix hF
   exact zxe hp4 hq3 he3 rfl (zc 0 (hc5.below h.below) rfl (X1 6 0 h rfl (zcI h hF (qdB (qcp y1 (h.oldS s3) (h.oldS s4) (h.oldS s5))) rfl fun r2 w6 h hF=>X0 7 rfl (rK ⟨_,_,hF,rfl,h⟩ rfl))))
  refine qn rfl ?_
  obtain rfl:=qb hF;replace hF:=hK2
  refine X0 3 rfl (qN qc [.tmp 35] _ ([i2]:List Int) h rfl rfl rfl rfl rfl rfl rfl rfl rfl ⟨rfl,trivial⟩ rfl fun w7 p8 S2 h=>?_)
  obtain ⟨x3,hx2,hF⟩:=qd hF
  obtain ⟨g2,hx2⟩:=qan hx2
  refine qcr qc 2 h rfl (h.sl 0 rfl).1 (h.sl 0 rfl).2 rfl rfl rfl rfl rfl rfl rfl rfl rfl g2 hx2 rfl fun w8 p9 k8 S3 h=>X0 7 rfl ?_
  replace h:=h.pick [2] rfl
  exact rK ⟨_,_,_,_,_,_,hF,rfl,h⟩ rfl
 refine qn rfl ?_
 obtain rfl:=qb hF;replace hF:=hK1
 refine X0 5 rfl ?_
 obtain rfl:=qb hF
 exact rO 0 h rfl ⟨rfl,trivial⟩
end Go.Fw


namespace Go.Fw
open Go Go.Proofs
open Go.RowKit (Below)
set_option maxRecDepth 100000
set_option maxHeartbeats 6400000
variable {n:Nat} {w:World} {cs1 cs2 cs3 cs4 cs5 cs6 cs7 cs8 cs9:List Value}
def qcS (r2:(List Int)):Nat→(List Int)→Int→Option ((List Int) × Int)
 | 0,_,_=>none
 | n+1,x3,i2 =>
  bif decide (i2<(r2.length:Int)) then
   (idx r2 i2).bind fun y1 =>
   (idx x3 y1).bind fun y2 =>
   (idx x3 y1).bind fun _ =>
   qcS r2 n (setS x3 y1 (W64 (y2+1))) (W64 (i2+1))
  else
   some (x3,i2)
def qbI (r3:(List Int)):Nat→(List Int)→(List Int)→Int→Option ((List Int) × (List Int) × Int)
 | 0,_,_,_=>none
 | n+1,x8,x9,i5 =>
  bif decide (i5<(r3.length:Int)) then
   (idx r3 i5).bind fun y6 =>
   (idx x9 y6).bind fun y7 =>
   (idx x9 y6).bind fun _ =>
   (idx (setS x9 y6 (W64 (y7-1))) y6).bind fun y9 =>
   bif (y9==0) then
    (appS x8 ([y6]:List Int)).bind fun x10 =>
    qbI r3 n x10 (setS x9 y6 (W64 (y7-1))) (W64 (i5+1))
   else
    qbI r3 n x8 (setS x9 y6 (W64 (y7-1))) (W64 (i5+1))
  else
   some (x8,x9,i5)
def qcW (a_0:qi):Nat→(List Int)→(List Int)→Int→Option ((List Int) × (List Int) × Int)
 | 0,_,_,_=>none
 | n+1,x6,x7,i4 =>
  bif decide (i4<(x6.length:Int)) then
   (idx x6 i4).bind fun y5 =>
   (qfS n a_0 y5).bind fun r3 =>
   (qbI r3 n x6 x7 0).bind fun o=>match o with
   | (x8,x9,_) =>
    qcW a_0 n x8 x9 (W64 (i4+1))
  else
   some (x6,x7,i4)
def qcb (r1:Int) (x2:(List Int)):Nat→(List Int)→Int→Option ((List Int) × Int)
 | 0,_,_=>none
 | n+1,x4,i3 =>
  bif decide (i3<r1) then
   (idx x2 i3).bind fun y4 =>
   bif (y4==0) then
    (appS x4 ([i3]:List Int)).bind fun x5 =>
    qcb r1 x2 n x5 (W64 (i3+1))
   else
    qcb r1 x2 n x4 (W64 (i3+1))
  else
   some (x4,i3)
def qcV (a_0:qi) (r1:Int):Nat→(List Int)→Int→Option ((List Int) × Int)
 | 0,_,_=>none
 | n+1,x2,i1 =>
  bif decide (i1<r1) then
   (qfS n a_0 i1).bind fun r2 =>
   (qcS r2 n x2 0).bind fun o=>match o with
   | (x3,_) =>
    qcV a_0 r1 n x3 (W64 (i1+1))
  else
   some (x2,i1)
def qh3 (n:Nat) (a_0:qi):Option ((List Int) × Bool) :=
 (qbC n a_0).bind fun r1 =>
 (mkS r1 (0:Int)).bind fun x1 =>
 (qcV a_0 r1 n x1 0).bind fun o=>match o with
 | (x2,_) =>
  (qcb r1 x2 n ([]:List Int) 0).bind fun o=>match o with
  | (x4,_) =>
   (qcW a_0 n x4 x2 0).bind fun o=>match o with
   | (x6,_,_) =>
    some (x6,((x6.length:Int)==r1))
theorem qnt {a_0:qi} (ha1:GoT.R w (old w) a_0 cs1) {r:((List Int) × Bool)} (hF:qh3 n a_0=some r):RetV Tryz.prog 45 [GoT.v qi cs1] w r:=by
 obtain ⟨p1,k1,p2,k2,p3,k3,p4,k4,p5,k5,rfl,s1,s2,s3,s4,s5⟩:=qO ha1
 refine zV 101 Tryz.func45 rfl fun h=>zSR (qt h rfl rfl fun w1 bb1 h=>X1 6 0 h rfl (zcI h hF (qeX (h.old ha1)) rfl fun r1 w2 h hF=>X0 5 rfl ?_))
 obtain ⟨x1,hx1,hF⟩:=qd hF
 obtain ⟨g1,g2,hx1⟩:=qbT hx1
 refine qcY qc Int h rfl rfl rfl rfl rfl rfl rfl rfl rfl g1 g2 hx1 rfl fun w3 S1 p6 h=>X0 7 rfl ?_
 obtain ⟨o1,hF,hK1⟩:=qd hF
 refine qk (rL (fun m e w'=>∃ (x2:(List Int)) (i1:Int),qcV a_0 r1 m x2 i1=some o1∧e=[(1,.pointer (some ⟨bb1,0,none⟩)),(4,.int .i64 r1),(5,.slice p6 x1.length x1.length),(6,.int .i64 i1)]∧SH w w' [Ch.own S1 (x2:List Int) [.slice p6 x1.length x1.length],Ch.box bb1 (qah a_0 p1 p2 p3 p4 p5 k1 k2 k3 k4 k5) 34]) n ⟨_,_,hF,rfl,h⟩ rfl ?_)
 rintro m1 e1 w4 ⟨x2,i1,hF,rfl,h⟩
 rcases m1 with _|m1
 ·cases hF
 refine X0 7 rfl (qj rfl hF ?_ ?_)<;>intro hF
 ·refine X1 7 1 h rfl (zcL h hF (qhK (h.old ha1)) rfl fun r2 w5 S2 p7 k6 h hF=>X0 6 rfl ?_)
  obtain ⟨o2,hF,hK2⟩:=qd hF
  refine qk (rL (fun m e w'=>∃ (x3:(List Int)) (i2:Int),qcS r2 m x3 i2=some o2∧e=[(1,.pointer (some ⟨bb1,0,none⟩)),(4,.int .i64 r1),(5,.slice p6 x1.length x1.length),(6,.int .i64 i1),(7,.slice p7 r2.length k6),(8,.int .i64 i2)]∧SH w w' [Ch.own S2 (r2:List Int) [.slice p7 r2.length k6],Ch.own S1 (x3:List Int) [.slice p6 x1.length x1.length],Ch.box bb1 (qah a_0 p1 p2 p3 p4 p5 k1 k2 k3 k4 k5) 34]) m1 ⟨_,_,hF,rfl,h⟩ rfl ?_)
  rintro m2 e2 w6 ⟨x3,i2,hF,rfl,h⟩
  rcases m2 with _|m2
  ·cases hF
  refine X0 8 rfl (qj rfl hF ?_ ?_)<;>intro hF
  ·refine X0 7 rfl ?_
   obtain ⟨y1,hy1,hF,he1,b1,_,q1,cs2,hp1,hq1,rfl,hc3⟩:=(h.sl 0 rfl).1.ix hF
   refine zx hp1 hq1 ⟨he1.1,qw he1.2.1 (h.sl 0 rfl).2⟩ rfl (zc 0 hc3 rfl (X0 5 rfl ?_))
   obtain ⟨y2,hy2,hF,he2,b2,_,q2,cs3,hp2,hq2,rfl,hc4⟩:=(h.sl 1 rfl).1.ix hF
   refine zx hp2 hq2 ⟨he2.1,qw he2.2.1 (h.sl 1 rfl).2⟩ rfl (zc 0 hc4 rfl (zp1 rfl ?_))
   obtain ⟨y3,hy3,hF,he3,b3,_,q3,cs4,hp3,hq3,rfl,hc5⟩:=(h.sl 1 rfl).1.ix hF
   exact zx hp3 hq3 ⟨he3.1,qw he3.2.1 (h.sl 1 rfl).2⟩ rfl (qaS qc 1 0 (W64 (y2+1)) h rfl hy3 hp3 hq3 rfl hc5 rfl rfl rfl rfl rfl rfl rfl fun w7 h=>X0 7 rfl (rK ⟨_,_,hF,rfl,h⟩ rfl))
  refine qn rfl ?_
  obtain rfl:=qb hF;replace hF:=hK2
  refine X0 6 rfl ?_
  replace h:=h.pick [1,2] rfl
  exact rK ⟨_,_,hF,rfl,h⟩ rfl
 refine qn rfl ?_
 obtain rfl:=qb hF;replace hF:=hK1
 refine zSR (qN qc [] _ ([]:List Int) h rfl rfl rfl rfl rfl rfl rfl rfl rfl trivial rfl fun w8 p8 S3 h=>X0 7 rfl ?_)
 obtain ⟨o3,hF,hK3⟩:=qd hF
 refine qk (rL (fun m e w'=>∃ (S4:Nat→Prop) (p9:Option Addr) (ln1:Nat) (k7:Nat) (x4:(List Int)) (i3:Int),qcb r1 x2 m x4 i3=some o3∧e=[(1,.pointer (some ⟨bb1,0,none⟩)),(4,.int .i64 r1),(5,.slice p6 x1.length x1.length),(10,.slice p9 ln1 k7),(11,.int .i64 i3)]∧SH w w' [Ch.own S4 (x4:List Int) [.slice p9 ln1 k7],Ch.own S1 (x2:List Int) [.slice p6 x1.length x1.length],Ch.box bb1 (qah a_0 p1 p2 p3 p4 p5 k1 k2 k3 k4 k5) 34]) n ⟨_,_,_,_,_,_,hF,rfl,h⟩ rfl ?_)
 rintro m3 e3 w9 ⟨S4,p9,ln1,k7,x4,i3,hF,rfl,h⟩
 obtain rfl:=(h.sl 0 rfl).2
 rcases m3 with _|m3
 ·cases hF
 refine X0 7 rfl (qj rfl hF ?_ ?_)<;>intro hF
 ·refine X0 7 rfl ?_
  obtain ⟨y4,hy4,hF,he4,b4,_,q4,cs5,hp4,hq4,rfl,hc7⟩:=(h.sl 1 rfl).1.ix hF
  refine zx hp4 hq4 ⟨he4.1,qw he4.2.1 (h.sl 1 rfl).2⟩ rfl (zc 0 hc7 rfl (X0 2 rfl (qj rfl hF ?_ ?_)))<;>intro hF
  ·refine X0 3 rfl (qN qc [.tmp 56] _ ([i3]:List Int) h rfl rfl rfl rfl rfl rfl rfl rfl rfl ⟨rfl,trivial⟩ rfl fun w10 p10 S5 h=>?_)
   obtain ⟨x5,hx2,hF⟩:=qd hF
   obtain ⟨g3,hx2⟩:=qan hx2
   refine qcr qc 1 h rfl (h.sl 0 rfl).1 (h.sl 0 rfl).2 rfl rfl rfl rfl rfl rfl rfl rfl rfl g3 hx2 rfl fun w11 p11 k8 S6 h=>X0 8 rfl ?_
   replace h:=h.pick [1,2,3] rfl
   exact rK ⟨_,_,_,_,_,_,hF,rfl,h⟩ rfl
  exact X0 7 rfl (rK ⟨_,_,_,_,_,_,hF,rfl,h⟩ rfl)
 refine qn rfl ?_
 obtain rfl:=qb hF;replace hF:=hK3
 refine X0 5 rfl ?_
 obtain ⟨o4,hF,hK4⟩:=qd hF
 refine qk (rL (fun m e w'=>∃ (S7:Nat→Prop) (p12:Option Addr) (ln2:Nat) (k9:Nat) (x6:(List Int)) (x7:(List Int)) (i4:Int),qcW a_0 m x6 x7 i4=some o4∧e=[(1,.pointer (some ⟨bb1,0,none⟩)),(4,.int .i64 r1),(5,.slice p6 x1.length x1.length),(10,.slice p12 ln2 k9),(12,.int .i64 i4)]∧SH w w' [Ch.own S7 (x6:List Int) [.slice p12 ln2 k9],Ch.own S1 (x7:List Int) [.slice p6 x1.length x1.length],Ch.box bb1 (qah a_0 p1 p2 p3 p4 p5 k1 k2 k3 k4 k5) 34]) n ⟨_,_,_,_,_,_,_,hF,rfl,h⟩ rfl ?_)
 rintro m4 e4 w12 ⟨S7,p12,ln2,k9,x6,x7,i4,hF,rfl,h⟩
 obtain rfl:=(h.sl 0 rfl).2
 rcases m4 with _|m4
 ·cases hF
 refine X0 8 rfl (qj rfl hF ?_ ?_)<;>intro hF
 ·refine X0 4 rfl (rA [] [0,2] h rfl fun w13 h=>M1 7 [0,1,2] 1 (h.pick [0,2] rfl) rfl ?_)
  obtain ⟨y5,hy5,hF,he5,b5,_,q5,cs6,hp5,hq5,rfl,hc10⟩:=(h.sl 0 rfl).1.ix hF
  refine Ax 3 15 hp5 hq5 ⟨he5.1,qw he5.2.1 (h.sl 0 rfl).2⟩ (h.pick [0,2] rfl) rfl (Aw 4 31 (fun w' hw=>qjg qc (qcz (w1:=w) (S1:=fun _=>False) hw 0 rfl hy5 hp5 hq5 rfl) (j:=0) rfl rfl rfl) (h.pick [0,2] rfl) rfl ?_)
  refine Ao 5 63 rfl (zcL h hF (qhK (h.old ha1)) rfl fun r3 w14 S8 p13 k10 h hF=>G0 127 [6] (h.pick [1,3] rfl) rfl (Ad (X0 4 rfl ?_)))
  obtain ⟨o5,hF,hK5⟩:=qd hF
  refine qk (rL (fun m e w'=>∃ (S9:Nat→Prop) (p14:Option Addr) (ln3:Nat) (k11:Nat) (x8:(List Int)) (x9:(List Int)) (i5:Int),qbI r3 m x8 x9 i5=some o5∧e=[(1,.pointer (some ⟨bb1,0,none⟩)),(4,.int .i64 r1),(5,.slice p6 x1.length x1.length),(10,.slice p14 ln3 k11),(12,.int .i64 i4),(13,.slice p13 r3.length k10),(14,.int .i64 i5)]∧SH w w' [Ch.own S8 (r3:List Int) [.slice p13 r3.length k10],Ch.own S9 (x8:List Int) [.slice p14 ln3 k11],Ch.own S1 (x9:List Int) [.slice p6 x1.length x1.length],Ch.box bb1 (qah a_0 p1 p2 p3 p4 p5 k1 k2 k3 k4 k5) 34]) m4 ⟨_,_,_,_,_,_,_,hF,rfl,h⟩ rfl ?_)
  rintro m5 e5 w15 ⟨S9,p14,ln3,k11,x8,x9,i5,hF,rfl,h⟩
  obtain rfl:=(h.sl 1 rfl).2
  rcases m5 with _|m5
  ·cases hF
  refine X0 8 rfl (qj rfl hF ?_ ?_)<;>intro hF
  ·refine X0 7 rfl ?_
   obtain ⟨y6,hy6,hF,he6,b6,_,q6,cs7,hp6,hq6,rfl,hc12⟩:=(h.sl 0 rfl).1.ix hF
   refine zx hp6 hq6 ⟨he6.1,qw he6.2.1 (h.sl 0 rfl).2⟩ rfl (zc 0 hc12 rfl (X0 6 rfl ?_))
   obtain ⟨y7,hy7,hF,he7,b7,_,q7,cs8,hp7,hq7,rfl,hc13⟩:=(h.sl 2 rfl).1.ix hF
   refine zx hp7 hq7 ⟨he7.1,qw he7.2.1 (h.sl 2 rfl).2⟩ rfl (zc 0 hc13 rfl (zp1 rfl ?_))
   obtain ⟨y8,hy8,hF,he8,b8,_,q8,cs9,hp8,hq8,rfl,hc14⟩:=(h.sl 2 rfl).1.ix hF
   refine zx hp8 hq8 ⟨he8.1,qw he8.2.1 (h.sl 2 rfl).2⟩ rfl (qaS qc 2 0 (W64 (y7-1)) h rfl hy8 hp8 hq8 rfl hc14 rfl rfl rfl rfl rfl rfl rfl fun w16 h=>X0 5 rfl ?_)
   obtain ⟨y9,hy9,hF,he9,b9,_,q9,cs10,hp9,hq9,rfl,hc15⟩:=(h.sl 2 rfl).1.ix hF
   refine zx hp9 hq9 ⟨he9.1,qw he9.2.1 (h.sl 2 rfl).2⟩ rfl (zc 0 hc15 rfl (X0 2 rfl (qj rfl hF ?_ ?_)))<;>intro hF
   ·refine X0 3 rfl (qN qc [.tmp 93] _ ([y6]:List Int) h rfl rfl rfl rfl rfl rfl rfl rfl rfl ⟨rfl,trivial⟩ rfl fun w17 p15 S10 h=>?_)
    obtain ⟨x10,hx3,hF⟩:=qd hF
    obtain ⟨g4,hx3⟩:=qan hx3
    refine qcr qc 2 h rfl (h.sl 0 rfl).1 (h.sl 0 rfl).2 rfl rfl rfl rfl rfl rfl rfl rfl rfl g4 hx3 rfl fun w18 p16 k12 S11 h=>X0 8 rfl ?_
    replace h:=h.pick [1,2,3,4] rfl
    exact rK ⟨_,_,_,_,_,_,_,hF,rfl,h⟩ rfl
   exact X0 7 rfl (rK ⟨_,_,_,_,_,_,_,hF,rfl,h⟩ rfl)
  refine qn rfl ?_
  obtain rfl:=qb hF;replace hF:=hK5
  refine X0 6 rfl ?_
  replace h:=h.pick [1,2,3] rfl
  exact rK ⟨_,_,_,_,_,_,_,hF,rfl,h⟩ rfl
 refine qn rfl ?_
 obtain rfl:=qb hF;replace hF:=hK4
 refine X0 10 rfl ?_
 obtain rfl:=qb hF
 exact qaA qc (ρ:=((List Int) × Bool)) [GoT.v (List Int) [.slice p12 x6.length k9],GoT.v Bool [.bool ((x6.length:Int)==r1)]] h ⟨rfl,rfl,trivial⟩ (PV.done h (qbH h (qay 0 h rfl) (qaN (qB (S:=fun _=>False) rfl)) (by rfl)))
def qcA (s:(List Int)) (v:Int):Nat→Int→Option (Flow Int Int)
 | 0,_=>none
 | n+1,i1 =>
  bif decide (i1<(s.length:Int)) then
   (idx s i1).bind fun y1 =>
   bif (v==y1) then some (.ret i1) else
   qcA s v n (W64 (i1+1))
  else
   some (.nxt i1)
def qgh (n:Nat) (s:(List Int)) (v:Int):Option Int :=
 (qcA s v n 0).bind fun o=>match o with
 | .ret r=>some r
 | .nxt _ =>
  some (-1)
theorem qlX {s:(List Int)} {v:Int} (ha1:GoT.R w (old w) s cs1) {r:Int} (hF:qgh n s v=some r):RetV Tryz.prog 159 [GoT.v (List Int) cs1,.int .i64 v] w r:=by
 obtain ⟨p1,k1,rfl,s1⟩:=ha1
 refine zV 19 Tryz.func159 rfl fun h=>X0 11 rfl ?_
 obtain ⟨o1,hF,hK1⟩:=qd hF
 refine qk (rL (fun m e w'=>∃ (i1:Int),qcA s v m i1=some o1∧e=[(0,.slice p1 s.length k1),(1,.int .i64 v),(7,.int .i64 (s.length:Int)),(8,.int .i64 i1)]∧SH w w' []) n ⟨_,hF,rfl,h⟩ rfl ?_)
 rintro m1 e1 w1 ⟨i1,hF,rfl,h⟩
 rcases m1 with _|m1
 ·cases hF
 refine X0 5 rfl (qj rfl hF ?_ ?_)<;>intro hF
 ·refine X0 13 rfl ?_
  obtain ⟨y1,hy1,hF,he1,b1,_,q1,cs2,hp1,hq1,rfl,hc2⟩:=s1.ix hF
  refine zxe hp1 hq1 he1 rfl (zc 0 (hc2.below h.below) rfl (X0 2 rfl (qj rfl hF ?_ ?_)))<;>intro hF
  ·refine X0 5 rfl ?_
   obtain rfl:=qb hF;replace hF:=hK1
   exact ri h hF rfl
  exact X0 6 rfl (rK ⟨_,hF,rfl,h⟩ rfl)
 refine qn rfl ?_
 obtain rfl:=qb hF;replace hF:=hK1
 exact X0 4 rfl (ri h hF rfl)
def qa9 (r1:(List Int)):Nat→(List Int)→Int→Option ((List Int) × Int)
 | 0,_,_=>none
 | n+1,x3,i2 =>
  bif decide (i2<(r1.length:Int)) then
   (idx r1 i2).bind fun y2 =>
   (idx x3 y2).bind fun y3 =>
   (idx x3 y2).bind fun _ =>
   qa9 r1 n (setS x3 y2 (W64 (y3+1))) (W64 (i2+1))
  else
   some (x3,i2)
def qbb (r3:(List Int)):Nat→(List Int)→Int→Option ((List Int) × Int)
 | 0,_,_=>none
 | n+1,x7,i4 =>
  bif decide (i4<(r3.length:Int)) then
   (idx r3 i4).bind fun y6 =>
   (idx x7 y6).bind fun y7 =>
   (idx x7 y6).bind fun _ =>
   qbb r3 n (setS x7 y6 (W64 (y7-1))) (W64 (i4+1))
  else
   some (x7,i4)
def qas (a_0:(Option Tview)) (x1:(List Int)):Nat→(List Int)→(List Int)→Int→Option (Flow ((List Int) × Bool) ((List Int) × (List Int) × Int))
 | 0,_,_,_=>none
 | n+1,x4,x5,i3 =>
  bif decide (i3<(x1.length:Int)) then
   (qgh n x5 0).bind fun r2 =>
   bif decide (r2<0) then some (.ret ([],false)) else
   (idx x5 r2).bind fun _ =>
   (appS x4 ([r2]:List Int)).bind fun x6 =>
   (qbA n a_0 r2).bind fun r3 =>
   (qbb r3 n (setS x5 r2 (-1)) 0).bind fun o=>match o with
   | (x7,_) =>
    qas a_0 x1 n x6 x7 (W64 (i3+1))
  else
   some (.nxt (x4,x5,i3))
def qbc (a_0:(Option Tview)) (y1:Tview):Nat→(List Int)→Int→Option ((List Int) × Int)
 | 0,_,_=>none
 | n+1,x2,i1 =>
  bif decide (i1<(y1.places.length:Int)) then
   (qbA n a_0 i1).bind fun r1 =>
   (qa9 r1 n x2 0).bind fun o=>match o with
   | (x3,_) =>
    qbc a_0 y1 n x3 (W64 (i1+1))
  else
   some (x2,i1)
def qdw (n:Nat) (a_0:(Option Tview)):Option ((List Int) × Bool) :=
 (a_0).bind fun y1 =>
 (mkS (y1.places.length:Int) (0:Int)).bind fun x1 =>
 (qbc a_0 y1 n x1 0).bind fun o=>match o with
 | (x2,_) =>
  (qas a_0 x1 n ([]:List Int) x2 0).bind fun o=>match o with
  | .ret r=>some r
  | .nxt (x4,_,_) =>
   some (x4,true)
theorem qkM {a_0:(Option Tview)} (ha1:GoT.R w (old w) a_0 cs1) {r:((List Int) × Bool)} (hF:qdw n a_0=some r):RetV Tryz.prog 100 [GoT.v (Option Tview) cs1] w r:=by
 obtain ⟨p1,rfl,s1⟩:=qfe ha1
 refine zV 74 Tryz.func100 rfl fun h=>X0 8 rfl ?_
 obtain ⟨y1,hy1,hF⟩:=qd hF
 obtain ⟨b1,o_1,cs2,rfl,-,hr1,hc1⟩:=PtR.get s1 hy1
 obtain ⟨p2,k1,p3,k2,p4,k3,p5,k4,p6,k5,p7,k6,p8,k7,p9,k8,p10,k9,p11,k10,rfl,s2,s3,s4,s5,s6,s7,s8,s9,s10,s11⟩:=qhV hr1
 refine zp2 rfl (zc 5 (hc1.below h.below) rfl (zp1 rfl ?_))
 obtain ⟨x1,hx1,hF⟩:=qd hF
 obtain ⟨g1,g2,hx1⟩:=qbT hx1
 refine qcY qc Int h rfl rfl rfl rfl rfl rfl rfl rfl rfl g1 g2 hx1 rfl fun w1 S1 p12 h=>X0 8 rfl (zc 5 (hc1.below h.below) rfl (X0 3 rfl ?_))
 obtain ⟨o1,hF,hK1⟩:=qd hF
 refine qk (rL (fun m e w'=>∃ (x2:(List Int)) (i1:Int),qbc a_0 y1 m x2 i1=some o1∧e=[(0,.pointer (some ⟨b1,o_1,none⟩)),(4,.slice p12 x1.length x1.length),(22,.int .i64 (y1.places.length:Int)),(23,.int .i64 i1)]∧SH w w' [Ch.own S1 (x2:List Int) [.slice p12 x1.length x1.length]]) n ⟨_,_,hF,rfl,h⟩ rfl ?_)
 rintro m1 e1 w2 ⟨x2,i1,hF,rfl,h⟩
 rcases m1 with _|m1
 ·cases hF
 refine X0 5 rfl (qj rfl hF ?_ ?_)<;>intro hF
 ·refine X0 12 rfl (zcL h hF (qe0 (h.old s1)) rfl fun r1 w3 S2 p13 k11 h hF=>X0 3 rfl ?_)
  obtain ⟨o2,hF,hK2⟩:=qd hF
  refine qk (rL (fun m e w'=>∃ (x3:(List Int)) (i2:Int),qa9 r1 m x3 i2=some o2∧e=[(0,.pointer (some ⟨b1,o_1,none⟩)),(4,.slice p12 x1.length x1.length),(22,.int .i64 (y1.places.length:Int)),(23,.int .i64 i1),(28,.slice p13 r1.length k11),(29,.int .i64 (r1.length:Int)),(30,.int .i64 i2)]∧SH w w' [Ch.own S2 (r1:List Int) [.slice p13 r1.length k11],Ch.own S1 (x3:List Int) [.slice p12 x1.length x1.length]]) m1 ⟨_,_,hF,rfl,h⟩ rfl ?_)
  rintro m2 e2 w4 ⟨x3,i2,hF,rfl,h⟩
  rcases m2 with _|m2
  ·cases hF
  refine X0 5 rfl (qj rfl hF ?_ ?_)<;>intro hF
  ·refine zKSBSR ?_
   obtain ⟨y2,hy2,hF,he1,b2,_,q1,cs3,hp1,hq1,rfl,hc4⟩:=(h.sl 0 rfl).1.ix hF
   refine zx hp1 hq1 ⟨he1.1,qw he1.2.1 (h.sl 0 rfl).2⟩ rfl (zc 0 hc4 rfl (X0 5 rfl ?_))
   obtain ⟨y3,hy3,hF,he2,b3,_,q2,cs4,hp2,hq2,rfl,hc5⟩:=(h.sl 1 rfl).1.ix hF
   refine zx hp2 hq2 ⟨he2.1,qw he2.2.1 (h.sl 1 rfl).2⟩ rfl (zc 0 hc5 rfl (zp1 rfl ?_))
   obtain ⟨y4,hy4,hF,he3,b4,_,q3,cs5,hp3,hq3,rfl,hc6⟩:=(h.sl 1 rfl).1.ix hF
   exact zx hp3 hq3 ⟨he3.1,qw he3.2.1 (h.sl 1 rfl).2⟩ rfl (qaS qc 1 0 (W64 (y3+1)) h rfl hy4 hp3 hq3 rfl hc6 rfl rfl rfl rfl rfl rfl rfl fun w5 h=>X0 6 rfl (rK ⟨_,_,hF,rfl,h⟩ rfl))
  refine qn rfl ?_
  obtain rfl:=qb hF;replace hF:=hK2
  refine X0 5 rfl ?_
  replace h:=h.pick [1] rfl
  exact rK ⟨_,_,hF,rfl,h⟩ rfl
 refine qn rfl ?_
 obtain rfl:=qb hF;replace hF:=hK1
 refine X0 11 rfl ?_
 replace h:=h.nil (α:=Int)
 obtain ⟨o3,hF,hK3⟩:=qd hF
 refine qk (rL (fun m e w'=>∃ (S3:Nat→Prop) (p14:Option Addr) (ln1:Nat) (k12:Nat) (x4:(List Int)) (x5:(List Int)) (i3:Int),qas a_0 x1 m x4 x5 i3=some o3∧e=[(0,.pointer (some ⟨b1,o_1,none⟩)),(4,.slice p12 x1.length x1.length),(8,.slice p14 ln1 k12),(43,.int .i64 (x1.length:Int)),(44,.int .i64 i3)]∧SH w w' [Ch.own S3 (x4:List Int) [.slice p14 ln1 k12],Ch.own S1 (x5:List Int) [.slice p12 x1.length x1.length]]) n ⟨_,_,_,_,_,_,_,hF,rfl,h⟩ rfl ?_)
 rintro m3 e3 w6 ⟨S3,p14,ln1,k12,x4,x5,i3,hF,rfl,h⟩
 obtain rfl:=(h.sl 0 rfl).2
 rcases m3 with _|m3
 ·cases hF
 refine X0 5 rfl (qj rfl hF ?_ ?_)<;>intro hF
 ·refine X0 6 rfl (zcI h hF (qlX (h.own 1 rfl)) rfl fun r2 w7 h hF=>X0 8 rfl (qj rfl hF ?_ ?_))<;>intro hF
  ·refine X0 5 rfl ?_
   obtain rfl:=qb hF;replace hF:=hK3
   obtain rfl:=qb hF
   exact qaA qc (ρ:=((List Int) × Bool)) [GoT.v (List Int) [.slice none 0 0],GoT.v Bool [.bool false]] h ⟨rfl,rfl,trivial⟩ (PV.done h (qbH h qhO (qaN (qB (S:=fun _=>False) rfl)) (by rfl)))
  refine X0 5 rfl ?_
  obtain ⟨y5,hy5,hF,he4,b5,_,q4,cs6,hp4,hq4,rfl,hc9⟩:=(h.sl 1 rfl).1.ix hF
  refine zx hp4 hq4 ⟨he4.1,qw he4.2.1 (h.sl 1 rfl).2⟩ rfl (qaS qc 1 0 (-1) h rfl hy5 hp4 hq4 rfl hc9 rfl rfl rfl rfl rfl rfl rfl fun w8 h=>X0 5 rfl (qN qc [.tmp 54] _ ([r2]:List Int) h rfl rfl rfl rfl rfl rfl rfl rfl rfl ⟨rfl,trivial⟩ rfl fun w9 p15 S4 h=>?_))
  obtain ⟨x6,hx2,hF⟩:=qd hF
  obtain ⟨g3,hx2⟩:=qan hx2
  refine qcr qc 1 h rfl (h.sl 0 rfl).1 (h.sl 0 rfl).2 rfl rfl rfl rfl rfl rfl rfl rfl rfl g3 hx2 rfl fun w10 p16 k13 S5 h=>X0 6 rfl (zcL h hF (qe0 (h.old s1)) rfl fun r3 w11 S6 p17 k14 h hF=>X0 3 rfl ?_)
  obtain ⟨o4,hF,hK4⟩:=qd hF
  refine qk ?_
  replace h:=h.pick [0,2,3] rfl
  refine rL (fun m e w'=>∃ (x7:(List Int)) (i4:Int),qbb r3 m x7 i4=some o4∧e=[(0,.pointer (some ⟨b1,o_1,none⟩)),(4,.slice p12 x1.length x1.length),(8,.slice p16 x6.length k13),(43,.int .i64 (x1.length:Int)),(44,.int .i64 i3),(59,.slice p17 r3.length k14),(60,.int .i64 (r3.length:Int)),(61,.int .i64 i4)]∧SH w w' [Ch.own S6 (r3:List Int) [.slice p17 r3.length k14],Ch.own S5 (x6:List Int) [.slice p16 x6.length k13],Ch.own S1 (x7:List Int) [.slice p12 x1.length x1.length]]) m3 ⟨_,_,hF,rfl,h⟩ rfl ?_
  rintro m4 e4 w12 ⟨x7,i4,hF,rfl,h⟩
  rcases m4 with _|m4
  ·cases hF
  refine X0 5 rfl (qj rfl hF ?_ ?_)<;>intro hF
  ·refine zKSBSR ?_
   obtain ⟨y6,hy6,hF,he5,b6,_,q5,cs7,hp5,hq5,rfl,hc11⟩:=(h.sl 0 rfl).1.ix hF
   refine zx hp5 hq5 ⟨he5.1,qw he5.2.1 (h.sl 0 rfl).2⟩ rfl (zc 0 hc11 rfl (X0 5 rfl ?_))
   obtain ⟨y7,hy7,hF,he6,b7,_,q6,cs8,hp6,hq6,rfl,hc12⟩:=(h.sl 2 rfl).1.ix hF
   refine zx hp6 hq6 ⟨he6.1,qw he6.2.1 (h.sl 2 rfl).2⟩ rfl (zc 0 hc12 rfl (zp1 rfl ?_))
   obtain ⟨y8,hy8,hF,he7,b8,_,q7,cs9,hp7,hq7,rfl,hc13⟩:=(h.sl 2 rfl).1.ix hF
   exact zx hp7 hq7 ⟨he7.1,qw he7.2.1 (h.sl 2 rfl).2⟩ rfl (qaS qc 2 0 (W64 (y7-1)) h rfl hy8 hp7 hq7 rfl hc13 rfl rfl rfl rfl rfl rfl rfl fun w13 h=>X0 6 rfl (rK ⟨_,_,hF,rfl,h⟩ rfl))
  refine qn rfl ?_
  obtain rfl:=qb hF;replace hF:=hK4
  refine X0 5 rfl ?_
  replace h:=h.pick [1,2] rfl
  exact rK ⟨_,_,_,_,_,_,_,hF,rfl,h⟩ rfl
 refine qn rfl ?_
 obtain rfl:=qb hF;replace hF:=hK3
 refine X0 6 rfl ?_
 obtain rfl:=qb hF
 exact qaA qc (ρ:=((List Int) × Bool)) [GoT.v (List Int) [.slice p14 x4.length k12],GoT.v Bool [.bool true]] h ⟨rfl,rfl,trivial⟩ (PV.done h (qbH h (qay 0 h rfl) (qaN (qB (S:=fun _=>False) rfl)) (by rfl)))
def qeI (n:Nat) (v:(Option Tview)) (p:Tplace):Option Bool :=
 bif decide (p.instance_<0) then
  bif p.drives then some true else
  (qb7 n v p).bind fun r1 =>
  some r1
 else
  (qb7 n v p).bind fun r2 =>
  some r2
theorem qkX {v:(Option Tview)} {p:Tplace} (ha1:GoT.R w (old w) v cs1) (ha2:GoT.R w (old w) p cs2) {r:Bool} (hF:qeI n v p=some r):RetV Tryz.prog 101 [GoT.v (Option Tview) cs1,GoT.v Tplace cs2] w r:=by
 obtain ⟨p1,rfl,s1⟩:=qfe ha1
 obtain rfl:=qce ha2
 refine zV 17 Tryz.func101 rfl fun h=>zSR (qt h rfl rfl fun w1 bb1 h=>X1 8 0 h rfl (ql (t:=8) hF rfl ?_ ?_))<;>intro hF
 ·refine X1 6 0 h rfl (ql (t:=12) hF rfl ?_ ?_)<;>intro hF
  ·exact X0 6 rfl (rb h hF rfl)
  exact X1 5 0 h rfl (zcB h hF (qe6 (h.old s1) (h.old ha2)) rfl fun r1 w2 h hF=>X0 3 rfl (rb h hF rfl))
 exact X1 9 0 h rfl (zcB h hF (qe6 (h.old s1) (h.old ha2)) rfl fun r2 w3 h hF=>X0 3 rfl (rb h hF rfl))
def qbM (b:qi):Nat→(List Int)→Int→Option ((List Int) × Int)
 | 0,_,_=>none
 | n+1,x1,i1 =>
  (qbC n b).bind fun r1 =>
  bif decide (i1<r1) then
   (qgR n (⟨b.Ai.Ah⟩:qm) (⟨b.Ab.Aa,b.Ab.Af,b.Ab.Ac⟩:qe) i1).bind fun o=>match o with
    | (r3,_) =>
     (
      bif decide (r3.instance_<0) then
       (idx b.Ab.Ac r3.pin).bind fun y1 =>
       bif (y1.Bl==1) then some true else
       (qfP n b i1).bind fun r5 =>
       some r5
      else
       (qfP n b i1).bind fun r6 =>
       some r6).bind fun b1 =>
     bif b1 then
      (appS x1 ([i1]:List Int)).bind fun x2 =>
      qbM b n x2 (W64 (i1+1))
     else
      qbM b n x1 (W64 (i1+1))
  else
   some (x1,i1)
def qhd (n:Nat) (b:qi):Option (List Int) :=
 (qbM b n ([]:List Int) 0).bind fun o=>match o with
 | (x1,_) =>
  some x1
theorem qm0 {b:qi} (ha1:GoT.R w (old w) b cs1) {r:(List Int)} (hF:qhd n b=some r):RetV Tryz.prog 42 [GoT.v qi cs1] w r:=by
 obtain ⟨p1,k1,p2,k2,p3,k3,p4,k4,p5,k5,rfl,s1,s2,s3,s4,s5⟩:=qO ha1
 refine zV 47 Tryz.func42 rfl fun h=>zSR (qt h rfl rfl fun w1 bb1 h=>X0 4 rfl (qN qc [] _ ([]:List Int) h rfl rfl rfl rfl rfl rfl rfl rfl rfl trivial rfl fun w2 p6 S1 h=>X0 7 rfl ?_))
 obtain ⟨o1,hF,hK1⟩:=qd hF
 refine qk (rL (fun m e w'=>∃ (S2:Nat→Prop) (p7:Option Addr) (ln1:Nat) (k6:Nat) (x1:(List Int)) (i1:Int),qbM b m x1 i1=some o1∧e=[(1,.pointer (some ⟨bb1,0,none⟩)),(3,.slice p7 ln1 k6),(4,.int .i64 i1)]∧SH w w' [Ch.own S2 (x1:List Int) [.slice p7 ln1 k6],Ch.box bb1 (qah b p1 p2 p3 p4 p5 k1 k2 k3 k4 k5) 34]) n ⟨_,_,_,_,_,_,hF,rfl,h⟩ rfl ?_)
 rintro m1 e1 w3 ⟨S2,p7,ln1,k6,x1,i1,hF,rfl,h⟩
 obtain rfl:=(h.sl 0 rfl).2
 rcases m1 with _|m1
 ·cases hF
 refine X1 5 1 h rfl (zcI h hF (qeX (h.old ha1)) rfl fun r1 w4 h hF=>X0 2 rfl (qj rfl hF ?_ ?_))<;>intro hF
 ·refine X2 10 1 1 h rfl ?_
  obtain ⟨r2,hr2,hF⟩:=qd hF
  obtain ⟨r3,r4⟩:=r2
  refine qee (r3,r4) h (cB 98 rfl) (qh0 (qbY _ (h.oldS s1)) (qaq _ (h.oldS s2) (h.oldS s3) (h.oldS s4)) hr2) rfl rfl rfl rfl fun w5 S3 us1 hv1 hr3=>?_
  obtain ⟨S4,S5,cs2,us2,rfl,hv2,hr4⟩:=hv1.cons hr3
  obtain rfl:=qby (hv2.sh.own 0 rfl)
  obtain ⟨rfl,h⟩:=hv2.lastB hr4
  refine zp3 rfl (qE qc h rfl rfl rfl fun w6 bb2 h=>zs 0 h rfl fun w7 h=>X0 3 rfl ?_)
  obtain ⟨KF1,hKF1,o2,hF,hK2⟩:=bindE hF
  refine qdh (fun e w'=>∃ (b1:Bool),KF1 b1=some o1∧e=[(1,.pointer (some ⟨bb1,0,none⟩)),(3,.slice p7 x1.length k6),(4,.int .i64 i1),(41,.bool b1)]∧SH w w' [Ch.own S2 (x1:List Int) [.slice p7 x1.length k6],Ch.box bb1 (qah b p1 p2 p3 p4 p5 k1 k2 k3 k4 k5) 34]) ?_ ?_
  ·refine X1 5 0 h rfl (ql (t:=26) hF rfl ?_ ?_)<;>intro hF
   ·refine X2 11 3 0 h rfl ?_
    obtain ⟨y1,hy1,hF,he1,b2,_,q1,cs3,hp1,hq1,hr6,hc3⟩:=s4.ix hF
    obtain rfl:=qat hr6
    refine zxe hp1 hq1 he1 rfl (X0 3 rfl (zc 1 (hc3.below h.below) rfl (X0 4 rfl (ql (t:=37) hF rfl ?_ ?_))))<;>intro hF
    ·refine X0 5 rfl ?_
     replace h:=h.pick [2,3] rfl
     obtain rfl:=qb hF
     exact rG ⟨_,hK2,rfl,h⟩ rfl
    refine X1 5 3 h rfl (zcB h hF (qhI (h.old ha1)) rfl fun r5 w10 h hF=>X0 2 rfl ?_)
    replace h:=h.pick [2,3] rfl
    obtain rfl:=qb hF
    exact rG ⟨_,hK2,rfl,h⟩ rfl
   refine X1 16 3 h rfl (zcB h hF (qhI (h.old ha1)) rfl fun r6 w11 h hF=>X0 2 rfl ?_)
   replace h:=h.pick [2,3] rfl
   obtain rfl:=qb hF
   exact rG ⟨_,hK2,rfl,h⟩ rfl
  rintro e2 w12 ⟨b1,hF,rfl,h⟩
  subst hKF1
  refine qj rfl hF ?_ ?_<;>intro hF
  ·refine X0 3 rfl (qN qc [.tmp 43] _ ([i1]:List Int) h rfl rfl rfl rfl rfl rfl rfl rfl rfl ⟨rfl,trivial⟩ rfl fun w8 p8 S7 h=>?_)
   obtain ⟨x2,hx1,hF⟩:=qd hF
   obtain ⟨g1,hx1⟩:=qan hx1
   refine qcr qc 1 h rfl (h.sl 0 rfl).1 (h.sl 0 rfl).2 rfl rfl rfl rfl rfl rfl rfl rfl rfl g1 hx1 rfl fun w9 p9 k7 S8 h=>X0 8 rfl ?_
   replace h:=h.pick [1,2] rfl
   exact rK ⟨_,_,_,_,_,_,hF,rfl,h⟩ rfl
  exact X0 7 rfl (rK ⟨_,_,_,_,_,_,hF,rfl,h⟩ rfl)
 refine qn rfl ?_
 obtain rfl:=qb hF;replace hF:=hK1
 refine X0 5 rfl ?_
 obtain rfl:=qb hF
 exact rO 0 h rfl ⟨rfl,trivial⟩
end Go.Fw


namespace Go.Fw
open Go Go.Proofs
open Go.RowKit (Below)
set_option maxRecDepth 100000
set_option maxHeartbeats 6400000
variable {n:Nat} {w:World} {cs1 cs2 cs3 cs4 cs5 cs6 cs7 cs8 cs9:List Value}
def qep (b:qi) (list:(List qa)):Nat→Int→Option (Flow Int Int)
 | 0,_=>none
 | n+1,i1 =>
  bif decide (i1<(list.length:Int)) then
   (idx list i1).bind fun y1 =>
   (qgn n b y1).bind fun r2 =>
   bif (!r2) then some (.ret 5) else
   qep b list n (W64 (i1+1))
  else
   some (.nxt i1)
def qiV (n:Nat) (b:qi) (list:(List qa)):Option Int :=
 (qg8 n b).bind fun r1 =>
 bif (!r1) then some 1 else
 bif decide ((list.length:Int) > 6) then some 3 else
 (qep b list n 0).bind fun o=>match o with
 | .ret r=>some r
 | .nxt _ =>
  some 0
theorem qn4 {b:qi} {list:(List qa)} (ha1:GoT.R w (old w) b cs1) (ha2:GoT.R w (old w) list cs2) {r:Int} (hF:qiV n b list=some r):RetV Tryz.prog 34 [GoT.v qi cs1,GoT.v (List qa) cs2] w r:=by
 obtain ⟨p1,k1,p2,k2,p3,k3,p4,k4,p5,k5,rfl,s1,s2,s3,s4,s5⟩:=qO ha1
 obtain ⟨p6,k6,rfl,s6⟩:=ha2
 refine zV 25 Tryz.func34 rfl fun h=>zSR (qt h rfl rfl fun w1 bb1 h=>X1 6 0 h rfl (zcB h hF (qkO (h.old ha1)) rfl fun r1 w2 h hF=>X0 2 rfl (qj rfl hF ?_ ?_)))<;>intro hF
 ·exact X0 4 rfl (ri h hF rfl)
 refine X0 8 rfl (qj rfl hF ?_ ?_)<;>intro hF
 ·exact X0 4 rfl (ri h hF rfl)
 refine X0 6 rfl ?_
 obtain ⟨o1,hF,hK1⟩:=qd hF
 refine qk (rL (fun m e w'=>∃ (i1:Int),qep b list m i1=some o1∧e=[(1,.slice p6 list.length k6),(2,.pointer (some ⟨bb1,0,none⟩)),(5,.int .i64 i1)]∧SH w w' [Ch.box bb1 (qah b p1 p2 p3 p4 p5 k1 k2 k3 k4 k5) 34]) n ⟨_,hF,rfl,h⟩ rfl ?_)
 rintro m1 e1 w3 ⟨i1,hF,rfl,h⟩
 rcases m1 with _|m1
 ·cases hF
 refine X0 8 rfl (qj rfl hF ?_ ?_)<;>intro hF
 ·refine X0 4 rfl (rD (Y1 1 0 h rfl ?_))
  refine zd2 rfl ?_
  obtain ⟨y1,hy1,hF,he1,b1,_,q1,cs3,hp1,hq1,hr2,hc4⟩:=s6.ix hF
  obtain ⟨p7,k7,p8,k8,p9,k9,rfl,s7,s8,s9⟩:=qD hr2
  refine zdxe hp1 hq1 he1 rfl (zdc 0 (hc4.below h.below) rfl ?_)
  obtain ⟨r2,hr3,hF⟩:=qd hF
  refine qbU r2 (vsB _) (cB 87 rfl) (fun _ hb=>qlW ((h.ext hb).old ha1) (qcp y1 ((h.ext hb).oldS s7) ((h.ext hb).oldS s8) ((h.ext hb).oldS s9)) hr3) rfl rfl rfl rfl (zd1 rfl (dN h fun w4 h=>qj rfl hF ?_ ?_))<;>intro hF
  ·refine X0 4 rfl ?_
   obtain rfl:=qb hF;replace hF:=hK1
   exact ri h hF rfl
  exact X0 7 rfl (rK ⟨_,hF,rfl,h⟩ rfl)
 refine qn rfl ?_
 obtain rfl:=qb hF;replace hF:=hK1
 exact X0 4 rfl (ri h hF rfl)
def qiM (n:Nat) (b:qi) (list:(List qa)) (place:Int):Option Int :=
 (qiV n b list).bind fun r1 =>
 bif (r1==0) then
  (qbC n b).bind fun r2 =>
  (qaj n place 0 (W64 (r2-1))).bind fun r3 =>
  bif (!r3) then some 2 else
  some r1
 else
  some r1
theorem qnZ {b:qi} {list:(List qa)} {place:Int} (ha1:GoT.R w (old w) b cs1) (ha2:GoT.R w (old w) list cs2) {r:Int} (hF:qiM n b list place=some r):RetV Tryz.prog 44 [GoT.v qi cs1,GoT.v (List qa) cs2,.int .i64 place] w r:=by
 obtain ⟨p1,k1,p2,k2,p3,k3,p4,k4,p5,k5,rfl,s1,s2,s3,s4,s5⟩:=qO ha1
 obtain ⟨p6,k6,rfl,s6⟩:=ha2
 refine zV 22 Tryz.func44 rfl fun h=>zSR (qt h rfl rfl fun w1 bb1 h=>X1 6 0 h rfl (zcI h hF (qn4 (h.old ha1) ⟨_,_,rfl,(h.oldS s6)⟩) rfl fun r1 w2 h hF=>X0 8 rfl (ql (t:=13) hF rfl ?_ ?_)))<;>intro hF
 ·refine X1 5 0 h rfl (zcI h hF (qeX (h.old ha1)) rfl fun r2 w3 h hF=>X0 3 rfl (zcB h hF qT rfl fun r3 w4 h hF=>X0 4 rfl (qj rfl hF ?_ ?_)))<;>intro hF
  ·exact X0 4 rfl (ri h hF rfl)
  exact X0 6 rfl (ri h hF rfl)
 exact X0 8 rfl (qcf rfl rfl (X0 6 rfl (ri h hF rfl)))
def qeA (n:Nat) (a_e:qa) (v0:(Option Tview)):Option Bool :=
 (qeb n v0 a_e).bind fun r1 =>
 some (!r1)
theorem qko {a_e:qa} {v0:(Option Tview)} (ha1:GoT.R w (old w) a_e cs1) {p4:Option Addr} (ha2:GoT.R w (old w) (some v0) [.pointer p4]) {r:Bool} (hF:qeA n a_e v0=some r):RetV Tryz.prog 77 [GoT.v qa cs1,.pointer p4] w r:=by
 obtain ⟨p1,k1,p2,k2,p3,k3,rfl,s1,s2,s3⟩:=qD ha1
 obtain ⟨b1,o_1,cs2,rfl,-,hr1,hc1⟩:=PtR.get ha2 rfl
 obtain ⟨p5,rfl,s4⟩:=qfe hr1
 exact zV 8 Tryz.func77 rfl fun h=>zSR (qt h rfl rfl fun w1 bb1 h=>X0 4 rfl (zc 0 (hc1.below h.below) rfl (zl 0 0 h rfl (zcB h hF (qj0 (h.old s4) (h.old ha1)) rfl fun r1 w2 h hF=>X0 3 rfl (rb h hF rfl)))))
def qx (s:(List qa)) (f_0:(Option Tview)):Nat→Int→Option (Flow Int Int)
 | 0,_=>none
 | n+1,i1 =>
  bif decide (i1<(s.length:Int)) then
   (idx s i1).bind fun y1 =>
   (qeA n y1 f_0).bind fun r1 =>
   bif r1 then some (.ret i1) else
   qx s f_0 n (W64 (i1+1))
  else
   some (.nxt i1)
def qar (n:Nat) (s:(List qa)) (f_0:(Option Tview)):Option Int :=
 (qx s f_0 n 0).bind fun o=>match o with
 | .ret r=>some r
 | .nxt _ =>
  some (-1)
theorem qc8 {s:(List qa)} {f_0:(Option Tview)} (ha1:GoT.R w (old w) s cs1) {p2:Option Addr} (ha2:GoT.R w (old w) (some f_0) [.pointer p2]) {r:Int} (hF:qar n s f_0=some r):RetV Tryz.prog 138 [GoT.v (List qa) cs1,.func (.func 77) #[] #[.pointer p2]] w r:=by
 obtain ⟨p1,k1,rfl,s1⟩:=ha1
 obtain ⟨b1,o_1,cs2,rfl,-,hr1,hc1⟩:=PtR.get ha2 rfl
 obtain ⟨p3,rfl,s2⟩:=qfe hr1
 refine zV 19 Tryz.func138 rfl fun h=>X0 11 rfl ?_
 obtain ⟨o1,hF,hK1⟩:=qd hF
 refine qk (rL (fun m e w'=>∃ (i1:Int),qx s f_0 m i1=some o1∧e=[(0,.slice p1 s.length k1),(1,.func (.func 77) #[] #[.pointer (some ⟨b1,o_1,none⟩)]),(7,.int .i64 (s.length:Int)),(8,.int .i64 i1)]∧SH w w' []) n ⟨_,hF,rfl,h⟩ rfl ?_)
 rintro m1 e1 w1 ⟨i1,hF,rfl,h⟩
 rcases m1 with _|m1
 ·cases hF
 refine X0 5 rfl (qj rfl hF ?_ ?_)<;>intro hF
 ·refine X0 13 rfl ?_
  obtain ⟨y1,hy1,hF,he1,b2,_,q1,cs3,hp1,hq1,hr2,hc3⟩:=s1.ix hF
  obtain ⟨p4,k2,p5,k3,p6,k4,rfl,s3,s4,s5⟩:=qD hr2
  refine zxe hp1 hq1 he1 rfl (zc 0 (hc3.below h.below) rfl (zcB h hF (qko (qcp y1 (h.oldS s3) (h.oldS s4) (h.oldS s5)) (h.old ha2)) rfl fun r1 w2 h hF=>qec (qj rfl hF ?_ ?_)))<;>intro hF
  ·refine X0 5 rfl ?_
   obtain rfl:=qb hF;replace hF:=hK1
   exact ri h hF rfl
  exact X0 6 rfl (rK ⟨_,hF,rfl,h⟩ rfl)
 refine qn rfl ?_
 obtain rfl:=qb hF;replace hF:=hK1
 exact X0 4 rfl (ri h hF rfl)
def qV (n:Nat) (s:(List qa)) (f_0:(Option Tview)):Option Bool :=
 (qar n s f_0).bind fun r1 =>
 some (decide (r1 ≥ 0))
theorem qcR {s:(List qa)} {f_0:(Option Tview)} (ha1:GoT.R w (old w) s cs1) {p2:Option Addr} (ha2:GoT.R w (old w) (some f_0) [.pointer p2]) {r:Bool} (hF:qV n s f_0=some r):RetV Tryz.prog 76 [GoT.v (List qa) cs1,.func (.func 77) #[] #[.pointer p2]] w r:=by
 obtain ⟨p1,k1,rfl,s1⟩:=ha1
 obtain ⟨b1,o_1,cs2,rfl,-,hr1,hc1⟩:=PtR.get ha2 rfl
 obtain ⟨p3,rfl,s2⟩:=qfe hr1
 exact zV 9 Tryz.func76 rfl fun h=>X0 8 rfl (zcI h hF (qc8 ⟨_,_,rfl,(h.oldS s1)⟩ (h.old ha2)) rfl fun r1 w1 h hF=>X0 3 rfl (rb h hF rfl))
def qfx (n:Nat) (b:qi) (list:(List qa)):Option ((Option Tview) × Int) :=
 (qiY n b).bind fun r1 =>
 bif (!r1) then some (none,1) else
 bif decide ((list.length:Int) > 6) then some (none,3) else
 (qiL n b).bind fun r2 =>
 (qV n list r2).bind fun r3 =>
 bif r3 then some (none,5) else
 some (r2,0)
theorem qkV {A:Nat→Prop} (hA:∀ b,A b→old w b) {b:qi} {list:(List qa)} (ha1:GoT.R w A b cs1) (ha2:GoT.R w A list cs2) {r:((Option Tview) × Int)} (hF:qfx n b list=some r):RetG Tryz.prog 31 [GoT.v qi cs1,GoT.v (List qa) cs2] w A r:=by
 obtain ⟨p1,k1,p2,k2,p3,k3,p4,k4,p5,k5,rfl,s1,s2,s3,s4,s5⟩:=qO ha1
 obtain ⟨p6,k6,rfl,s6⟩:=ha2
 have hg:=Rg.start hA
 refine qis Tryz.func31 rfl (m:=21) rfl rfl (fun h=>?_)
 refine zSR (qt h rfl rfl fun w1 bb1 h=>X1 8 0 h rfl (zcB h hF (qnN (h.old (GoT.mono ha1 hg.old))) rfl fun r1 w2 h hF=>X0 3 rfl (qj rfl hF ?_ ?_)))<;>intro hF
 ·refine X0 5 rfl ?_
  obtain rfl:=qb hF
  have hv1:GoRs.Rs (ρ:=((Option Tview) × Int)) h.wc (reg A w h.wc) (none,1) [GoT.v (Option Tview) [.pointer none],GoT.v Int [.int .i64 1]]:=⟨_,_,rfl,rfl,⟨_,rfl,rfl⟩⟩
  exact qjZ qc (ρ:=((Option Tview) × Int)) (r:=(none,1)) [GoT.v (Option Tview) [.pointer none],GoT.v Int [.int .i64 1]] h ⟨rfl,rfl,trivial⟩ hv1
 refine X0 7 rfl (qj rfl hF ?_ ?_)<;>intro hF
 ·refine X0 5 rfl ?_
  obtain rfl:=qb hF
  have hv2:GoRs.Rs (ρ:=((Option Tview) × Int)) h.wc (reg A w h.wc) (none,3) [GoT.v (Option Tview) [.pointer none],GoT.v Int [.int .i64 3]]:=⟨_,_,rfl,rfl,⟨_,rfl,rfl⟩⟩
  exact qjZ qc (ρ:=((Option Tview) × Int)) (r:=(none,3)) [GoT.v (Option Tview) [.pointer none],GoT.v Int [.int .i64 3]] h ⟨rfl,rfl,trivial⟩ hv2
 refine X1 5 0 h rfl ?_
 obtain ⟨r2,hr2,hF⟩:=qd hF
 refine qqn r2 hg h (cB 75 rfl) (qnD (hg.regOld h) (hg.inR h ha1) hr2) rfl rfl rfl rfl fun w3 us1 B1 hg1 hu1 hz1 hv3=>?_
 have hL1:=h.ext hu1.below
 have s7:=Up.S hg h hu1 s6
 have hb1:=h.below.trans (hu1.below.mono h.below.size)
 replace h:=hz1
 obtain ⟨cs3,rfl,hr3⟩:=qmj hv3
 obtain ⟨p7,rfl,s8⟩:=qfe hr3
 refine qE qc h rfl rfl rfl fun w4 bb2 h=>zs 0 h rfl fun w5 h=>X0 6 rfl (zcB h hF (qcR ⟨_,_,rfl,(h.oldS (s7.mono hg1.old))⟩ (qib (x:=r2) 0 h rfl (h.old (GoT.mono s8 hg1.old)))) rfl fun r3 w6 h hF=>qec (qj rfl hF ?_ ?_))<;>intro hF
 ·refine X0 5 rfl ?_
  obtain rfl:=qb hF
  have hv4:GoRs.Rs (ρ:=((Option Tview) × Int)) h.wc (reg A w h.wc) (none,5) [GoT.v (Option Tview) [.pointer none],GoT.v Int [.int .i64 5]]:=⟨_,_,rfl,rfl,⟨_,rfl,rfl⟩⟩
  exact qjZ qc (ρ:=((Option Tview) × Int)) (r:=(none,5)) [GoT.v (Option Tview) [.pointer none],GoT.v Int [.int .i64 5]] (h.unbase hg1.below ⟨fun _ h=>h,trivial⟩) ⟨rfl,rfl,trivial⟩ hv4
 refine X1 7 0 h rfl ?_
 obtain rfl:=qb hF
 have hv5:GoRs.Rs (ρ:=((Option Tview) × Int)) h.wc (reg A w h.wc) (r2,0) [GoT.v (Option Tview) [.pointer p7],GoT.v Int [.int .i64 0]]:=⟨_,_,rfl,(hg1.outR h (hg1.inR h s8)),⟨_,rfl,rfl⟩⟩
 exact qjZ qc (ρ:=((Option Tview) × Int)) (r:=(r2,0)) [GoT.v (Option Tview) [.pointer p7],GoT.v Int [.int .i64 0]] (h.unbase hg1.below ⟨fun _ h=>h,trivial⟩) ⟨rfl,rfl,trivial⟩ hv5
def qfY (n:Nat) (v:(Option Tview)) (place:Int):Option Bool :=
 (v).bind fun y1 =>
 (qbd n y1.places).bind fun r1 =>
 (qaw n place 0 (W64 (r1-1))).bind fun r2 =>
 some r2
theorem qln {v:(Option Tview)} {place:Int} (ha1:GoT.R w (old w) v cs1) {r:Bool} (hF:qfY n v place=some r):RetV Tryz.prog 91 [GoT.v (Option Tview) cs1,.int .i64 place] w r:=by
 obtain ⟨p1,rfl,s1⟩:=qfe ha1
 refine zV 13 Tryz.func91 rfl fun h=>X0 8 rfl ?_
 obtain ⟨y1,hy1,hF⟩:=qd hF
 obtain ⟨b1,o_1,cs2,rfl,-,hr1,hc1⟩:=PtR.get s1 hy1
 obtain ⟨p2,k1,p3,k2,p4,k3,p5,k4,p6,k5,p7,k6,p8,k7,p9,k8,p10,k9,p11,k10,rfl,s2,s3,s4,s5,s6,s7,s8,s9,s10,s11⟩:=qhV hr1
 exact zp2 rfl (zc 5 (hc1.below h.below) rfl (zcI h hF (qgv ⟨_,_,rfl,(h.oldS s7)⟩) rfl fun r1 w1 h hF=>zp1 rfl (zcB h hF qam rfl fun r2 w2 h hF=>X0 2 rfl (rb h hF rfl))))
def qiP (n:Nat) (b:qi) (list:(List qa)) (place:Int):Option ((Option Tview) × Int) :=
 (qfx n b list).bind fun o=>match o with
  | (r2,r3) =>
   bif (r3==0) then
    (qfY n r2 place).bind fun r4 =>
    bif (!r4) then some (none,2) else
    some (r2,r3)
   else
    some (r2,r3)
theorem qnQ {A:Nat→Prop} (hA:∀ b,A b→old w b) {b:qi} {list:(List qa)} {place:Int} (ha1:GoT.R w A b cs1) (ha2:GoT.R w A list cs2) {r:((Option Tview) × Int)} (hF:qiP n b list place=some r):RetG Tryz.prog 38 [GoT.v qi cs1,GoT.v (List qa) cs2,.int .i64 place] w A r:=by
 obtain ⟨p1,k1,p2,k2,p3,k3,p4,k4,p5,k5,rfl,s1,s2,s3,s4,s5⟩:=qO ha1
 obtain ⟨p6,k6,rfl,s6⟩:=ha2
 have hg:=Rg.start hA
 refine qis Tryz.func38 rfl (m:=26) rfl rfl (fun h=>?_)
 refine zSR (qt h rfl rfl fun w1 bb1 h=>X1 7 0 h rfl ?_)
 obtain ⟨r1,hr1,hF⟩:=qd hF
 obtain ⟨r2,r3⟩:=r1
 refine qqn (r2,r3) hg h (cB 31 rfl) (qkV (hg.regOld h) (hg.inR h ha1) ⟨_,_,rfl,(hg.inS h s6)⟩ hr1) rfl rfl rfl rfl fun w2 us1 B1 hg1 hu1 hz1 hv1=>?_
 have hL1:=h.ext hu1.below
 have hb1:=h.below.trans (hu1.below.mono h.below.size)
 replace h:=hz1
 obtain ⟨cs3,us2,rfl,hr2,hv2⟩:=qsC hv1
 obtain ⟨p7,rfl,s7⟩:=qfe hr2
 obtain ⟨cs4,rfl,hr3⟩:=qmj hv2
 obtain rfl:=hr3
 refine X0 12 rfl (ql (t:=18) hF rfl ?_ ?_)<;>intro hF
 ·refine X0 5 rfl (zcB h hF (qln (h.old (GoT.mono s7 hg1.old))) rfl fun r4 w3 h hF=>X0 4 rfl (qj rfl hF ?_ ?_))<;>intro hF
  ·refine X0 5 rfl ?_
   obtain rfl:=qb hF
   have hv3:GoRs.Rs (ρ:=((Option Tview) × Int)) h.wc (reg A w h.wc) (none,2) [GoT.v (Option Tview) [.pointer none],GoT.v Int [.int .i64 2]]:=⟨_,_,rfl,rfl,⟨_,rfl,rfl⟩⟩
   exact qjZ qc (ρ:=((Option Tview) × Int)) (r:=(none,2)) [GoT.v (Option Tview) [.pointer none],GoT.v Int [.int .i64 2]] (h.unbase hg1.below (show NoD [] from trivial)) ⟨rfl,rfl,trivial⟩ hv3
  refine X0 8 rfl ?_
  obtain rfl:=qb hF
  have hv4:GoRs.Rs (ρ:=((Option Tview) × Int)) h.wc (reg A w h.wc) (r2,r3) [GoT.v (Option Tview) [.pointer p7],GoT.v Int [.int .i64 r3]]:=⟨_,_,rfl,(hg1.outR h (hg1.inR h s7)),⟨_,rfl,rfl⟩⟩
  exact qjZ qc (ρ:=((Option Tview) × Int)) (r:=(r2,r3)) [GoT.v (Option Tview) [.pointer p7],GoT.v Int [.int .i64 r3]] (h.unbase hg1.below (show NoD [] from trivial)) ⟨rfl,rfl,trivial⟩ hv4
 refine X0 6 rfl (qcf rfl rfl (X0 8 rfl ?_))
 obtain rfl:=qb hF
 have hv5:GoRs.Rs (ρ:=((Option Tview) × Int)) h.wc (reg A w h.wc) (r2,r3) [GoT.v (Option Tview) [.pointer p7],GoT.v Int [.int .i64 r3]]:=⟨_,_,rfl,(hg1.outR h (hg1.inR h s7)),⟨_,rfl,rfl⟩⟩
 exact qjZ qc (ρ:=((Option Tview) × Int)) (r:=(r2,r3)) [GoT.v (Option Tview) [.pointer p7],GoT.v Int [.int .i64 r3]] (h.unbase hg1.below (show NoD [] from trivial)) ⟨rfl,rfl,trivial⟩ hv5
def qcF (list:(List qa)) (tag:(List Int)) (place:Int):Nat→(List Int)→Int→Option ((List Int) × Int)
 | 0,_,_=>none
 | n+1,x1,i1 =>
  bif decide (i1<(list.length:Int)) then
   (idx tag i1).bind fun y1 =>
   (
    bif decide (y1 ≥ 0) then
     (idx list i1).bind fun y2 =>
     bif decide (y1<(y2.As.length:Int)) then
      (idx list i1).bind fun y3 =>
      (idx y3.As y1).bind fun y4 =>
      some (y4==place)
     else
      some false
    else
     some false).bind fun b2 =>
   bif b2 then
    (appS x1 ([W64 (y1+1)]:List Int)).bind fun x2 =>
    qcF list tag place n x2 (W64 (i1+1))
   else
    (appS x1 ([y1]:List Int)).bind fun x3 =>
    qcF list tag place n x3 (W64 (i1+1))
  else
   some (x1,i1)
def qhg (n:Nat) (list:(List qa)) (tag:(List Int)) (place:Int):Option (List Int) :=
 (qcF list tag place n ([]:List Int) 0).bind fun o=>match o with
 | (x1,_) =>
  some x1
theorem qkP {list:(List qa)} {tag:(List Int)} {place:Int} (ha1:GoT.R w (old w) list cs1) (ha2:GoT.R w (old w) tag cs2) {r:(List Int)} (hF:qhg n list tag place=some r):RetV Tryz.prog 37 [GoT.v (List qa) cs1,GoT.v (List Int) cs2,.int .i64 place] w r:=by
 obtain ⟨p1,k1,rfl,s1⟩:=ha1
 obtain ⟨p2,k2,rfl,s2⟩:=ha2
 refine zV 52 Tryz.func37 rfl fun h=>X0 6 rfl (qN qc [] _ ([]:List Int) h rfl rfl rfl rfl rfl rfl rfl rfl rfl trivial rfl fun w1 p3 S1 h=>X0 7 rfl ?_)
 obtain ⟨o1,hF,hK1⟩:=qd hF
 refine qk (rL (fun m e w'=>∃ (S2:Nat→Prop) (p4:Option Addr) (ln1:Nat) (k3:Nat) (x1:(List Int)) (i1:Int),qcF list tag place m x1 i1=some o1∧e=[(0,.slice p1 list.length k1),(1,.slice p2 tag.length k2),(2,.int .i64 place),(7,.slice p4 ln1 k3),(8,.int .i64 i1)]∧SH w w' [Ch.own S2 (x1:List Int) [.slice p4 ln1 k3]]) n ⟨_,_,_,_,_,_,hF,rfl,h⟩ rfl ?_)
 rintro m1 e1 w2 ⟨S2,p4,ln1,k3,x1,i1,hF,rfl,h⟩
 obtain rfl:=(h.sl 0 rfl).2
 rcases m1 with _|m1
 ·cases hF
 refine X0 8 rfl (qj rfl hF ?_ ?_)<;>intro hF
 ·refine X0 7 rfl ?_
  obtain ⟨y1,hy1,hF,he1,b1,_,q1,cs3,hp1,hq1,rfl,hc2⟩:=s2.ix hF
  refine zxe hp1 hq1 he1 rfl (zc 0 (hc2.below h.below) rfl (X0 4 rfl ?_))
  obtain ⟨KF1,hKF1,o2,hF,hK2⟩:=bindE hF
  refine qdh (fun e w'=>∃ (b2:Bool),KF1 b2=some o1∧e=[(0,.slice p1 list.length k1),(1,.slice p2 tag.length k2),(2,.int .i64 place),(7,.slice p4 x1.length k3),(8,.int .i64 i1),(9,.int .i64 y1),(44,.bool b2)]∧SH w w' [Ch.own S2 (x1:List Int) [.slice p4 x1.length k3]]) ?_ ?_
  ·refine X0 4 rfl (ql (t:=23) hF rfl ?_ ?_)<;>intro hF
   ·refine X0 7 rfl ?_
    obtain ⟨y2,hy2,hF,he2,b3,_,q2,cs4,hp2,hq2,hr2,hc4⟩:=s1.ix hF
    obtain ⟨p9,k6,p10,k7,p11,k8,rfl,s3,s4,s5⟩:=qD hr2
    refine zxe hp2 hq2 he2 rfl (X0 3 rfl (zc 3 (hc4.below h.below) rfl (X0 6 rfl (ql (t:=33) hF rfl ?_ ?_))))<;>intro hF
    ·refine X0 5 rfl ?_
     obtain ⟨y3,hy3,hF,he3,b4,_,q3,cs5,hp3,hq3,hr3,hc5⟩:=s1.ix hF
     obtain ⟨p12,k9,p13,k10,p14,k11,rfl,s6,s7,s8⟩:=qD hr3
     refine zxe hp3 hq3 he3 rfl (X0 3 rfl (zc 3 (hc5.below h.below) rfl (X0 3 rfl ?_)))
     obtain ⟨y4,hy4,hF,he4,b5,_,q4,cs6,hp4,hq4,rfl,hc6⟩:=s7.ix hF
     refine zxe hp4 hq4 he4 rfl (X0 1 rfl (zc 0 (hc6.below h.below) rfl (X0 6 rfl ?_)))
     obtain rfl:=qb hF
     exact rG ⟨_,hK2,rfl,h⟩ rfl
    refine X0 12 rfl ?_
    obtain rfl:=qb hF
    exact rG ⟨_,hK2,rfl,h⟩ rfl
   refine X0 22 rfl ?_
   obtain rfl:=qb hF
   exact rG ⟨_,hK2,rfl,h⟩ rfl
  rintro e2 w7 ⟨b2,hF,rfl,h⟩
  subst hKF1
  refine qj rfl hF ?_ ?_<;>intro hF
  ·refine X0 8 rfl (qN qc [.tmp 48] _ ([W64 (y1+1)]:List Int) h rfl rfl rfl rfl rfl rfl rfl rfl rfl ⟨rfl,trivial⟩ rfl fun w3 p5 S3 h=>?_)
   obtain ⟨x2,hx1,hF⟩:=qd hF
   obtain ⟨g1,hx1⟩:=qan hx1
   refine qcr qc 1 h rfl (h.sl 0 rfl).1 (h.sl 0 rfl).2 rfl rfl rfl rfl rfl rfl rfl rfl rfl g1 hx1 rfl fun w4 p6 k4 S4 h=>X0 8 rfl ?_
   replace h:=h.pick [1] rfl
   exact rK ⟨_,_,_,_,_,_,hF,rfl,h⟩ rfl
  refine X0 4 rfl (qN qc [.tmp 48] _ ([y1]:List Int) h rfl rfl rfl rfl rfl rfl rfl rfl rfl ⟨rfl,trivial⟩ rfl fun w5 p7 S5 h=>?_)
  obtain ⟨x3,hx2,hF⟩:=qd hF
  obtain ⟨g2,hx2⟩:=qan hx2
  refine qcr qc 1 h rfl (h.sl 0 rfl).1 (h.sl 0 rfl).2 rfl rfl rfl rfl rfl rfl rfl rfl rfl g2 hx2 rfl fun w6 p8 k5 S6 h=>X0 8 rfl ?_
  replace h:=h.pick [1] rfl
  exact rK ⟨_,_,_,_,_,_,hF,rfl,h⟩ rfl
 refine qn rfl ?_
 obtain rfl:=qb hF;replace hF:=hK1
 refine X0 5 rfl ?_
 obtain rfl:=qb hF
 exact rO 0 h rfl ⟨rfl,trivial⟩
def qeW (list:(List Int)) (x:Int):Nat→Int→Option (Flow Int Int)
 | 0,_=>none
 | n+1,i1 =>
  bif decide (i1<(list.length:Int)) then
   (idx list i1).bind fun y1 =>
   bif (y1==x) then some (.ret i1) else
   qeW list x n (W64 (i1+1))
  else
   some (.nxt i1)
def qjD (n:Nat) (list:(List Int)) (x:Int):Option Int :=
 (qeW list x n 0).bind fun o=>match o with
 | .ret r=>some r
 | .nxt _ =>
  some (-1)
theorem qon {list:(List Int)} {x:Int} (ha1:GoT.R w (old w) list cs1) {r:Int} (hF:qjD n list x=some r):RetV Tryz.prog 89 [GoT.v (List Int) cs1,.int .i64 x] w r:=by
 obtain ⟨p1,k1,rfl,s1⟩:=ha1
 refine zV 19 Tryz.func89 rfl fun h=>X0 9 rfl ?_
 obtain ⟨o1,hF,hK1⟩:=qd hF
 refine qk (rL (fun m e w'=>∃ (i1:Int),qeW list x m i1=some o1∧e=[(0,.slice p1 list.length k1),(1,.int .i64 x),(5,.int .i64 i1)]∧SH w w' []) n ⟨_,hF,rfl,h⟩ rfl ?_)
 rintro m1 e1 w1 ⟨i1,hF,rfl,h⟩
 rcases m1 with _|m1
 ·cases hF
 refine X0 8 rfl (qj rfl hF ?_ ?_)<;>intro hF
 ·refine X0 7 rfl ?_
  obtain ⟨y1,hy1,hF,he1,b1,_,q1,cs2,hp1,hq1,rfl,hc2⟩:=s1.ix hF
  refine zxe hp1 hq1 he1 rfl (zc 0 (hc2.below h.below) rfl (X0 3 rfl (qj rfl hF ?_ ?_)))<;>intro hF
  ·refine X0 5 rfl ?_
   obtain rfl:=qb hF;replace hF:=hK1
   exact ri h hF rfl
  exact X0 7 rfl (rK ⟨_,hF,rfl,h⟩ rfl)
 refine qn rfl ?_
 obtain rfl:=qb hF;replace hF:=hK1
 exact X0 4 rfl (ri h hF rfl)
def qca (list:(List qa)) (place:Int):Nat→(List Int)→Int→Option ((List Int) × Int)
 | 0,_,_=>none
 | n+1,x1,i1 =>
  bif decide (i1<(list.length:Int)) then
   (
    (idx list i1).bind fun y1 =>
    bif decide ((y1.Av.length:Int) > 0) then
     (idx list i1).bind fun y2 =>
     (qjD n y2.Av place).bind fun r1 =>
     some (decide (r1<0))
    else
     some false).bind fun b1 =>
   bif b1 then
    (appS x1 ([(-1)]:List Int)).bind fun x2 =>
    qca list place n x2 (W64 (i1+1))
   else
    (appS x1 ([0]:List Int)).bind fun x3 =>
    qca list place n x3 (W64 (i1+1))
  else
   some (x1,i1)
def qh5 (n:Nat) (list:(List qa)) (place:Int):Option (List Int) :=
 (qca list place n ([]:List Int) 0).bind fun o=>match o with
 | (x1,_) =>
  (qhg n list x1 place).bind fun r2 =>
  some r2
theorem qnf {list:(List qa)} {place:Int} (ha1:GoT.R w (old w) list cs1) {r:(List Int)} (hF:qh5 n list place=some r):RetV Tryz.prog 36 [GoT.v (List qa) cs1,.int .i64 place] w r:=by
 obtain ⟨p1,k1,rfl,s1⟩:=ha1
 refine zV 40 Tryz.func36 rfl fun h=>X0 6 rfl (qN qc [] _ ([]:List Int) h rfl rfl rfl rfl rfl rfl rfl rfl rfl trivial rfl fun w1 p2 S1 h=>X0 7 rfl ?_)
 obtain ⟨o1,hF,hK1⟩:=qd hF
 refine qk (rL (fun m e w'=>∃ (S2:Nat→Prop) (p3:Option Addr) (ln1:Nat) (k2:Nat) (x1:(List Int)) (i1:Int),qca list place m x1 i1=some o1∧e=[(0,.slice p1 list.length k1),(1,.int .i64 place),(5,.slice p3 ln1 k2),(6,.int .i64 i1)]∧SH w w' [Ch.own S2 (x1:List Int) [.slice p3 ln1 k2]]) n ⟨_,_,_,_,_,_,hF,rfl,h⟩ rfl ?_)
 rintro m1 e1 w2 ⟨S2,p3,ln1,k2,x1,i1,hF,rfl,h⟩
 obtain rfl:=(h.sl 0 rfl).2
 rcases m1 with _|m1
 ·cases hF
 refine X0 8 rfl (qj rfl hF ?_ ?_)<;>intro hF
 ·refine X0 9 rfl ?_
  obtain ⟨KF1,hKF1,o2,hF,hK2⟩:=bindE hF
  refine qdh (fun e w'=>∃ (b1:Bool),KF1 b1=some o1∧e=[(0,.slice p1 list.length k1),(1,.int .i64 place),(5,.slice p3 x1.length k2),(6,.int .i64 i1),(7,.int .i64 0),(31,.bool b1)]∧SH w w' [Ch.own S2 (x1:List Int) [.slice p3 x1.length k2]]) ?_ ?_
  ·refine X0 3 rfl ?_
   obtain ⟨y1,hy1,hF,he1,b2,_,q1,cs2,hp1,hq1,hr1,hc3⟩:=s1.ix hF
   obtain ⟨p8,k5,p9,k6,p10,k7,rfl,s2,s3,s4⟩:=qD hr1
   refine zxe hp1 hq1 he1 rfl (zp1 rfl (zc 2 (hc3.below h.below) rfl (zp3 rfl (ql (t:=22) hF rfl ?_ ?_))))<;>intro hF
   ·refine X0 5 rfl ?_
    obtain ⟨y2,hy2,hF,he2,b3,_,q2,cs3,hp2,hq2,hr2,hc4⟩:=s1.ix hF
    obtain ⟨p11,k8,p12,k9,p13,k10,rfl,s5,s6,s7⟩:=qD hr2
    refine zxe hp2 hq2 he2 rfl (X0 3 rfl (zc 2 (hc4.below h.below) rfl (X0 3 rfl (zcI h hF (qon ⟨_,_,rfl,(h.oldS s5)⟩) rfl fun r1 w7 h hF=>X0 4 rfl ?_))))
    obtain rfl:=qb hF
    exact rG ⟨_,hK2,rfl,h⟩ rfl
   refine X0 10 rfl ?_
   obtain rfl:=qb hF
   exact rG ⟨_,hK2,rfl,h⟩ rfl
  rintro e2 w8 ⟨b1,hF,rfl,h⟩
  subst hKF1
  refine qj rfl hF ?_ ?_<;>intro hF
  ·refine X0 6 rfl (qN qc [.tmp 33] _ ([(-1)]:List Int) h rfl rfl rfl rfl rfl rfl rfl rfl rfl ⟨rfl,trivial⟩ rfl fun w3 p4 S3 h=>?_)
   obtain ⟨x2,hx1,hF⟩:=qd hF
   obtain ⟨g1,hx1⟩:=qan hx1
   refine qcr qc 1 h rfl (h.sl 0 rfl).1 (h.sl 0 rfl).2 rfl rfl rfl rfl rfl rfl rfl rfl rfl g1 hx1 rfl fun w4 p5 k3 S4 h=>X0 8 rfl ?_
   replace h:=h.pick [1] rfl
   exact rK ⟨_,_,_,_,_,_,hF,rfl,h⟩ rfl
  refine X0 4 rfl (qN qc [.tmp 33] _ ([0]:List Int) h rfl rfl rfl rfl rfl rfl rfl rfl rfl ⟨rfl,trivial⟩ rfl fun w5 p6 S5 h=>?_)
  obtain ⟨x3,hx2,hF⟩:=qd hF
  obtain ⟨g2,hx2⟩:=qan hx2
  refine qcr qc 1 h rfl (h.sl 0 rfl).1 (h.sl 0 rfl).2 rfl rfl rfl rfl rfl rfl rfl rfl rfl g2 hx2 rfl fun w6 p7 k4 S6 h=>X0 8 rfl ?_
  replace h:=h.pick [1] rfl
  exact rK ⟨_,_,_,_,_,_,hF,rfl,h⟩ rfl
 refine qn rfl ?_
 obtain rfl:=qb hF;replace hF:=hK1
 refine X0 5 rfl (zcL h hF (qkP ⟨_,_,rfl,(h.oldS s1)⟩ (h.own 0 rfl)) rfl fun r2 w9 S7 p14 k11 h hF=>X0 2 rfl ?_)
 obtain rfl:=qb hF
 exact rO 0 h rfl ⟨rfl,trivial⟩
def qdj (list:(List qa)) (tag:(List Int)) (place:Int):Nat→(List Int)→Int→Option ((List Int) × Int)
 | 0,_,_=>none
 | n+1,x1,i1 =>
  bif decide (i1<(list.length:Int)) then
   (idx list i1).bind fun y1 =>
   (idx tag i1).bind fun y2 =>
   (qbK n y1 y2 place).bind fun r2 =>
   (idx x1 i1).bind fun _ =>
   qdj list tag place n (setS x1 i1 r2) (W64 (i1+1))
  else
   some (x1,i1)
def qiK (n:Nat) (list:(List qa)) (tag:(List Int)) (place:Int):Option (List Int) :=
 (qcM n tag).bind fun r1 =>
 (qdj list tag place n r1 0).bind fun o=>match o with
 | (x1,_) =>
  some x1
theorem qn8 {list:(List qa)} {tag:(List Int)} {place:Int} (ha1:GoT.R w (old w) list cs1) (ha2:GoT.R w (old w) tag cs2) {r:(List Int)} (hF:qiK n list tag place=some r):RetV Tryz.prog 103 [GoT.v (List qa) cs1,GoT.v (List Int) cs2,.int .i64 place] w r:=by
 obtain ⟨p1,k1,rfl,s1⟩:=ha1
 obtain ⟨p2,k2,rfl,s2⟩:=ha2
 refine zV 31 Tryz.func103 rfl fun h=>X0 7 rfl (zcL h hF (qhG ⟨_,_,rfl,(h.oldS s2)⟩) rfl fun r1 w1 S1 p3 k3 h hF=>X0 9 rfl ?_)
 obtain ⟨o1,hF,hK1⟩:=qd hF
 refine qk (rL (fun m e w'=>∃ (x1:(List Int)) (i1:Int),qdj list tag place m x1 i1=some o1∧e=[(1,.slice p2 tag.length k2),(2,.int .i64 place),(7,.slice p3 r1.length k3),(12,.slice p1 list.length k1),(13,.int .i64 (list.length:Int)),(14,.int .i64 i1)]∧SH w w' [Ch.own S1 (x1:List Int) [.slice p3 r1.length k3]]) n ⟨_,_,hF,rfl,h⟩ rfl ?_)
 rintro m1 e1 w2 ⟨x1,i1,hF,rfl,h⟩
 rcases m1 with _|m1
 ·cases hF
 refine X0 5 rfl (qj rfl hF ?_ ?_)<;>intro hF
 ·refine X0 6 rfl ?_
  obtain ⟨y1,hy1,hF,he1,b1,_,q1,cs3,hp1,hq1,hr2,hc2⟩:=s1.ix hF
  obtain ⟨p4,k4,p5,k5,p6,k6,rfl,s3,s4,s5⟩:=qD hr2
  refine zxe hp1 hq1 he1 rfl (zc 0 (hc2.below h.below) rfl (qE qc h rfl rfl rfl fun w3 bb1 h=>zp1 rfl (zs 0 h rfl fun w4 h=>qec (rA [] [0] h rfl fun w5 h=>M1 31 [0,1,2,3,4] 0 (h.pick [0] rfl) rfl ?_))))
  obtain ⟨y2,hy2,hF,he2,b2,_,q2,cs4,hp2,hq2,rfl,hc3⟩:=s2.ix hF
  refine Ae 5 63 hp2 hq2 he2 (h.pick [0] rfl) rfl (Al 6 127 0 hc3 (h.pick [0] rfl) rfl (M0 255 [7] (h.pick [0] rfl) rfl (Ao 8 511 rfl (zcI h hF (qdB (qcp y1 (h.oldS s3) (h.oldS s4) (h.oldS s5))) rfl fun r2 w6 h hF=>Ag (h.pick [0] rfl) ?_))))
  obtain ⟨y3,hy3,hF,he3,b3,_,q3,cs5,hp3,hq3,rfl,hc4⟩:=(h.sl 1 rfl).1.ix hF
  refine Ax 9 1023 hp3 hq3 ⟨he3.1,qw he3.2.1 (h.sl 1 rfl).2⟩ (h.pick [0] rfl) rfl (Ao 10 2047 rfl (qaS qc 1 0 r2 h rfl hy3 hp3 hq3 rfl hc4 rfl rfl rfl rfl rfl rfl rfl fun w7 h=>Ag (h.pick [0] rfl) (Ad (X0 5 rfl ?_))))
  replace h:=h.pick [1] rfl
  exact rK ⟨_,_,hF,rfl,h⟩ rfl
 refine qn rfl ?_
 obtain rfl:=qb hF;replace hF:=hK1
 refine X0 5 rfl ?_
 obtain rfl:=qb hF
 exact rO 0 h rfl ⟨rfl,trivial⟩
def qb2 (a:(List Int)):Nat→(List Int)→Int→Int→Option ((List Int) × Int × Int)
 | 0,_,_,_=>none
 | n+1,x1,i1,i2 =>
  bif decide (i2<(a.length:Int)) then
   (idx x1 i2).bind fun _ =>
   qb2 a n (setS x1 i2 i1) (W64 (i1+1)) (W64 (i2+1))
  else
   some (x1,i1,i2)
def qai (n:Nat) (a:(List Int)) (k:Int):Option (Int × (List Int)) :=
 (qb2 a n a k 0).bind fun o=>match o with
 | (x1,i1,_) =>
  some (i1,x1)
theorem qaf {n:Nat} {w0 w:World} {F:List Ch} {a:(List Int)} {k:Int} {S1:Nat→Prop} {p1:Option Addr} {ln1 k1:Nat} (h:SH w0 w (Ch.own S1 (a:List Int) [.slice p1 ln1 k1]::F)) {r:(Int × (List Int))} (hF:qai n a k=some r):RetN Tryz.prog 65 [.slice p1 ln1 k1,.int .i64 k] w (fun w'=>∃ Z0:Nat→Prop,SH w0 w' (Ch.own Z0 (r.2:List Int) [.slice p1 ln1 k1]::F)) r.1:=by
 refine qbP Tryz.func65 rfl (m:=19) rfl rfl ?_
 obtain rfl:=(h.sl 0 rfl).2
 refine X0 9 rfl ?_
 obtain ⟨o1,hF,hK1⟩:=qd hF
 refine qk (rL (fun m e w'=>∃ (x1:(List Int)) (i1:Int) (i2:Int),qb2 a m x1 i1 i2=some o1∧e=[(0,.slice p1 a.length k1),(1,.int .i64 i1),(5,.int .i64 i2)]∧SH w0 w' (Ch.own S1 (x1:List Int) [.slice p1 a.length k1]::F)) n ⟨_,_,_,hF,rfl,h⟩ rfl ?_)
 rintro m1 e1 w1 ⟨x1,i1,i2,hF,rfl,h⟩
 rcases m1 with _|m1
 ·cases hF
 refine X0 8 rfl (qj rfl hF ?_ ?_)<;>intro hF
 ·refine X0 8 rfl ?_
  obtain ⟨y1,hy1,hF,he1,b1,_,q1,cs1,hp1,hq1,rfl,hc2⟩:=(h.sl 0 rfl).1.ix hF
  exact zx hp1 hq1 ⟨he1.1,qw he1.2.1 (h.sl 0 rfl).2⟩ rfl (qaS qc 0 0 i1 h rfl hy1 hp1 hq1 rfl hc2 rfl rfl rfl rfl rfl rfl rfl fun w2 h=>X0 12 rfl (rK ⟨_,_,_,hF,rfl,h⟩ rfl))
 refine qn rfl ?_
 obtain rfl:=qb hF;replace hF:=hK1
 refine X0 5 rfl ?_
 obtain rfl:=qb hF
 exact qhx qc ⟨_,h⟩ ⟨rfl,trivial⟩
def qfj:Nat→Int→ByteArray→Option (Int × ByteArray)
 | 0,_,_=>none
 | n+1,i1,z1 =>
  bif decide (i1 > 0) then
   (catB (strOf ([(⟨IntKind.wrap .u8 (W64 (48+(i1.tmod 10)))⟩:IntK .u8)]:List (IntK .u8))) z1).bind fun z2 =>
   qfj n (W64 (i1.tdiv 10)) z2
  else
   some (i1,z1)
def qdF (n:Nat) (k:Int):Option ByteArray :=
 bif decide (k≤0) then some (⟨#[109,48]⟩:ByteArray) else
 (qfj n k (⟨#[]⟩:ByteArray)).bind fun o=>match o with
 | (_,z1) =>
  (catB (⟨#[109]⟩:ByteArray) z1).bind fun z3 =>
  some z3
theorem qfa {k:Int}  {r:ByteArray} (hF:qdF n k=some r):RetV Tryz.prog 174 [.int .i64 k] w r:=by
 refine zV 20 Tryz.func174 rfl fun h=>X0 10 rfl (qj rfl hF ?_ ?_)<;>intro hF
 ·refine X0 4 rfl ?_
  obtain rfl:=qb hF
  exact qaA qc (ρ:=ByteArray) [_] h ⟨rfl,trivial⟩ (qrP _ _)
 refine X0 6 rfl ?_
 obtain ⟨o1,hF,hK1⟩:=qd hF
 refine qk (rL (fun m e w'=>∃ (i1:Int) (z1:ByteArray),qfj m i1 z1=some o1∧e=[(0,.int .i64 i1),(3,.string z1)]∧SH w w' []) n ⟨_,_,hF,rfl,h⟩ rfl ?_)
 rintro m1 e1 w1 ⟨i1,z1,hF,rfl,h⟩
 rcases m1 with _|m1
 ·cases hF
 refine X0 6 rfl (qj rfl hF ?_ ?_)<;>intro hF
 ·refine X0 8 rfl (qN qc [.tmp 11] _ ([(⟨IntKind.wrap .u8 (W64 (48+(i1.tmod 10)))⟩:IntK .u8)]:List (IntK .u8)) h rfl rfl rfl rfl rfl rfl rfl rfl rfl ⟨rfl,trivial⟩ rfl fun w2 p1 S1 h=>r_v (qu9 qc (h.sl 0 rfl).1 (h.sl 0 rfl).2 rfl ⟨rfl,rfl⟩ ⟨rfl,rfl⟩ rfl rfl) rfl (zp1 rfl ?_))
  obtain ⟨z2,hx1,hF⟩:=qd hF
  obtain ⟨g1,hx1⟩:=qpF hx1
  refine r_v (qv5 g1 rfl rfl) rfl ?_
  rw [hx1]
  refine X0 8 rfl ?_
  replace h:=h.pick [] rfl
  exact rK ⟨_,_,hF,rfl,h⟩ rfl
 refine qn rfl ?_
 obtain rfl:=qb hF;replace hF:=hK1
 refine X0 3 rfl ?_
 obtain ⟨z3,hx2,hF⟩:=qd hF
 obtain ⟨g2,hx2⟩:=qpF hx2
 refine r_v (qv5 g2 rfl rfl) rfl ?_
 rw [hx2]
 refine X0 2 rfl ?_
 obtain rfl:=qb hF
 exact qaA qc (ρ:=ByteArray) [_] h ⟨rfl,trivial⟩ (qrP _ _)
def qdO (a:(List qU)):Nat→(List qU)→Int→Int→Option ((List qU) × Int × Int)
 | 0,_,_,_=>none
 | n+1,x1,i1,i2 =>
  bif decide (i2<(a.length:Int)) then
   (qdF n i1).bind fun r1 =>
   (idx x1 i2).bind fun y1 =>
   (idx (setS x1 i2 ({ y1 with Ar:=r1 })) i2).bind fun y2 =>
   (idx (setS (setS x1 i2 ({ y1 with Ar:=r1 })) i2 ({ y2 with Bl:=W64 (i1+1) })) i2).bind fun y3 =>
   (idx (setS (setS (setS x1 i2 ({ y1 with Ar:=r1 })) i2 ({ y2 with Bl:=W64 (i1+1) })) i2 ({ y3 with Bj:=W64 ((W64 (i1+1))+1) })) i2).bind fun y4 =>
   qdO a n (setS (setS (setS (setS x1 i2 ({ y1 with Ar:=r1 })) i2 ({ y2 with Bl:=W64 (i1+1) })) i2 ({ y3 with Bj:=W64 ((W64 (i1+1))+1) })) i2 ({ y4 with Bd:=(((W64 ((W64 ((W64 (i1+1))+1))+1)).tmod 3)==0) })) (W64 ((W64 ((W64 ((W64 (i1+1))+1))+1))+1)) (W64 (i2+1))
  else
   some (x1,i1,i2)
def qjY (n:Nat) (a:(List qU)) (k:Int):Option (Int × (List qU)) :=
 (qdO a n a k 0).bind fun o=>match o with
 | (x1,i1,_) =>
  some (i1,x1)
theorem qm1 {n:Nat} {w0 w:World} {F:List Ch} {a:(List qU)} {k:Int} {S1:Nat→Prop} {p1:Option Addr} {ln1 k1:Nat} (h:SH w0 w (Ch.own S1 (a:List qU) [.slice p1 ln1 k1]::F)) {r:(Int × (List qU))} (hF:qjY n a k=some r):RetN Tryz.prog 175 [.slice p1 ln1 k1,.int .i64 k] w (fun w'=>∃ Z0:Nat→Prop,SH w0 w' (Ch.own Z0 (r.2:List qU) [.slice p1 ln1 k1]::F)) r.1:=by
 refine qbP Tryz.func175 rfl (m:=44) rfl rfl ?_
 obtain rfl:=(h.sl 0 rfl).2
 refine X0 9 rfl ?_
 obtain ⟨o1,hF,hK1⟩:=qd hF
 refine qk (rL (fun m e w'=>∃ (x1:(List qU)) (i1:Int) (i2:Int),qdO a m x1 i1 i2=some o1∧e=[(0,.slice p1 a.length k1),(1,.int .i64 i1),(5,.int .i64 i2)]∧SH w0 w' (Ch.own S1 (x1:List qU) [.slice p1 a.length k1]::F)) n ⟨_,_,_,hF,rfl,h⟩ rfl ?_)
 rintro m1 e1 w1 ⟨x1,i1,i2,hF,rfl,h⟩
 rcases m1 with _|m1
 ·cases hF
 refine X0 8 rfl (qj rfl hF ?_ ?_)<;>intro hF
 ·refine X0 8 rfl (zcS h hF qfa rfl fun r1 w2 h hF=>?_)
  obtain ⟨y1,hy1,hF,he1,b1,_,q1,cs1,hp1,hq1,hr2,hc2⟩:=(h.sl 0 rfl).1.ix hF
  obtain rfl:=qax hr2
  refine zx hp1 hq1 ⟨he1.1,qw he1.2.1 (h.sl 0 rfl).2⟩ rfl (zp1 rfl (qaS qc 0 0 ({ y1 with Ar:=r1 }:qU) h rfl hy1 hp1 hq1 (qds y1) hc2 rfl rfl rfl (qds ({ y1 with Ar:=r1 })) rfl rfl rfl fun w3 h=>X0 12 rfl ?_))
  obtain ⟨y2,hy2,hF,he2,b2,_,q2,cs2,hp2,hq2,hr3,hc3⟩:=(h.sl 0 rfl).1.ix hF
  obtain rfl:=qax hr3
  refine zx hp2 hq2 ⟨he2.1,qw he2.2.1 (h.sl 0 rfl).2⟩ rfl (zp1 rfl (qaS qc 0 1 ({ y2 with Bl:=W64 (i1+1) }:qU) h rfl hy2 hp2 hq2 (qds y2) hc3 rfl rfl rfl (qds ({ y2 with Bl:=W64 (i1+1) })) rfl rfl rfl fun w4 h=>X0 12 rfl ?_))
  obtain ⟨y3,hy3,hF,he3,b3,_,q3,cs3,hp3,hq3,hr4,hc4⟩:=(h.sl 0 rfl).1.ix hF
  obtain rfl:=qax hr4
  refine zx hp3 hq3 ⟨he3.1,qw he3.2.1 (h.sl 0 rfl).2⟩ rfl (zp1 rfl (qaS qc 0 2 ({ y3 with Bj:=W64 ((W64 (i1+1))+1) }:qU) h rfl hy3 hp3 hq3 (qds y3) hc4 rfl rfl rfl (qds ({ y3 with Bj:=W64 ((W64 (i1+1))+1) })) rfl rfl rfl fun w5 h=>X0 14 rfl ?_))
  obtain ⟨y4,hy4,hF,he4,b4,_,q4,cs4,hp4,hq4,hr5,hc5⟩:=(h.sl 0 rfl).1.ix hF
  obtain rfl:=qax hr5
  exact zx hp4 hq4 ⟨he4.1,qw he4.2.1 (h.sl 0 rfl).2⟩ rfl (zp1 rfl (qaS qc 0 3 ({ y4 with Bd:=(((W64 ((W64 ((W64 (i1+1))+1))+1)).tmod 3)==0) }:qU) h rfl hy4 hp4 hq4 (qds y4) hc5 rfl rfl rfl (qds ({ y4 with Bd:=(((W64 ((W64 ((W64 (i1+1))+1))+1)).tmod 3)==0) })) rfl rfl rfl fun w6 h=>X0 12 rfl (rK ⟨_,_,_,hF,rfl,h⟩ rfl)))
 refine qn rfl ?_
 obtain rfl:=qb hF;replace hF:=hK1
 refine X0 5 rfl ?_
 obtain rfl:=qb hF
 exact qhx qc ⟨_,h⟩ ⟨rfl,trivial⟩
def qcT (a:(List qq)):Nat→(List qq)→Int→Int→Option ((List qq) × Int × Int)
 | 0,_,_,_=>none
 | n+1,x1,i1,i2 =>
  bif decide (i2<(a.length:Int)) then
   (idx x1 i2).bind fun y1 =>
   (qai n y1.Bc i1).bind fun o=>match o with
    | (r1,x2) =>
     (qai n y1.Bb r1).bind fun o=>match o with
      | (r2,x3) =>
       (qai n y1.Au r2).bind fun o=>match o with
        | (r3,x4) =>
         qcT a n (setS x1 i2 (⟨x2,x3,x4⟩:qq)) r3 (W64 (i2+1))
  else
   some (x1,i1,i2)
def qgJ (n:Nat) (a:(List qq)) (k:Int):Option (Int × (List qq)) :=
 (qcT a n a k 0).bind fun o=>match o with
 | (x1,i1,_) =>
  some (i1,x1)
theorem qiB {n:Nat} {w0 w:World} {F:List Ch} {a:(List qq)} {k:Int} {S1:Nat→Prop} {p1:Option Addr} {ln1 k1:Nat} (h:SH w0 w (Ch.own S1 (a:List qq) [.slice p1 ln1 k1]::F)) {r:(Int × (List qq))} (hF:qgJ n a k=some r):RetN Tryz.prog 207 [.slice p1 ln1 k1,.int .i64 k] w (fun w'=>∃ Z0:Nat→Prop,SH w0 w' (Ch.own Z0 (r.2:List qq) [.slice p1 ln1 k1]::F)) r.1:=by
 refine qbP Tryz.func207 rfl (m:=34) rfl rfl ?_
 obtain rfl:=(h.sl 0 rfl).2
 refine X0 9 rfl ?_
 obtain ⟨o1,hF,hK1⟩:=qd hF
 refine qk (rL (fun m e w'=>∃ (S2:Nat→Prop) (x1:(List qq)) (i1:Int) (i2:Int),qcT a m x1 i1 i2=some o1∧e=[(0,.slice p1 a.length k1),(1,.int .i64 i1),(5,.int .i64 i2)]∧SH w0 w' (Ch.own S2 (x1:List qq) [.slice p1 a.length k1]::F)) n ⟨_,_,_,_,hF,rfl,h⟩ rfl ?_)
 rintro m1 e1 w1 ⟨S2,x1,i1,i2,hF,rfl,h⟩
 rcases m1 with _|m1
 ·cases hF
 refine X0 8 rfl (qj rfl hF ?_ ?_)<;>intro hF
 ·refine X0 7 rfl ?_
  obtain ⟨y1,hy1,hF⟩:=qd hF
  have he1:=qav hy1
  obtain ⟨S3,S4,cs1,h⟩:=h.take hy1
  obtain ⟨p2,k2,p3,k3,p4,k4,rfl,-,-,-⟩:=qa5 (h.own 0 rfl)
  obtain ⟨S5,S6,S7,h⟩:=qqp h
  obtain ⟨b1,hp1,-,-,hl2⟩:=h.holeAt 3 rfl
  obtain ⟨q1,hq1⟩:∃ q,q=0+(i2).toNat*GoT.k qq:=⟨_,rfl⟩
  refine zx hp1 hq1 ⟨he1.1,qw he1.2.1 hl2⟩ rfl (zp1 rfl (zc 0 (qaZ h 3 rfl hp1 hq1) rfl (zp1 rfl ?_)))
  replace h:=h.pickT 4 [2,0,1,3] rfl
  obtain ⟨o2,hr1,hF⟩:=qd hF
  obtain ⟨r1,x2⟩:=o2
  refine qbF r1 (cB 65 rfl) (qaf h hr1) rfl rfl rfl rfl ?_
  rintro w2 ⟨S8,h⟩
  refine X0 6 rfl ?_
  obtain ⟨b2,hp2,-,-,hl4⟩:=h.holeAt 3 rfl
  obtain ⟨q2,hq2⟩:∃ q,q=0+(i2).toNat*GoT.k qq:=⟨_,rfl⟩
  refine zx hp2 hq2 ⟨he1.1,qw he1.2.1 hl4⟩ rfl (zp1 rfl (zc 1 (qaZ h 3 rfl hp2 hq2) rfl (zp1 rfl ?_)))
  replace h:=h.pickT 4 [2,0,1,3] rfl
  obtain ⟨o3,hr2,hF⟩:=qd hF
  obtain ⟨r2,x3⟩:=o3
  refine qbF r2 (cB 65 rfl) (qaf h hr2) rfl rfl rfl rfl ?_
  rintro w3 ⟨S9,h⟩
  refine X0 5 rfl ?_
  obtain ⟨b3,hp3,-,-,hl6⟩:=h.holeAt 3 rfl
  obtain ⟨q3,hq3⟩:∃ q,q=0+(i2).toNat*GoT.k qq:=⟨_,rfl⟩
  refine zx hp3 hq3 ⟨he1.1,qw he1.2.1 hl6⟩ rfl (zp1 rfl (zc 2 (qaZ h 3 rfl hp3 hq3) rfl (zp1 rfl ?_)))
  replace h:=h.pickT 4 [2,0,1,3] rfl
  obtain ⟨o4,hr3,hF⟩:=qd hF
  obtain ⟨r3,x4⟩:=o4
  refine qbF r3 (cB 65 rfl) (qaf h hr3) rfl rfl rfl rfl ?_
  rintro w4 ⟨S10,h⟩
  refine X0 8 rfl ?_
  obtain ⟨S11,h⟩:=h.gatherT 4 [3] (qpZ (⟨x2,x3,x4⟩:qq) h (qay 2 h rfl) (qay 1 h rfl) (qay 0 h rfl) (by rfl) (by rfl)) rfl
  replace h:=h.put
  obtain ⟨S12,h⟩:=qlx (S:=_) h
  exact rK ⟨_,_,_,_,hF,rfl,h⟩ rfl
 refine qn rfl ?_
 obtain rfl:=qb hF;replace hF:=hK1
 refine X0 5 rfl ?_
 obtain rfl:=qb hF
 exact qhx qc ⟨_,h⟩ ⟨rfl,trivial⟩
def qdR (a:(List qC)):Nat→(List qC)→Int→Int→Option ((List qC) × Int × Int)
 | 0,_,_,_=>none
 | n+1,x1,i1,i2 =>
  bif decide (i2<(a.length:Int)) then
   (idx x1 i2).bind fun y1 =>
   (qgJ n y1.Az (W64 ((W64 ((W64 ((W64 (i1+1))+1))+1))+1))).bind fun o=>match o with
    | (r1,x2) =>
     (qgJ n y1.Bh r1).bind fun o=>match o with
      | (r2,x3) =>
       qdR a n (setS x1 i2 (⟨i1,W64 (i1+1),W64 ((W64 (i1+1))+1),W64 ((W64 ((W64 (i1+1))+1))+1),x2,x3⟩:qC)) r2 (W64 (i2+1))
  else
   some (x1,i1,i2)
def qjV (n:Nat) (a:(List qC)) (k:Int):Option (Int × (List qC)) :=
 (qdR a n a k 0).bind fun o=>match o with
 | (x1,i1,_) =>
  some (i1,x1)
theorem qmL {n:Nat} {w0 w:World} {F:List Ch} {a:(List qC)} {k:Int} {S1:Nat→Prop} {p1:Option Addr} {ln1 k1:Nat} (h:SH w0 w (Ch.own S1 (a:List qC) [.slice p1 ln1 k1]::F)) {r:(Int × (List qC))} (hF:qjV n a k=some r):RetN Tryz.prog 176 [.slice p1 ln1 k1,.int .i64 k] w (fun w'=>∃ Z0:Nat→Prop,SH w0 w' (Ch.own Z0 (r.2:List qC) [.slice p1 ln1 k1]::F)) r.1:=by
 refine qbP Tryz.func176 rfl (m:=55) rfl rfl ?_
 obtain rfl:=(h.sl 0 rfl).2
 refine X0 9 rfl ?_
 obtain ⟨o1,hF,hK1⟩:=qd hF
 refine qk (rL (fun m e w'=>∃ (S2:Nat→Prop) (x1:(List qC)) (i1:Int) (i2:Int),qdR a m x1 i1 i2=some o1∧e=[(0,.slice p1 a.length k1),(1,.int .i64 i1),(5,.int .i64 i2)]∧SH w0 w' (Ch.own S2 (x1:List qC) [.slice p1 a.length k1]::F)) n ⟨_,_,_,_,hF,rfl,h⟩ rfl ?_)
 rintro m1 e1 w1 ⟨S2,x1,i1,i2,hF,rfl,h⟩
 rcases m1 with _|m1
 ·cases hF
 refine X0 8 rfl (qj rfl hF ?_ ?_)<;>intro hF
 ·refine X0 8 rfl ?_
  obtain ⟨y1,hy1,hF⟩:=qd hF
  have he1:=qav hy1
  obtain ⟨S3,S4,cs1,h⟩:=h.take hy1
  obtain ⟨p2,k2,p3,k3,rfl,-,-⟩:=qag (h.own 0 rfl)
  obtain ⟨S5,S6,h⟩:=qsn h
  obtain ⟨b1,hp1,-,-,hl2⟩:=h.holeAt 2 rfl
  obtain ⟨q1,hq1⟩:∃ q,q=0+(i2).toNat*GoT.k qC:=⟨_,rfl⟩
  refine zx hp1 hq1 ⟨he1.1,qw he1.2.1 hl2⟩ rfl (zp1 rfl (qeY qc 2 0 h rfl hp1 hq1 rfl rfl rfl rfl rfl rfl fun w2 h=>?_))
  replace h:SH _ _ (Ch.own S6 (y1.Bh:List qq) [.slice p3 y1.Bh.length k3]::Ch.own S5 (y1.Az:List qq) [.slice p2 y1.Az.length k2]::Ch.hole S4 (x1:List qC) p1 a.length k1 (i2).toNat [.int .i64 i1,.int .i64 y1.Av,.int .i64 y1.To,.int .i64 y1.Bg,.slice p2 y1.Az.length k2,.slice p3 y1.Bh.length k3]::F):=h
  refine X0 12 rfl ?_
  obtain ⟨b2,hp2,-,-,hl4⟩:=h.holeAt 2 rfl
  obtain ⟨q2,hq2⟩:∃ q,q=0+(i2).toNat*GoT.k qC:=⟨_,rfl⟩
  refine zx hp2 hq2 ⟨he1.1,qw he1.2.1 hl4⟩ rfl (zp1 rfl (qeY qc 2 1 h rfl hp2 hq2 rfl rfl rfl rfl rfl rfl fun w3 h=>X0 12 rfl ?_))
  obtain ⟨b3,hp3,-,-,hl6⟩:=h.holeAt 2 rfl
  obtain ⟨q3,hq3⟩:∃ q,q=0+(i2).toNat*GoT.k qC:=⟨_,rfl⟩
  refine zx hp3 hq3 ⟨he1.1,qw he1.2.1 hl6⟩ rfl (zp1 rfl (qeY qc 2 2 h rfl hp3 hq3 rfl rfl rfl rfl rfl rfl fun w4 h=>X0 12 rfl ?_))
  obtain ⟨b4,hp4,-,-,hl8⟩:=h.holeAt 2 rfl
  obtain ⟨q4,hq4⟩:∃ q,q=0+(i2).toNat*GoT.k qC:=⟨_,rfl⟩
  refine zx hp4 hq4 ⟨he1.1,qw he1.2.1 hl8⟩ rfl (zp1 rfl (qeY qc 2 3 h rfl hp4 hq4 rfl rfl rfl rfl rfl rfl fun w5 h=>?_))
  replace h:SH _ _ (Ch.own S6 (y1.Bh:List qq) [.slice p3 y1.Bh.length k3]::Ch.own S5 (y1.Az:List qq) [.slice p2 y1.Az.length k2]::Ch.hole S4 (x1:List qC) p1 a.length k1 (i2).toNat [.int .i64 i1,.int .i64 (W64 (i1+1)),.int .i64 (W64 ((W64 (i1+1))+1)),.int .i64 (W64 ((W64 ((W64 (i1+1))+1))+1)),.slice p2 y1.Az.length k2,.slice p3 y1.Bh.length k3]::F):=h
  refine X0 11 rfl ?_
  obtain ⟨b5,hp5,-,-,hl10⟩:=h.holeAt 2 rfl
  obtain ⟨q5,hq5⟩:∃ q,q=0+(i2).toNat*GoT.k qC:=⟨_,rfl⟩
  refine zx hp5 hq5 ⟨he1.1,qw he1.2.1 hl10⟩ rfl (zp1 rfl (zc 4 (qaZ h 2 rfl hp5 hq5) rfl (zp1 rfl ?_)))
  replace h:=h.pickT 3 [1,0,2] rfl
  obtain ⟨o2,hr1,hF⟩:=qd hF
  obtain ⟨r1,x2⟩:=o2
  refine qbF r1 (cB 207 rfl) (qiB h hr1) rfl rfl rfl rfl ?_
  rintro w6 ⟨S7,h⟩
  refine X0 5 rfl ?_
  obtain ⟨b6,hp6,-,-,hl12⟩:=h.holeAt 2 rfl
  obtain ⟨q6,hq6⟩:∃ q,q=0+(i2).toNat*GoT.k qC:=⟨_,rfl⟩
  refine zx hp6 hq6 ⟨he1.1,qw he1.2.1 hl12⟩ rfl (zp1 rfl (zc 5 (qaZ h 2 rfl hp6 hq6) rfl (zp1 rfl ?_)))
  replace h:=h.pickT 3 [1,0,2] rfl
  obtain ⟨o3,hr2,hF⟩:=qd hF
  obtain ⟨r2,x3⟩:=o3
  refine qbF r2 (cB 207 rfl) (qiB h hr2) rfl rfl rfl rfl ?_
  rintro w7 ⟨S8,h⟩
  refine X0 8 rfl ?_
  obtain ⟨S9,h⟩:=h.gatherT 3 [2] (qsH (⟨i1,W64 (i1+1),W64 ((W64 (i1+1))+1),W64 ((W64 ((W64 (i1+1))+1))+1),x2,x3⟩:qC) h (qB (S:=fun _=>False) rfl) (qB (S:=fun _=>False) rfl) (qB (S:=fun _=>False) rfl) (qB (S:=fun _=>False) rfl) (qay 1 h rfl) (qay 0 h rfl) (by rfl) (by rfl) (by rfl) (by rfl) (by rfl)) rfl
  replace h:=h.put
  obtain ⟨S10,h⟩:=qlx (S:=_) h
  exact rK ⟨_,_,_,_,hF,rfl,h⟩ rfl
 refine qn rfl ?_
 obtain rfl:=qb hF;replace hF:=hK1
 refine X0 5 rfl ?_
 obtain rfl:=qb hF
 exact qhx qc ⟨_,h⟩ ⟨rfl,trivial⟩
def qdb (a:(List qp)):Nat→(List qp)→Int→Int→Option ((List qp) × Int × Int)
 | 0,_,_,_=>none
 | n+1,x1,i1,i2 =>
  bif decide (i2<(a.length:Int)) then
   (qdF n i1).bind fun r1 =>
   (idx x1 i2).bind fun y1 =>
   (qjY n y1.Am (W64 ((W64 (i1+1))+1))).bind fun o=>match o with
    | (r2,x2) =>
     (qjV n y1.Ap r2).bind fun o=>match o with
      | (r3,x3) =>
       (qai n y1.Ay r3).bind fun o=>match o with
        | (r4,x4) =>
         qdb a n (setS x1 i2 (⟨r1,W64 (i1+1),x2,x3,x4,r4,W64 (r4+1)⟩:qp)) (W64 ((W64 (r4+1))+1)) (W64 (i2+1))
  else
   some (x1,i1,i2)
def qjs (n:Nat) (a:(List qp)) (k:Int):Option (Int × (List qp)) :=
 (qdb a n a k 0).bind fun o=>match o with
 | (x1,i1,_) =>
  some (i1,x1)
theorem qmu {n:Nat} {w0 w:World} {F:List Ch} {a:(List qp)} {k:Int} {S1:Nat→Prop} {p1:Option Addr} {ln1 k1:Nat} (h:SH w0 w (Ch.own S1 (a:List qp) [.slice p1 ln1 k1]::F)) {r:(Int × (List qp))} (hF:qjs n a k=some r):RetN Tryz.prog 123 [.slice p1 ln1 k1,.int .i64 k] w (fun w'=>∃ Z0:Nat→Prop,SH w0 w' (Ch.own Z0 (r.2:List qp) [.slice p1 ln1 k1]::F)) r.1:=by
 refine qbP Tryz.func123 rfl (m:=63) rfl rfl ?_
 obtain rfl:=(h.sl 0 rfl).2
 refine X0 9 rfl ?_
 obtain ⟨o1,hF,hK1⟩:=qd hF
 refine qk (rL (fun m e w'=>∃ (S2:Nat→Prop) (x1:(List qp)) (i1:Int) (i2:Int),qdb a m x1 i1 i2=some o1∧e=[(0,.slice p1 a.length k1),(1,.int .i64 i1),(5,.int .i64 i2)]∧SH w0 w' (Ch.own S2 (x1:List qp) [.slice p1 a.length k1]::F)) n ⟨_,_,_,_,hF,rfl,h⟩ rfl ?_)
 rintro m1 e1 w1 ⟨S2,x1,i1,i2,hF,rfl,h⟩
 rcases m1 with _|m1
 ·cases hF
 refine X0 8 rfl (qj rfl hF ?_ ?_)<;>intro hF
 ·refine X0 8 rfl (zcS h hF qfa rfl fun r1 w2 h hF=>?_)
  obtain ⟨y1,hy1,hF⟩:=qd hF
  have he1:=qav hy1
  obtain ⟨S3,S4,cs1,h⟩:=h.take hy1
  obtain ⟨p2,k2,p3,k3,p4,k4,rfl,-,-,-⟩:=qH (h.own 0 rfl)
  obtain ⟨S5,S6,S7,h⟩:=qq5 h
  obtain ⟨b1,hp1,-,-,hl2⟩:=h.holeAt 3 rfl
  obtain ⟨q1,hq1⟩:∃ q,q=0+(i2).toNat*GoT.k qp:=⟨_,rfl⟩
  refine zx hp1 hq1 ⟨he1.1,qw he1.2.1 hl2⟩ rfl (zp1 rfl (qeY qc 3 0 h rfl hp1 hq1 rfl rfl rfl rfl rfl rfl fun w3 h=>?_))
  replace h:SH _ _ (Ch.own S7 (y1.Ay:List Int) [.slice p4 y1.Ay.length k4]::Ch.own S6 (y1.Ap:List qC) [.slice p3 y1.Ap.length k3]::Ch.own S5 (y1.Am:List qU) [.slice p2 y1.Am.length k2]::Ch.hole S4 (x1:List qp) p1 a.length k1 (i2).toNat [.string r1,.int .i64 y1.Aq,.slice p2 y1.Am.length k2,.slice p3 y1.Ap.length k3,.slice p4 y1.Ay.length k4,.int .i64 y1.Bn,.int .i64 y1.Bf]::F):=h
  refine X0 12 rfl ?_
  obtain ⟨b2,hp2,-,-,hl4⟩:=h.holeAt 3 rfl
  obtain ⟨q2,hq2⟩:∃ q,q=0+(i2).toNat*GoT.k qp:=⟨_,rfl⟩
  refine zx hp2 hq2 ⟨he1.1,qw he1.2.1 hl4⟩ rfl (zp1 rfl (qeY qc 3 1 h rfl hp2 hq2 rfl rfl rfl rfl rfl rfl fun w4 h=>X0 11 rfl ?_))
  obtain ⟨b3,hp3,-,-,hl6⟩:=h.holeAt 3 rfl
  obtain ⟨q3,hq3⟩:∃ q,q=0+(i2).toNat*GoT.k qp:=⟨_,rfl⟩
  refine zx hp3 hq3 ⟨he1.1,qw he1.2.1 hl6⟩ rfl (zp1 rfl (zc 2 (qaZ h 3 rfl hp3 hq3) rfl (zp1 rfl ?_)))
  replace h:=h.pickT 4 [2,0,1,3] rfl
  obtain ⟨o2,hr2,hF⟩:=qd hF
  obtain ⟨r2,x2⟩:=o2
  refine qbF r2 (cB 175 rfl) (qm1 h hr2) rfl rfl rfl rfl ?_
  rintro w5 ⟨S8,h⟩
  refine X0 6 rfl ?_
  obtain ⟨b4,hp4,-,-,hl8⟩:=h.holeAt 3 rfl
  obtain ⟨q4,hq4⟩:∃ q,q=0+(i2).toNat*GoT.k qp:=⟨_,rfl⟩
  refine zx hp4 hq4 ⟨he1.1,qw he1.2.1 hl8⟩ rfl (zp1 rfl (zc 3 (qaZ h 3 rfl hp4 hq4) rfl (zp1 rfl ?_)))
  replace h:=h.pickT 4 [2,0,1,3] rfl
  obtain ⟨o3,hr3,hF⟩:=qd hF
  obtain ⟨r3,x3⟩:=o3
  refine qbF r3 (cB 176 rfl) (qmL h hr3) rfl rfl rfl rfl ?_
  rintro w6 ⟨S9,h⟩
  refine X0 6 rfl ?_
  obtain ⟨b5,hp5,-,-,hl10⟩:=h.holeAt 3 rfl
  obtain ⟨q5,hq5⟩:∃ q,q=0+(i2).toNat*GoT.k qp:=⟨_,rfl⟩
  refine zx hp5 hq5 ⟨he1.1,qw he1.2.1 hl10⟩ rfl (zp1 rfl (zc 4 (qaZ h 3 rfl hp5 hq5) rfl (zp1 rfl ?_)))
  replace h:=h.pickT 4 [2,0,1,3] rfl
  obtain ⟨o4,hr4,hF⟩:=qd hF
  obtain ⟨r4,x4⟩:=o4
  refine qbF r4 (cB 65 rfl) (qaf h hr4) rfl rfl rfl rfl ?_
  rintro w7 ⟨S10,h⟩
  refine X0 7 rfl ?_
  obtain ⟨b6,hp6,-,-,hl12⟩:=h.holeAt 3 rfl
  obtain ⟨q6,hq6⟩:∃ q,q=0+(i2).toNat*GoT.k qp:=⟨_,rfl⟩
  refine zx hp6 hq6 ⟨he1.1,qw he1.2.1 hl12⟩ rfl (zp1 rfl (qeY qc 3 5 h rfl hp6 hq6 rfl rfl rfl rfl rfl rfl fun w8 h=>X0 12 rfl ?_))
  obtain ⟨b7,hp7,-,-,hl14⟩:=h.holeAt 3 rfl
  obtain ⟨q7,hq7⟩:∃ q,q=0+(i2).toNat*GoT.k qp:=⟨_,rfl⟩
  refine zx hp7 hq7 ⟨he1.1,qw he1.2.1 hl14⟩ rfl (zp1 rfl (qeY qc 3 6 h rfl hp7 hq7 rfl rfl rfl rfl rfl rfl fun w9 h=>?_))
  replace h:SH _ _ (Ch.own S10 (x4:List Int) [.slice p4 y1.Ay.length k4]::Ch.own S9 (x3:List qC) [.slice p3 y1.Ap.length k3]::Ch.own S8 (x2:List qU) [.slice p2 y1.Am.length k2]::Ch.hole S4 (x1:List qp) p1 a.length k1 (i2).toNat [.string r1,.int .i64 (W64 (i1+1)),.slice p2 y1.Am.length k2,.slice p3 y1.Ap.length k3,.slice p4 y1.Ay.length k4,.int .i64 r4,.int .i64 (W64 (r4+1))]::F):=h
  refine X0 12 rfl ?_
  obtain ⟨S11,h⟩:=h.gatherT 4 [3] (qrz (⟨r1,W64 (i1+1),x2,x3,x4,r4,W64 (r4+1)⟩:qp) h (qB (S:=fun _=>False) rfl) (qB (S:=fun _=>False) rfl) (qay 2 h rfl) (qay 1 h rfl) (qay 0 h rfl) (qB (S:=fun _=>False) rfl) (qB (S:=fun _=>False) rfl) (by rfl) (by rfl) (by rfl) (by rfl) (by rfl) (by rfl)) rfl
  replace h:=h.put
  obtain ⟨S12,h⟩:=qlx (S:=_) h
  exact rK ⟨_,_,_,_,hF,rfl,h⟩ rfl
 refine qn rfl ?_
 obtain rfl:=qb hF;replace hF:=hK1
 refine X0 5 rfl ?_
 obtain rfl:=qb hF
 exact qhx qc ⟨_,h⟩ ⟨rfl,trivial⟩
def qgj (n:Nat) (a:qm) (k:Int):Option (Int × (List qp)) :=
 (qjs n a.Ah k).bind fun o=>match o with
  | (r1,x1) =>
   some (r1,x1)
theorem qlr {n:Nat} {w0 w:World} {F:List Ch} {a:qm} {k:Int} {S1:Nat→Prop} {p1:Option Addr} {ln1 k1:Nat} (h:SH w0 w (Ch.own S1 (a.Ah:List qp) [.slice p1 ln1 k1]::F)) {r:(Int × (List qp))} (hF:qgj n a k=some r):RetN Tryz.prog 62 [.agg #[.slice p1 ln1 k1],.int .i64 k] w (fun w'=>∃ Z0:Nat→Prop,SH w0 w' (Ch.own Z0 (r.2:List qp) [.slice p1 ln1 k1]::F)) r.1:=by
 refine qbP Tryz.func62 rfl (m:=10) rfl rfl ?_
 obtain rfl:=(h.sl 0 rfl).2
 refine zSR (qt h rfl rfl fun w1 bb1 h=>X1 7 0 h rfl ?_)
 replace h:=h.pickT 2 [1,0] rfl
 obtain ⟨o1,hr1,hF⟩:=qd hF
 obtain ⟨r1,x1⟩:=o1
 refine qbF r1 (cB 123 rfl) (qmu h hr1) rfl rfl rfl rfl ?_
 rintro w2 ⟨S2,h⟩
 refine X0 7 rfl ?_
 obtain rfl:=qb hF
 replace h:=h.pickT 2 [0] rfl
 exact qhx qc ⟨_,h⟩ ⟨rfl,trivial⟩
def qbS (a:(List qg)):Nat→(List qg)→Int→Int→Option ((List qg) × Int × Int)
 | 0,_,_,_=>none
 | n+1,x1,i1,i2 =>
  bif decide (i2<(a.length:Int)) then
   (qdF n i1).bind fun r1 =>
   (idx x1 i2).bind fun y1 =>
   (qai n y1.Af (W64 ((W64 (i1+1))+1))).bind fun o=>match o with
    | (r2,x2) =>
     qbS a n (setS x1 i2 (⟨r1,W64 (i1+1),x2⟩:qg)) r2 (W64 (i2+1))
  else
   some (x1,i1,i2)
def qgQ (n:Nat) (a:(List qg)) (k:Int):Option (Int × (List qg)) :=
 (qbS a n a k 0).bind fun o=>match o with
 | (x1,i1,_) =>
  some (i1,x1)
theorem qkC {n:Nat} {w0 w:World} {F:List Ch} {a:(List qg)} {k:Int} {S1:Nat→Prop} {p1:Option Addr} {ln1 k1:Nat} (h:SH w0 w (Ch.own S1 (a:List qg) [.slice p1 ln1 k1]::F)) {r:(Int × (List qg))} (hF:qgQ n a k=some r):RetN Tryz.prog 124 [.slice p1 ln1 k1,.int .i64 k] w (fun w'=>∃ Z0:Nat→Prop,SH w0 w' (Ch.own Z0 (r.2:List qg) [.slice p1 ln1 k1]::F)) r.1:=by
 refine qbP Tryz.func124 rfl (m:=35) rfl rfl ?_
 obtain rfl:=(h.sl 0 rfl).2
 refine X0 9 rfl ?_
 obtain ⟨o1,hF,hK1⟩:=qd hF
 refine qk (rL (fun m e w'=>∃ (S2:Nat→Prop) (x1:(List qg)) (i1:Int) (i2:Int),qbS a m x1 i1 i2=some o1∧e=[(0,.slice p1 a.length k1),(1,.int .i64 i1),(5,.int .i64 i2)]∧SH w0 w' (Ch.own S2 (x1:List qg) [.slice p1 a.length k1]::F)) n ⟨_,_,_,_,hF,rfl,h⟩ rfl ?_)
 rintro m1 e1 w1 ⟨S2,x1,i1,i2,hF,rfl,h⟩
 rcases m1 with _|m1
 ·cases hF
 refine X0 8 rfl (qj rfl hF ?_ ?_)<;>intro hF
 ·refine X0 8 rfl (zcS h hF qfa rfl fun r1 w2 h hF=>?_)
  obtain ⟨y1,hy1,hF⟩:=qd hF
  have he1:=qav hy1
  obtain ⟨S3,S4,cs1,h⟩:=h.take hy1
  obtain ⟨p2,k2,rfl,-⟩:=qJ (h.own 0 rfl)
  obtain ⟨S5,h⟩:=qn3 h
  obtain ⟨b1,hp1,-,-,hl2⟩:=h.holeAt 1 rfl
  obtain ⟨q1,hq1⟩:∃ q,q=0+(i2).toNat*GoT.k qg:=⟨_,rfl⟩
  refine zx hp1 hq1 ⟨he1.1,qw he1.2.1 hl2⟩ rfl (zp1 rfl (qeY qc 1 0 h rfl hp1 hq1 rfl rfl rfl rfl rfl rfl fun w3 h=>X0 12 rfl ?_))
  obtain ⟨b2,hp2,-,-,hl4⟩:=h.holeAt 1 rfl
  obtain ⟨q2,hq2⟩:∃ q,q=0+(i2).toNat*GoT.k qg:=⟨_,rfl⟩
  refine zx hp2 hq2 ⟨he1.1,qw he1.2.1 hl4⟩ rfl (zp1 rfl (qeY qc 1 1 h rfl hp2 hq2 rfl rfl rfl rfl rfl rfl fun w4 h=>?_))
  replace h:SH _ _ (Ch.own S5 (y1.Af:List Int) [.slice p2 y1.Af.length k2]::Ch.hole S4 (x1:List qg) p1 a.length k1 (i2).toNat [.string r1,.int .i64 (W64 (i1+1)),.slice p2 y1.Af.length k2]::F):=h
  refine X0 10 rfl ?_
  obtain ⟨b3,hp3,-,-,hl6⟩:=h.holeAt 1 rfl
  obtain ⟨q3,hq3⟩:∃ q,q=0+(i2).toNat*GoT.k qg:=⟨_,rfl⟩
  refine zx hp3 hq3 ⟨he1.1,qw he1.2.1 hl6⟩ rfl (zp1 rfl (zc 2 (qaZ h 1 rfl hp3 hq3) rfl (zp1 rfl ?_)))
  obtain ⟨o2,hr2,hF⟩:=qd hF
  obtain ⟨r2,x2⟩:=o2
  refine qbF r2 (cB 65 rfl) (qaf h hr2) rfl rfl rfl rfl ?_
  rintro w5 ⟨S6,h⟩
  refine X0 8 rfl ?_
  obtain ⟨S7,h⟩:=h.gatherT 2 [1] (qmK (⟨r1,W64 (i1+1),x2⟩:qg) h (qB (S:=fun _=>False) rfl) (qB (S:=fun _=>False) rfl) (qay 0 h rfl) (by rfl) (by rfl)) rfl
  replace h:=h.put
  obtain ⟨S8,h⟩:=qlx (S:=_) h
  exact rK ⟨_,_,_,_,hF,rfl,h⟩ rfl
 refine qn rfl ?_
 obtain rfl:=qb hF;replace hF:=hK1
 refine X0 5 rfl ?_
 obtain rfl:=qb hF
 exact qhx qc ⟨_,h⟩ ⟨rfl,trivial⟩
def qcy (a:(List ByteArray)):Nat→(List ByteArray)→Int→Int→Option ((List ByteArray) × Int × Int)
 | 0,_,_,_=>none
 | n+1,x1,i1,i2 =>
  bif decide (i2<(a.length:Int)) then
   (qdF n i1).bind fun r1 =>
   (idx x1 i2).bind fun _ =>
   qcy a n (setS x1 i2 r1) (W64 (i1+1)) (W64 (i2+1))
  else
   some (x1,i1,i2)
def qhQ (n:Nat) (a:(List ByteArray)) (k:Int):Option (Int × (List ByteArray)) :=
 (qcy a n a k 0).bind fun o=>match o with
 | (x1,i1,_) =>
  some (i1,x1)
theorem qli {n:Nat} {w0 w:World} {F:List Ch} {a:(List ByteArray)} {k:Int} {S1:Nat→Prop} {p1:Option Addr} {ln1 k1:Nat} (h:SH w0 w (Ch.own S1 (a:List ByteArray) [.slice p1 ln1 k1]::F)) {r:(Int × (List ByteArray))} (hF:qhQ n a k=some r):RetN Tryz.prog 125 [.slice p1 ln1 k1,.int .i64 k] w (fun w'=>∃ Z0:Nat→Prop,SH w0 w' (Ch.own Z0 (r.2:List ByteArray) [.slice p1 ln1 k1]::F)) r.1:=by
 refine qbP Tryz.func125 rfl (m:=20) rfl rfl ?_
 obtain rfl:=(h.sl 0 rfl).2
 refine X0 9 rfl ?_
 obtain ⟨o1,hF,hK1⟩:=qd hF
 refine qk (rL (fun m e w'=>∃ (x1:(List ByteArray)) (i1:Int) (i2:Int),qcy a m x1 i1 i2=some o1∧e=[(0,.slice p1 a.length k1),(1,.int .i64 i1),(5,.int .i64 i2)]∧SH w0 w' (Ch.own S1 (x1:List ByteArray) [.slice p1 a.length k1]::F)) n ⟨_,_,_,hF,rfl,h⟩ rfl ?_)
 rintro m1 e1 w1 ⟨x1,i1,i2,hF,rfl,h⟩
 rcases m1 with _|m1
 ·cases hF
 refine X0 8 rfl (qj rfl hF ?_ ?_)<;>intro hF
 ·refine X0 8 rfl (zcS h hF qfa rfl fun r1 w2 h hF=>?_)
  obtain ⟨y1,hy1,hF,he1,b1,_,q1,cs1,hp1,hq1,rfl,hc2⟩:=(h.sl 0 rfl).1.ix hF
  exact zx hp1 hq1 ⟨he1.1,qw he1.2.1 (h.sl 0 rfl).2⟩ rfl (qaS qc 0 0 r1 h rfl hy1 hp1 hq1 rfl hc2 rfl rfl rfl rfl rfl rfl rfl fun w3 h=>X0 12 rfl (rK ⟨_,_,_,hF,rfl,h⟩ rfl))
 refine qn rfl ?_
 obtain rfl:=qb hF;replace hF:=hK1
 refine X0 5 rfl ?_
 obtain rfl:=qb hF
 exact qhx qc ⟨_,h⟩ ⟨rfl,trivial⟩
def qc9 (a:(List qF)):Nat→(List qF)→Int→Int→Option ((List qF) × Int × Int)
 | 0,_,_,_=>none
 | n+1,x1,i1,i2 =>
  bif decide (i2<(a.length:Int)) then
   (qdF n i1).bind fun r1 =>
   (idx x1 i2).bind fun y1 =>
   (idx (setS x1 i2 ({ y1 with Ar:=r1 })) i2).bind fun y2 =>
   (idx (setS (setS x1 i2 ({ y1 with Ar:=r1 })) i2 ({ y2 with Bl:=W64 (i1+1) })) i2).bind fun y3 =>
   qc9 a n (setS (setS (setS x1 i2 ({ y1 with Ar:=r1 })) i2 ({ y2 with Bl:=W64 (i1+1) })) i2 ({ y3 with Bo:=W64 ((W64 (i1+1))+1) })) (W64 ((W64 ((W64 (i1+1))+1))+1)) (W64 (i2+1))
  else
   some (x1,i1,i2)
def qjb (n:Nat) (a:(List qF)) (k:Int):Option (Int × (List qF)) :=
 (qc9 a n a k 0).bind fun o=>match o with
 | (x1,i1,_) =>
  some (i1,x1)
theorem qmg {n:Nat} {w0 w:World} {F:List Ch} {a:(List qF)} {k:Int} {S1:Nat→Prop} {p1:Option Addr} {ln1 k1:Nat} (h:SH w0 w (Ch.own S1 (a:List qF) [.slice p1 ln1 k1]::F)) {r:(Int × (List qF))} (hF:qjb n a k=some r):RetN Tryz.prog 126 [.slice p1 ln1 k1,.int .i64 k] w (fun w'=>∃ Z0:Nat→Prop,SH w0 w' (Ch.own Z0 (r.2:List qF) [.slice p1 ln1 k1]::F)) r.1:=by
 refine qbP Tryz.func126 rfl (m:=35) rfl rfl ?_
 obtain rfl:=(h.sl 0 rfl).2
 refine X0 9 rfl ?_
 obtain ⟨o1,hF,hK1⟩:=qd hF
 refine qk (rL (fun m e w'=>∃ (x1:(List qF)) (i1:Int) (i2:Int),qc9 a m x1 i1 i2=some o1∧e=[(0,.slice p1 a.length k1),(1,.int .i64 i1),(5,.int .i64 i2)]∧SH w0 w' (Ch.own S1 (x1:List qF) [.slice p1 a.length k1]::F)) n ⟨_,_,_,hF,rfl,h⟩ rfl ?_)
 rintro m1 e1 w1 ⟨x1,i1,i2,hF,rfl,h⟩
 rcases m1 with _|m1
 ·cases hF
 refine X0 8 rfl (qj rfl hF ?_ ?_)<;>intro hF
 ·refine X0 8 rfl (zcS h hF qfa rfl fun r1 w2 h hF=>?_)
  obtain ⟨y1,hy1,hF,he1,b1,_,q1,cs1,hp1,hq1,hr2,hc2⟩:=(h.sl 0 rfl).1.ix hF
  obtain rfl:=qat hr2
  refine zx hp1 hq1 ⟨he1.1,qw he1.2.1 (h.sl 0 rfl).2⟩ rfl (zp1 rfl (qaS qc 0 0 ({ y1 with Ar:=r1 }:qF) h rfl hy1 hp1 hq1 (qdT y1) hc2 rfl rfl rfl (qdT ({ y1 with Ar:=r1 })) rfl rfl rfl fun w3 h=>X0 12 rfl ?_))
  obtain ⟨y2,hy2,hF,he2,b2,_,q2,cs2,hp2,hq2,hr3,hc3⟩:=(h.sl 0 rfl).1.ix hF
  obtain rfl:=qat hr3
  refine zx hp2 hq2 ⟨he2.1,qw he2.2.1 (h.sl 0 rfl).2⟩ rfl (zp1 rfl (qaS qc 0 1 ({ y2 with Bl:=W64 (i1+1) }:qF) h rfl hy2 hp2 hq2 (qdT y2) hc3 rfl rfl rfl (qdT ({ y2 with Bl:=W64 (i1+1) })) rfl rfl rfl fun w4 h=>X0 12 rfl ?_))
  obtain ⟨y3,hy3,hF,he3,b3,_,q3,cs3,hp3,hq3,hr4,hc4⟩:=(h.sl 0 rfl).1.ix hF
  obtain rfl:=qat hr4
  exact zx hp3 hq3 ⟨he3.1,qw he3.2.1 (h.sl 0 rfl).2⟩ rfl (zp1 rfl (qaS qc 0 2 ({ y3 with Bo:=W64 ((W64 (i1+1))+1) }:qF) h rfl hy3 hp3 hq3 (qdT y3) hc4 rfl rfl rfl (qdT ({ y3 with Bo:=W64 ((W64 (i1+1))+1) })) rfl rfl rfl fun w5 h=>X0 12 rfl (rK ⟨_,_,_,hF,rfl,h⟩ rfl)))
 refine qn rfl ?_
 obtain rfl:=qb hF;replace hF:=hK1
 refine X0 5 rfl ?_
 obtain rfl:=qb hF
 exact qhx qc ⟨_,h⟩ ⟨rfl,trivial⟩
def qgI (n:Nat) (a:qe) (k:Int):Option (Int × (List qg) × (List ByteArray) × (List qF)) :=
 (qgQ n a.Aa k).bind fun o=>match o with
  | (r1,x1) =>
   (qhQ n a.Af r1).bind fun o=>match o with
    | (r2,x2) =>
     (qjb n a.Ac r2).bind fun o=>match o with
      | (r3,x3) =>
       some (r3,x1,x2,x3)
theorem qlV {n:Nat} {w0 w:World} {F:List Ch} {a:qe} {k:Int} {S1:Nat→Prop} {p1:Option Addr} {ln1 k1:Nat} {S2:Nat→Prop} {p2:Option Addr} {ln2 k2:Nat} {S3:Nat→Prop} {p3:Option Addr} {ln3 k3:Nat} (h:SH w0 w (Ch.own S3 (a.Ac:List qF) [.slice p3 ln3 k3]::Ch.own S2 (a.Af:List ByteArray) [.slice p2 ln2 k2]::Ch.own S1 (a.Aa:List qg) [.slice p1 ln1 k1]::F)) {r:(Int × (List qg) × (List ByteArray) × (List qF))} (hF:qgI n a k=some r):RetN Tryz.prog 63 [.agg #[.slice p1 ln1 k1,.slice p2 ln2 k2,.slice p3 ln3 k3],.int .i64 k] w (fun w'=>∃ Z0 Z1 Z2:Nat→Prop,SH w0 w' (Ch.own Z2 (r.2.2.2:List qF) [.slice p3 ln3 k3]::Ch.own Z1 (r.2.2.1:List ByteArray) [.slice p2 ln2 k2]::Ch.own Z0 (r.2.1:List qg) [.slice p1 ln1 k1]::F)) r.1:=by
 refine qbP Tryz.func63 rfl (m:=18) rfl rfl ?_
 obtain rfl:=(h.sl 0 rfl).2
 obtain rfl:=(h.sl 1 rfl).2
 obtain rfl:=(h.sl 2 rfl).2
 refine zSR (qt h rfl rfl fun w1 bb1 h=>X1 7 0 h rfl ?_)
 replace h:=h.pickT 4 [3,0,1,2] rfl
 obtain ⟨o1,hr1,hF⟩:=qd hF
 obtain ⟨r1,x1⟩:=o1
 refine qbF r1 (cB 124 rfl) (qkC h hr1) rfl rfl rfl rfl ?_
 rintro w2 ⟨S4,h⟩
 refine X1 7 1 h rfl ?_
 replace h:=h.pickT 4 [3,0,1,2] rfl
 obtain ⟨o2,hr2,hF⟩:=qd hF
 obtain ⟨r2,x2⟩:=o2
 refine qbF r2 (cB 125 rfl) (qli h hr2) rfl rfl rfl rfl ?_
 rintro w3 ⟨S5,h⟩
 refine X1 7 2 h rfl ?_
 replace h:=h.pickT 4 [3,0,1,2] rfl
 obtain ⟨o3,hr3,hF⟩:=qd hF
 obtain ⟨r3,x3⟩:=o3
 refine qbF r3 (cB 126 rfl) (qmg h hr3) rfl rfl rfl rfl ?_
 rintro w4 ⟨S6,h⟩
 refine X0 7 rfl ?_
 obtain rfl:=qb hF
 replace h:=h.pickT 4 [0,1,2] rfl
 exact qhx qc ⟨_,_,_,h⟩ ⟨rfl,trivial⟩
def qdc (a:(List qy)):Nat→(List qy)→Int→Int→Option ((List qy) × Int × Int)
 | 0,_,_,_=>none
 | n+1,x1,i1,i2 =>
  bif decide (i2<(a.length:Int)) then
   (idx x1 i2).bind fun y1 =>
   (qai n y1.Ak i1).bind fun o=>match o with
    | (r1,x2) =>
     (qai n y1.Bm r1).bind fun o=>match o with
      | (r2,x3) =>
       (qai n y1.Bj r2).bind fun o=>match o with
        | (r3,x4) =>
         (qai n y1.Be r3).bind fun o=>match o with
          | (r4,x5) =>
           qdc a n (setS x1 i2 (⟨x2,x3,x4,x5⟩:qy)) r4 (W64 (i2+1))
  else
   some (x1,i1,i2)
def qjt (n:Nat) (a:(List qy)) (k:Int):Option (Int × (List qy)) :=
 (qdc a n a k 0).bind fun o=>match o with
 | (x1,i1,_) =>
  some (i1,x1)
theorem ql9 {n:Nat} {w0 w:World} {F:List Ch} {a:(List qy)} {k:Int} {S1:Nat→Prop} {p1:Option Addr} {ln1 k1:Nat} (h:SH w0 w (Ch.own S1 (a:List qy) [.slice p1 ln1 k1]::F)) {r:(Int × (List qy))} (hF:qjt n a k=some r):RetN Tryz.prog 64 [.slice p1 ln1 k1,.int .i64 k] w (fun w'=>∃ Z0:Nat→Prop,SH w0 w' (Ch.own Z0 (r.2:List qy) [.slice p1 ln1 k1]::F)) r.1:=by
 refine qbP Tryz.func64 rfl (m:=41) rfl rfl ?_
 obtain rfl:=(h.sl 0 rfl).2
 refine X0 9 rfl ?_
 obtain ⟨o1,hF,hK1⟩:=qd hF
 refine qk (rL (fun m e w'=>∃ (S2:Nat→Prop) (x1:(List qy)) (i1:Int) (i2:Int),qdc a m x1 i1 i2=some o1∧e=[(0,.slice p1 a.length k1),(1,.int .i64 i1),(5,.int .i64 i2)]∧SH w0 w' (Ch.own S2 (x1:List qy) [.slice p1 a.length k1]::F)) n ⟨_,_,_,_,hF,rfl,h⟩ rfl ?_)
 rintro m1 e1 w1 ⟨S2,x1,i1,i2,hF,rfl,h⟩
 rcases m1 with _|m1
 ·cases hF
 refine X0 8 rfl (qj rfl hF ?_ ?_)<;>intro hF
 ·refine X0 7 rfl ?_
  obtain ⟨y1,hy1,hF⟩:=qd hF
  have he1:=qav hy1
  obtain ⟨S3,S4,cs1,h⟩:=h.take hy1
  obtain ⟨p2,k2,p3,k3,p4,k4,p5,k5,rfl,-,-,-,-⟩:=qa7 (h.own 0 rfl)
  obtain ⟨S5,S6,S7,S8,h⟩:=qrt h
  obtain ⟨b1,hp1,-,-,hl2⟩:=h.holeAt 4 rfl
  obtain ⟨q1,hq1⟩:∃ q,q=0+(i2).toNat*GoT.k qy:=⟨_,rfl⟩
  refine zx hp1 hq1 ⟨he1.1,qw he1.2.1 hl2⟩ rfl (zp1 rfl (zc 0 (qaZ h 4 rfl hp1 hq1) rfl (zp1 rfl ?_)))
  replace h:=h.pickT 5 [3,0,1,2,4] rfl
  obtain ⟨o2,hr1,hF⟩:=qd hF
  obtain ⟨r1,x2⟩:=o2
  refine qbF r1 (cB 65 rfl) (qaf h hr1) rfl rfl rfl rfl ?_
  rintro w2 ⟨S9,h⟩
  refine X0 6 rfl ?_
  obtain ⟨b2,hp2,-,-,hl4⟩:=h.holeAt 4 rfl
  obtain ⟨q2,hq2⟩:∃ q,q=0+(i2).toNat*GoT.k qy:=⟨_,rfl⟩
  refine zx hp2 hq2 ⟨he1.1,qw he1.2.1 hl4⟩ rfl (zp1 rfl (zc 1 (qaZ h 4 rfl hp2 hq2) rfl (zp1 rfl ?_)))
  replace h:=h.pickT 5 [3,0,1,2,4] rfl
  obtain ⟨o3,hr2,hF⟩:=qd hF
  obtain ⟨r2,x3⟩:=o3
  refine qbF r2 (cB 65 rfl) (qaf h hr2) rfl rfl rfl rfl ?_
  rintro w3 ⟨S10,h⟩
  refine X0 6 rfl ?_
  obtain ⟨b3,hp3,-,-,hl6⟩:=h.holeAt 4 rfl
  obtain ⟨q3,hq3⟩:∃ q,q=0+(i2).toNat*GoT.k qy:=⟨_,rfl⟩
  refine zx hp3 hq3 ⟨he1.1,qw he1.2.1 hl6⟩ rfl (zp1 rfl (zc 2 (qaZ h 4 rfl hp3 hq3) rfl (zp1 rfl ?_)))
  replace h:=h.pickT 5 [3,0,1,2,4] rfl
  obtain ⟨o4,hr3,hF⟩:=qd hF
  obtain ⟨r3,x4⟩:=o4
  refine qbF r3 (cB 65 rfl) (qaf h hr3) rfl rfl rfl rfl ?_
  rintro w4 ⟨S11,h⟩
  refine X0 5 rfl ?_
  obtain ⟨b4,hp4,-,-,hl8⟩:=h.holeAt 4 rfl
  obtain ⟨q4,hq4⟩:∃ q,q=0+(i2).toNat*GoT.k qy:=⟨_,rfl⟩
  refine zx hp4 hq4 ⟨he1.1,qw he1.2.1 hl8⟩ rfl (zp1 rfl (zc 3 (qaZ h 4 rfl hp4 hq4) rfl (zp1 rfl ?_)))
  replace h:=h.pickT 5 [3,0,1,2,4] rfl
  obtain ⟨o5,hr4,hF⟩:=qd hF
  obtain ⟨r4,x5⟩:=o5
  refine qbF r4 (cB 65 rfl) (qaf h hr4) rfl rfl rfl rfl ?_
  rintro w5 ⟨S12,h⟩
  refine X0 8 rfl ?_
  obtain ⟨S13,h⟩:=h.gatherT 5 [4] (qrB (⟨x2,x3,x4,x5⟩:qy) h (qay 3 h rfl) (qay 2 h rfl) (qay 1 h rfl) (qay 0 h rfl) (by rfl) (by rfl) (by rfl)) rfl
  replace h:=h.put
  obtain ⟨S14,h⟩:=qlx (S:=_) h
  exact rK ⟨_,_,_,_,hF,rfl,h⟩ rfl
 refine qn rfl ?_
 obtain rfl:=qb hF;replace hF:=hK1
 refine X0 5 rfl ?_
 obtain rfl:=qb hF
 exact qhx qc ⟨_,h⟩ ⟨rfl,trivial⟩
def qhz (n:Nat) (a:qi) (k:Int):Option (Int × (List qp) × (List qg) × (List ByteArray) × (List qF) × (List qy)) :=
 (qgj n (⟨a.Ai.Ah⟩:qm) k).bind fun o=>match o with
  | (r1,x1) =>
   (qgI n (⟨a.Ab.Aa,a.Ab.Af,a.Ab.Ac⟩:qe) r1).bind fun o=>match o with
    | (r2,x2,x3,x4) =>
     (qjt n a.Aj r2).bind fun o=>match o with
      | (r3,x5) =>
       some (r3,x1,x2,x3,x4,x5)
theorem qma {n:Nat} {w0 w:World} {F:List Ch} {a:qi} {k:Int} {S1:Nat→Prop} {p1:Option Addr} {ln1 k1:Nat} {S2:Nat→Prop} {p2:Option Addr} {ln2 k2:Nat} {S3:Nat→Prop} {p3:Option Addr} {ln3 k3:Nat} {S4:Nat→Prop} {p4:Option Addr} {ln4 k4:Nat} {S5:Nat→Prop} {p5:Option Addr} {ln5 k5:Nat} (h:SH w0 w (Ch.own S5 (a.Aj:List qy) [.slice p5 ln5 k5]::Ch.own S4 (a.Ab.Ac:List qF) [.slice p4 ln4 k4]::Ch.own S3 (a.Ab.Af:List ByteArray) [.slice p3 ln3 k3]::Ch.own S2 (a.Ab.Aa:List qg) [.slice p2 ln2 k2]::Ch.own S1 (a.Ai.Ah:List qp) [.slice p1 ln1 k1]::F)) {r:(Int × (List qp) × (List qg) × (List ByteArray) × (List qF) × (List qy))} (hF:qhz n a k=some r):RetN Tryz.prog 25 [.agg #[.slice p1 ln1 k1,.slice p2 ln2 k2,.slice p3 ln3 k3,.slice p4 ln4 k4,.slice p5 ln5 k5],.int .i64 k] w (fun w'=>∃ Z0 Z1 Z2 Z3 Z4:Nat→Prop,SH w0 w' (Ch.own Z4 (r.2.2.2.2.2:List qy) [.slice p5 ln5 k5]::Ch.own Z3 (r.2.2.2.2.1:List qF) [.slice p4 ln4 k4]::Ch.own Z2 (r.2.2.2.1:List ByteArray) [.slice p3 ln3 k3]::Ch.own Z1 (r.2.2.1:List qg) [.slice p2 ln2 k2]::Ch.own Z0 (r.2.1:List qp) [.slice p1 ln1 k1]::F)) r.1:=by
 refine qbP Tryz.func25 rfl (m:=18) rfl rfl ?_
 obtain rfl:=(h.sl 0 rfl).2
 obtain rfl:=(h.sl 1 rfl).2
 obtain rfl:=(h.sl 2 rfl).2
 obtain rfl:=(h.sl 3 rfl).2
 obtain rfl:=(h.sl 4 rfl).2
 refine zSR (qt h rfl rfl fun w1 bb1 h=>X1 7 0 h rfl ?_)
 replace h:=h.pickT 6 [5,0,1,2,3,4] rfl
 obtain ⟨o1,hr1,hF⟩:=qd hF
 obtain ⟨r1,x1⟩:=o1
 refine qbF r1 (cB 62 rfl) (qlr h hr1) rfl rfl rfl rfl ?_
 rintro w2 ⟨S6,h⟩
 refine X1 7 1 h rfl ?_
 replace h:=h.pickT 6 [3,4,5,0,1,2] rfl
 obtain ⟨o2,hr2,hF⟩:=qd hF
 obtain ⟨r2,x2,x3,x4⟩:=o2
 refine qbF r2 (cB 63 rfl) (qlV h hr2) rfl rfl rfl rfl ?_
 rintro w3 ⟨S7,S8,S9,h⟩
 refine X1 7 4 h rfl ?_
 replace h:=h.pickT 6 [5,0,1,2,3,4] rfl
 obtain ⟨o3,hr3,hF⟩:=qd hF
 obtain ⟨r3,x5⟩:=o3
 refine qbF r3 (cB 64 rfl) (ql9 h hr3) rfl rfl rfl rfl ?_
 rintro w4 ⟨S10,h⟩
 refine X0 7 rfl ?_
 obtain rfl:=qb hF
 replace h:=h.pickT 6 [0,1,2,3,4] rfl
 exact qhx qc ⟨_,_,_,_,_,h⟩ ⟨rfl,trivial⟩
def qbG (a:(List qa)):Nat→(List qa)→Int→Int→Option ((List qa) × Int × Int)
 | 0,_,_,_=>none
 | n+1,x1,i1,i2 =>
  bif decide (i2<(a.length:Int)) then
   (idx x1 i2).bind fun y1 =>
   (qai n y1.Av (W64 ((W64 (i1+1))+1))).bind fun o=>match o with
    | (r1,x2) =>
     (qai n y1.As r1).bind fun o=>match o with
      | (r2,x3) =>
       (qai n y1.To r2).bind fun o=>match o with
        | (r3,x4) =>
         qbG a n (setS x1 i2 (⟨i1,W64 (i1+1),x2,x3,x4⟩:qa)) r3 (W64 (i2+1))
  else
   some (x1,i1,i2)
def qgx (n:Nat) (a:(List qa)) (k:Int):Option (Int × (List qa)) :=
 (qbG a n a k 0).bind fun o=>match o with
 | (x1,i1,_) =>
  some (i1,x1)
theorem qkh {n:Nat} {w0 w:World} {F:List Ch} {a:(List qa)} {k:Int} {S1:Nat→Prop} {p1:Option Addr} {ln1 k1:Nat} (h:SH w0 w (Ch.own S1 (a:List qa) [.slice p1 ln1 k1]::F)) {r:(Int × (List qa))} (hF:qgx n a k=some r):RetN Tryz.prog 26 [.slice p1 ln1 k1,.int .i64 k] w (fun w'=>∃ Z0:Nat→Prop,SH w0 w' (Ch.own Z0 (r.2:List qa) [.slice p1 ln1 k1]::F)) r.1:=by
 refine qbP Tryz.func26 rfl (m:=48) rfl rfl ?_
 obtain rfl:=(h.sl 0 rfl).2
 refine X0 9 rfl ?_
 obtain ⟨o1,hF,hK1⟩:=qd hF
 refine qk (rL (fun m e w'=>∃ (S2:Nat→Prop) (x1:(List qa)) (i1:Int) (i2:Int),qbG a m x1 i1 i2=some o1∧e=[(0,.slice p1 a.length k1),(1,.int .i64 i1),(5,.int .i64 i2)]∧SH w0 w' (Ch.own S2 (x1:List qa) [.slice p1 a.length k1]::F)) n ⟨_,_,_,_,hF,rfl,h⟩ rfl ?_)
 rintro m1 e1 w1 ⟨S2,x1,i1,i2,hF,rfl,h⟩
 rcases m1 with _|m1
 ·cases hF
 refine X0 8 rfl (qj rfl hF ?_ ?_)<;>intro hF
 ·refine X0 8 rfl ?_
  obtain ⟨y1,hy1,hF⟩:=qd hF
  have he1:=qav hy1
  obtain ⟨S3,S4,cs1,h⟩:=h.take hy1
  obtain ⟨p2,k2,p3,k3,p4,k4,rfl,-,-,-⟩:=qD (h.own 0 rfl)
  obtain ⟨S5,S6,S7,h⟩:=qna h
  obtain ⟨b1,hp1,-,-,hl2⟩:=h.holeAt 3 rfl
  obtain ⟨q1,hq1⟩:∃ q,q=0+(i2).toNat*GoT.k qa:=⟨_,rfl⟩
  refine zx hp1 hq1 ⟨he1.1,qw he1.2.1 hl2⟩ rfl (zp1 rfl (qeY qc 3 0 h rfl hp1 hq1 rfl rfl rfl rfl rfl rfl fun w2 h=>X0 12 rfl ?_))
  obtain ⟨b2,hp2,-,-,hl4⟩:=h.holeAt 3 rfl
  obtain ⟨q2,hq2⟩:∃ q,q=0+(i2).toNat*GoT.k qa:=⟨_,rfl⟩
  refine zx hp2 hq2 ⟨he1.1,qw he1.2.1 hl4⟩ rfl (zp1 rfl (qeY qc 3 1 h rfl hp2 hq2 rfl rfl rfl rfl rfl rfl fun w3 h=>?_))
  replace h:SH _ _ (Ch.own S7 (y1.To:List Int) [.slice p4 y1.To.length k4]::Ch.own S6 (y1.As:List Int) [.slice p3 y1.As.length k3]::Ch.own S5 (y1.Av:List Int) [.slice p2 y1.Av.length k2]::Ch.hole S4 (x1:List qa) p1 a.length k1 (i2).toNat [.int .i64 i1,.int .i64 (W64 (i1+1)),.slice p2 y1.Av.length k2,.slice p3 y1.As.length k3,.slice p4 y1.To.length k4]::F):=h
  refine X0 11 rfl ?_
  obtain ⟨b3,hp3,-,-,hl6⟩:=h.holeAt 3 rfl
  obtain ⟨q3,hq3⟩:∃ q,q=0+(i2).toNat*GoT.k qa:=⟨_,rfl⟩
  refine zx hp3 hq3 ⟨he1.1,qw he1.2.1 hl6⟩ rfl (zp1 rfl (zc 2 (qaZ h 3 rfl hp3 hq3) rfl (zp1 rfl ?_)))
  replace h:=h.pickT 4 [2,0,1,3] rfl
  obtain ⟨o2,hr1,hF⟩:=qd hF
  obtain ⟨r1,x2⟩:=o2
  refine qbF r1 (cB 65 rfl) (qaf h hr1) rfl rfl rfl rfl ?_
  rintro w4 ⟨S8,h⟩
  refine X0 6 rfl ?_
  obtain ⟨b4,hp4,-,-,hl8⟩:=h.holeAt 3 rfl
  obtain ⟨q4,hq4⟩:∃ q,q=0+(i2).toNat*GoT.k qa:=⟨_,rfl⟩
  refine zx hp4 hq4 ⟨he1.1,qw he1.2.1 hl8⟩ rfl (zp1 rfl (zc 3 (qaZ h 3 rfl hp4 hq4) rfl (zp1 rfl ?_)))
  replace h:=h.pickT 4 [2,0,1,3] rfl
  obtain ⟨o3,hr2,hF⟩:=qd hF
  obtain ⟨r2,x3⟩:=o3
  refine qbF r2 (cB 65 rfl) (qaf h hr2) rfl rfl rfl rfl ?_
  rintro w5 ⟨S9,h⟩
  refine X0 5 rfl ?_
  obtain ⟨b5,hp5,-,-,hl10⟩:=h.holeAt 3 rfl
  obtain ⟨q5,hq5⟩:∃ q,q=0+(i2).toNat*GoT.k qa:=⟨_,rfl⟩
  refine zx hp5 hq5 ⟨he1.1,qw he1.2.1 hl10⟩ rfl (zp1 rfl (zc 4 (qaZ h 3 rfl hp5 hq5) rfl (zp1 rfl ?_)))
  replace h:=h.pickT 4 [2,0,1,3] rfl
  obtain ⟨o4,hr3,hF⟩:=qd hF
  obtain ⟨r3,x4⟩:=o4
  refine qbF r3 (cB 65 rfl) (qaf h hr3) rfl rfl rfl rfl ?_
  rintro w6 ⟨S10,h⟩
  refine X0 8 rfl ?_
  obtain ⟨S11,h⟩:=h.gatherT 4 [3] (ql4 (⟨i1,W64 (i1+1),x2,x3,x4⟩:qa) h (qB (S:=fun _=>False) rfl) (qB (S:=fun _=>False) rfl) (qay 2 h rfl) (qay 1 h rfl) (qay 0 h rfl) (by rfl) (by rfl) (by rfl) (by rfl)) rfl
  replace h:=h.put
  obtain ⟨S12,h⟩:=qlx (S:=_) h
  exact rK ⟨_,_,_,_,hF,rfl,h⟩ rfl
 refine qn rfl ?_
 obtain rfl:=qb hF;replace hF:=hK1
 refine X0 5 rfl ?_
 obtain rfl:=qb hF
 exact qhx qc ⟨_,h⟩ ⟨rfl,trivial⟩
def qcB (a:(List (List Int))):Nat→(List (List Int))→Int→Int→Option ((List (List Int)) × Int × Int)
 | 0,_,_,_=>none
 | n+1,x1,i1,i2 =>
  bif decide (i2<(a.length:Int)) then
   (idx x1 i2).bind fun y1 =>
   (qai n y1 i1).bind fun o=>match o with
    | (r1,x2) =>
     qcB a n (setS x1 i2 x2) r1 (W64 (i2+1))
  else
   some (x1,i1,i2)
def qgl (n:Nat) (a:(List (List Int))) (k:Int):Option (Int × (List (List Int))) :=
 (qcB a n a k 0).bind fun o=>match o with
 | (x1,i1,_) =>
  some (i1,x1)
theorem qk3 {n:Nat} {w0 w:World} {F:List Ch} {a:(List (List Int))} {k:Int} {S1:Nat→Prop} {p1:Option Addr} {ln1 k1:Nat} (h:SH w0 w (Ch.own S1 (a:List (List Int)) [.slice p1 ln1 k1]::F)) {r:(Int × (List (List Int)))} (hF:qgl n a k=some r):RetN Tryz.prog 27 [.slice p1 ln1 k1,.int .i64 k] w (fun w'=>∃ Z0:Nat→Prop,SH w0 w' (Ch.own Z0 (r.2:List (List Int)) [.slice p1 ln1 k1]::F)) r.1:=by
 refine qbP Tryz.func27 rfl (m:=19) rfl rfl ?_
 obtain rfl:=(h.sl 0 rfl).2
 refine X0 9 rfl ?_
 obtain ⟨o1,hF,hK1⟩:=qd hF
 refine qk (rL (fun m e w'=>∃ (S2:Nat→Prop) (x1:(List (List Int))) (i1:Int) (i2:Int),qcB a m x1 i1 i2=some o1∧e=[(0,.slice p1 a.length k1),(1,.int .i64 i1),(5,.int .i64 i2)]∧SH w0 w' (Ch.own S2 (x1:List (List Int)) [.slice p1 a.length k1]::F)) n ⟨_,_,_,_,hF,rfl,h⟩ rfl ?_)
 rintro m1 e1 w1 ⟨S2,x1,i1,i2,hF,rfl,h⟩
 rcases m1 with _|m1
 ·cases hF
 refine X0 8 rfl (qj rfl hF ?_ ?_)<;>intro hF
 ·refine X0 6 rfl ?_
  obtain ⟨y1,hy1,hF⟩:=qd hF
  have he1:=qav hy1
  obtain ⟨S3,S4,cs1,h⟩:=h.take hy1
  obtain ⟨p2,k2,rfl,-⟩:=h.own 0 rfl
  obtain ⟨b1,hp1,-,-,hl2⟩:=h.holeAt 1 rfl
  obtain ⟨q1,hq1⟩:∃ q,q=0+(i2).toNat*GoT.k (List Int):=⟨_,rfl⟩
  refine zx hp1 hq1 ⟨he1.1,qw he1.2.1 hl2⟩ rfl (zc 0 (qaZ h 1 rfl hp1 hq1) rfl (zp1 rfl ?_))
  obtain ⟨o2,hr1,hF⟩:=qd hF
  obtain ⟨r1,x2⟩:=o2
  refine qbF r1 (cB 65 rfl) (qaf h hr1) rfl rfl rfl rfl ?_
  rintro w2 ⟨S5,h⟩
  refine X0 8 rfl ?_
  replace h:=h.put
  obtain ⟨S6,h⟩:=qlx (S:=_) h
  exact rK ⟨_,_,_,_,hF,rfl,h⟩ rfl
 refine qn rfl ?_
 obtain rfl:=qb hF;replace hF:=hK1
 refine X0 5 rfl ?_
 obtain rfl:=qb hF
 exact qhx qc ⟨_,h⟩ ⟨rfl,trivial⟩
def qb0 (a:(List Int)):Nat→Int→Int→Option (Flow Int (Int × Int))
 | 0,_,_=>none
 | n+1,i1,i2 =>
  bif decide (i2<(a.length:Int)) then
   (idx a i2).bind fun y1 =>
   bif (y1 != i1) then some (.ret (-1)) else
   qb0 a n (W64 (i1+1)) (W64 (i2+1))
  else
   some (.nxt (i1,i2))
def qgN (n:Nat) (a:(List Int)) (k:Int):Option Int :=
 (qb0 a n k 0).bind fun o=>match o with
 | .ret r=>some r
 | .nxt (i1,_) =>
  some i1
theorem qmn {a:(List Int)} {k:Int} (ha1:GoT.R w (old w) a cs1) {r:Int} (hF:qgN n a k=some r):RetV Tryz.prog 66 [GoT.v (List Int) cs1,.int .i64 k] w r:=by
 obtain ⟨p1,k1,rfl,s1⟩:=ha1
 refine zV 21 Tryz.func66 rfl fun h=>X0 9 rfl ?_
 obtain ⟨o1,hF,hK1⟩:=qd hF
 refine qk (rL (fun m e w'=>∃ (i1:Int) (i2:Int),qb0 a m i1 i2=some o1∧e=[(0,.slice p1 a.length k1),(1,.int .i64 i1),(5,.int .i64 i2)]∧SH w w' []) n ⟨_,_,hF,rfl,h⟩ rfl ?_)
 rintro m1 e1 w1 ⟨i1,i2,hF,rfl,h⟩
 rcases m1 with _|m1
 ·cases hF
 refine X0 8 rfl (qj rfl hF ?_ ?_)<;>intro hF
 ·refine X0 8 rfl ?_
  obtain ⟨y1,hy1,hF,he1,b1,_,q1,cs2,hp1,hq1,rfl,hc2⟩:=s1.ix hF
  refine zxe hp1 hq1 he1 rfl (zc 0 (hc2.below h.below) rfl (X0 3 rfl (qj rfl hF ?_ ?_)))<;>intro hF
  ·refine X0 4 rfl ?_
   obtain rfl:=qb hF;replace hF:=hK1
   exact ri h hF rfl
  exact X0 12 rfl (rK ⟨_,_,hF,rfl,h⟩ rfl)
 refine qn rfl ?_
 obtain rfl:=qb hF;replace hF:=hK1
 exact X0 5 rfl (ri h hF rfl)
def qcx (a:(List (List Int))):Nat→Int→Int→Option (Flow Int (Int × Int))
 | 0,_,_=>none
 | n+1,i1,i2 =>
  bif decide (i2<(a.length:Int)) then
   (idx a i2).bind fun y1 =>
   (qgN n y1 i1).bind fun r1 =>
   bif decide (r1<0) then some (.ret (-1)) else
   qcx a n r1 (W64 (i2+1))
  else
   some (.nxt (i1,i2))
def qe3 (n:Nat) (a:(List (List Int))) (k:Int):Option Int :=
 (qcx a n k 0).bind fun o=>match o with
 | .ret r=>some r
 | .nxt (i1,_) =>
  some i1
theorem qiD {a:(List (List Int))} {k:Int} (ha1:GoT.R w (old w) a cs1) {r:Int} (hF:qe3 n a k=some r):RetV Tryz.prog 28 [GoT.v (List (List Int)) cs1,.int .i64 k] w r:=by
 obtain ⟨p1,k1,rfl,s1⟩:=ha1
 refine zV 21 Tryz.func28 rfl fun h=>X0 9 rfl ?_
 obtain ⟨o1,hF,hK1⟩:=qd hF
 refine qk (rL (fun m e w'=>∃ (i1:Int) (i2:Int),qcx a m i1 i2=some o1∧e=[(0,.slice p1 a.length k1),(1,.int .i64 i1),(5,.int .i64 i2)]∧SH w w' []) n ⟨_,_,hF,rfl,h⟩ rfl ?_)
 rintro m1 e1 w1 ⟨i1,i2,hF,rfl,h⟩
 rcases m1 with _|m1
 ·cases hF
 refine X0 8 rfl (qj rfl hF ?_ ?_)<;>intro hF
 ·refine X0 7 rfl ?_
  obtain ⟨y1,hy1,hF,he1,b1,_,q1,cs2,hp1,hq1,hr1,hc2⟩:=s1.ix hF
  obtain ⟨p2,k2,rfl,s2⟩:=hr1
  refine zxe hp1 hq1 he1 rfl (zc 0 (hc2.below h.below) rfl (zp1 rfl (zcI h hF (qmn ⟨_,_,rfl,(h.oldS s2)⟩) rfl fun r1 w2 h hF=>X0 7 rfl (qj rfl hF ?_ ?_))))<;>intro hF
  ·refine X0 4 rfl ?_
   obtain rfl:=qb hF;replace hF:=hK1
   exact ri h hF rfl
  exact X0 7 rfl (rK ⟨_,_,hF,rfl,h⟩ rfl)
 refine qn rfl ?_
 obtain rfl:=qb hF;replace hF:=hK1
 exact X0 5 rfl (ri h hF rfl)
def qeF (a:(List (List Int))) (b:(List (List Int))):Nat→Int→Option (Flow Bool Int)
 | 0,_=>none
 | n+1,i1 =>
  bif decide (i1<(a.length:Int)) then
   (idx a i1).bind fun y1 =>
   (idx b i1).bind fun y2 =>
   (qau n y1 y2).bind fun r1 =>
   bif (!r1) then some (.ret false) else
   qeF a b n (W64 (i1+1))
  else
   some (.nxt i1)
def qe1 (n:Nat) (a:(List (List Int))) (b:(List (List Int))):Option Bool :=
 bif ((a.length:Int) != (b.length:Int)) then some false else
 (qeF a b n 0).bind fun o=>match o with
 | .ret r=>some r
 | .nxt _ =>
  some true
theorem qhi {a:(List (List Int))} {b:(List (List Int))} (ha1:GoT.R w (old w) a cs1) (ha2:GoT.R w (old w) b cs2) {r:Bool} (hF:qe1 n a b=some r):RetV Tryz.prog 22 [GoT.v (List (List Int)) cs1,GoT.v (List (List Int)) cs2] w r:=by
 obtain ⟨p1,k1,rfl,s1⟩:=ha1
 obtain ⟨p2,k2,rfl,s2⟩:=ha2
 refine zV 27 Tryz.func22 rfl fun h=>X0 13 rfl (qj rfl hF ?_ ?_)<;>intro hF
 ·exact X0 4 rfl (rb h hF rfl)
 refine X0 6 rfl ?_
 obtain ⟨o1,hF,hK1⟩:=qd hF
 refine qk (rL (fun m e w'=>∃ (i1:Int),qeF a b m i1=some o1∧e=[(0,.slice p1 a.length k1),(1,.slice p2 b.length k2),(5,.int .i64 i1)]∧SH w w' []) n ⟨_,hF,rfl,h⟩ rfl ?_)
 rintro m1 e1 w1 ⟨i1,hF,rfl,h⟩
 rcases m1 with _|m1
 ·cases hF
 refine X0 8 rfl (qj rfl hF ?_ ?_)<;>intro hF
 ·refine X0 4 rfl (rD (zd2 rfl ?_))
  obtain ⟨y1,hy1,hF,he1,b1,_,q1,cs3,hp1,hq1,hr1,hc3⟩:=s1.ix hF
  obtain ⟨p3,k3,rfl,s3⟩:=hr1
  refine zdxe hp1 hq1 he1 rfl (zdc 0 (hc3.below h.below) rfl (zd2 rfl ?_))
  obtain ⟨y2,hy2,hF,he2,b2,_,q2,cs4,hp2,hq2,hr2,hc4⟩:=s2.ix hF
  obtain ⟨p4,k4,rfl,s4⟩:=hr2
  refine zdxe hp2 hq2 he2 rfl (zdc 0 (hc4.below h.below) rfl ?_)
  obtain ⟨r1,hr3,hF⟩:=qd hF
  refine qbU r1 (vsB _) (cB 57 rfl) (fun _ hb=>qaz ⟨_,_,rfl,((h.ext hb).oldS s3)⟩ ⟨_,_,rfl,((h.ext hb).oldS s4)⟩ hr3) rfl rfl rfl rfl (zd1 rfl (dN h fun w2 h=>qj rfl hF ?_ ?_))<;>intro hF
  ·refine X0 4 rfl ?_
   obtain rfl:=qb hF;replace hF:=hK1
   exact rb h hF rfl
  exact X0 7 rfl (rK ⟨_,hF,rfl,h⟩ rfl)
 refine qn rfl ?_
 obtain rfl:=qb hF;replace hF:=hK1
 exact X0 4 rfl (rb h hF rfl)
end Go.Fw


namespace Go.Fw
open Go Go.Proofs
open Go.RowKit (Below)
set_option maxRecDepth 100000
set_option maxHeartbeats 6400000
variable {n:Nat} {w:World} {cs1 cs2 cs3 cs4 cs5 cs6 cs7 cs8 cs9:List Value}
def qgK (_:Nat) (x:Int):Option Bool :=
 some (x != x)
theorem qjh {x:Int}  {r:Bool} (hF:qgK n x=some r):RetV Tryz.prog 222 [.int .i64 x] w r:=by
 exact zV 6 Tryz.func222 rfl fun h=>X0 11 rfl (rb h hF rfl)
def qfV (n:Nat) (x:Int) (y:Int):Option Int :=
 (qgK n x).bind fun r1 =>
 (qgK n y).bind fun r2 =>
 bif r1 then
  bif r2 then some 0 else
  some (-1)
 else
  bif r2 then some 1 else
  bif decide (x<y) then some (-1) else
  bif decide (x > y) then some 1 else
  some 0
theorem qk0 {x:Int} {y:Int}  {r:Int} (hF:qfV n x y=some r):RetV Tryz.prog 198 [.int .i64 x,.int .i64 y] w r:=by
 refine zV 20 Tryz.func198 rfl fun h=>X0 7 rfl (zcB h hF qjh rfl fun r1 w1 h hF=>X0 5 rfl (zcB h hF qjh rfl fun r2 w2 h hF=>X0 7 rfl (qj rfl hF ?_ ?_)))<;>intro hF
 ·refine X0 5 rfl (qj rfl hF ?_ ?_)<;>intro hF
  ·exact X0 4 rfl (ri h hF rfl)
  exact X0 5 rfl (ri h hF rfl)
 refine X0 6 rfl (qj rfl hF ?_ ?_)<;>intro hF
 ·exact X0 4 rfl (ri h hF rfl)
 refine X0 8 rfl (qj rfl hF ?_ ?_)<;>intro hF
 ·exact X0 4 rfl (ri h hF rfl)
 refine X0 8 rfl (qj rfl hF ?_ ?_)<;>intro hF
 ·exact X0 4 rfl (ri h hF rfl)
 exact X0 5 rfl (ri h hF rfl)
def qaD (a_s1:(List Int)) (a_s2:(List Int)):Nat→Int→Option (Flow Int Int)
 | 0,_=>none
 | n+1,i1 =>
  bif decide (i1<(a_s1.length:Int)) then
   (idx a_s1 i1).bind fun y1 =>
   bif decide (i1 ≥ (a_s2.length:Int)) then some (.ret 1) else
   (idx a_s2 i1).bind fun y2 =>
   (qfV n y1 y2).bind fun r1 =>
   bif (r1 != 0) then some (.ret r1) else
   qaD a_s1 a_s2 n (W64 (i1+1))
  else
   some (.nxt i1)
def qc5 (n:Nat) (a_s1:(List Int)) (a_s2:(List Int)):Option Int :=
 (qaD a_s1 a_s2 n 0).bind fun o=>match o with
 | .ret r=>some r
 | .nxt _ =>
  bif decide ((a_s1.length:Int)<(a_s2.length:Int)) then some (-1) else
  some 0
theorem qg5 {a_s1:(List Int)} {a_s2:(List Int)} (ha1:GoT.R w (old w) a_s1 cs1) (ha2:GoT.R w (old w) a_s2 cs2) {r:Int} (hF:qc5 n a_s1 a_s2=some r):RetV Tryz.prog 161 [GoT.v (List Int) cs1,GoT.v (List Int) cs2] w r:=by
 obtain ⟨p1,k1,rfl,s1⟩:=ha1
 obtain ⟨p2,k2,rfl,s2⟩:=ha2
 refine zV 36 Tryz.func161 rfl fun h=>X0 11 rfl ?_
 obtain ⟨o1,hF,hK1⟩:=qd hF
 refine qk (rL (fun m e w'=>∃ (i1:Int),qaD a_s1 a_s2 m i1=some o1∧e=[(0,.slice p1 a_s1.length k1),(1,.slice p2 a_s2.length k2),(9,.slice p1 a_s1.length k1),(10,.int .i64 (a_s1.length:Int)),(11,.int .i64 i1)]∧SH w w' []) n ⟨_,hF,rfl,h⟩ rfl ?_)
 rintro m1 e1 w1 ⟨i1,hF,rfl,h⟩
 rcases m1 with _|m1
 ·cases hF
 refine X0 5 rfl (qj rfl hF ?_ ?_)<;>intro hF
 ·refine X0 6 rfl ?_
  obtain ⟨y1,hy1,hF,he1,b1,_,q1,cs3,hp1,hq1,rfl,hc2⟩:=s1.ix hF
  refine zxe hp1 hq1 he1 rfl (zc 0 (hc2.below h.below) rfl (X0 11 rfl (qj rfl hF ?_ ?_)))<;>intro hF
  ·refine X0 4 rfl ?_
   obtain rfl:=qb hF;replace hF:=hK1
   exact ri h hF rfl
  refine X0 5 rfl ?_
  obtain ⟨y2,hy2,hF,he2,b2,_,q2,cs4,hp2,hq2,rfl,hc4⟩:=s2.ix hF
  refine zxe hp2 hq2 he2 rfl (zc 0 (hc4.below h.below) rfl (X0 6 rfl (zcI h hF qk0 rfl fun r1 w2 h hF=>X0 7 rfl (qj rfl hF ?_ ?_))))<;>intro hF
  ·refine X0 5 rfl ?_
   obtain rfl:=qb hF;replace hF:=hK1
   exact ri h hF rfl
  exact X0 6 rfl (rK ⟨_,hF,rfl,h⟩ rfl)
 refine qn rfl ?_
 obtain rfl:=qb hF;replace hF:=hK1
 refine X0 9 rfl (qj rfl hF ?_ ?_)<;>intro hF
 ·exact X0 4 rfl (ri h hF rfl)
 exact X0 5 rfl (ri h hF rfl)
def qbw (a:(List Int)) (b:(List Int)):Nat→Int→Option (Flow Int Int)
 | 0,_=>none
 | n+1,i1 =>
  bif decide (i1<(a.length:Int)) then
   (idx a i1).bind fun y1 =>
   (idx b i1).bind fun y2 =>
   bif decide (y1<y2) then some (.ret (-1)) else
   (idx a i1).bind fun y3 =>
   (idx b i1).bind fun y4 =>
   bif decide (y3 > y4) then some (.ret 1) else
   qbw a b n (W64 (i1+1))
  else
   some (.nxt i1)
def qfK (n:Nat) (a:(List Int)) (b:(List Int)):Option Int :=
 (qbw a b n 0).bind fun o=>match o with
 | .ret r=>some r
 | .nxt _ =>
  some 0
theorem qju {a:(List Int)} {b:(List Int)} (ha1:GoT.R w (old w) a cs1) (ha2:GoT.R w (old w) b cs2) {r:Int} (hF:qfK n a b=some r):RetV Tryz.prog 164 [GoT.v (List Int) cs1,GoT.v (List Int) cs2] w r:=by
 obtain ⟨p1,k1,rfl,s1⟩:=ha1
 obtain ⟨p2,k2,rfl,s2⟩:=ha2
 refine zV 30 Tryz.func164 rfl fun h=>X0 9 rfl ?_
 obtain ⟨o1,hF,hK1⟩:=qd hF
 refine qk (rL (fun m e w'=>∃ (i1:Int),qbw a b m i1=some o1∧e=[(0,.slice p1 a.length k1),(1,.slice p2 b.length k2),(5,.int .i64 i1)]∧SH w w' []) n ⟨_,hF,rfl,h⟩ rfl ?_)
 rintro m1 e1 w1 ⟨i1,hF,rfl,h⟩
 rcases m1 with _|m1
 ·cases hF
 refine X0 8 rfl (qj rfl hF ?_ ?_)<;>intro hF
 ·refine X0 5 rfl (rD (zd2 rfl ?_))
  obtain ⟨y1,hy1,hF,he1,b1,_,q1,cs3,hp1,hq1,rfl,hc2⟩:=s1.ix hF
  refine zdxe hp1 hq1 he1 rfl (zdc 0 (hc2.below h.below) rfl (zd2 rfl ?_))
  obtain ⟨y2,hy2,hF,he2,b2,_,q2,cs4,hp2,hq2,rfl,hc3⟩:=s2.ix hF
  refine zdxe hp2 hq2 he2 rfl (zdc 0 (hc3.below h.below) rfl (zd1 rfl (dN h fun w2 h=>qj rfl hF ?_ ?_)))<;>intro hF
  ·refine X0 4 rfl ?_
   obtain rfl:=qb hF;replace hF:=hK1
   exact ri h hF rfl
  refine zKS (rD (zd2 rfl ?_))
  obtain ⟨y3,hy3,hF,he3,b3,_,q3,cs5,hp3,hq3,rfl,hc5⟩:=s1.ix hF
  refine zdxe hp3 hq3 he3 rfl (zdc 0 (hc5.below h.below) rfl (zd2 rfl ?_))
  obtain ⟨y4,hy4,hF,he4,b4,_,q4,cs6,hp4,hq4,rfl,hc6⟩:=s2.ix hF
  refine zdxe hp4 hq4 he4 rfl (zdc 0 (hc6.below h.below) rfl (zd1 rfl (dN h fun w3 h=>qj rfl hF ?_ ?_)))<;>intro hF
  ·refine X0 4 rfl ?_
   obtain rfl:=qb hF;replace hF:=hK1
   exact ri h hF rfl
  exact X0 7 rfl (rK ⟨_,hF,rfl,h⟩ rfl)
 refine qn rfl ?_
 obtain rfl:=qb hF;replace hF:=hK1
 exact X0 4 rfl (ri h hF rfl)
def qr (x:(List (List Int))) (target:(List Int)):Nat→Int→Int→Option (Int × Int)
 | 0,_,_=>none
 | n+1,i1,i2 =>
  bif decide (i1<i2) then
   (shrS .u64 (IntKind.wrap .u64 (W64 (i1+i2))) 1).bind fun y1 =>
   (idx x (W64 y1)).bind fun y2 =>
   (qc5 n y2 target).bind fun r1 =>
   bif decide (r1<0) then qr x target n (W64 ((W64 y1)+1)) i2 else
   qr x target n i1 (W64 y1)
  else
   some (i1,i2)
def qac (n:Nat) (x:(List (List Int))) (target:(List Int)):Option (Int × Bool) :=
 (qr x target n 0 (x.length:Int)).bind fun o=>match o with
 | (i1,_) =>
  bif decide (i1<(x.length:Int)) then
   (idx x i1).bind fun y3 =>
   (qc5 n y3 target).bind fun r2 =>
   some (i1,(r2==0))
  else
   some (i1,false)
theorem qdn {x:(List (List Int))} {target:(List Int)} (ha1:GoT.R w (old w) x cs1) (ha2:GoT.R w (old w) target cs2) {r:(Int × Bool)} (hF:qac n x target=some r):RetV Tryz.prog 160 [GoT.v (List (List Int)) cs1,GoT.v (List Int) cs2,.func (.func 161) #[] #[]] w r:=by
 obtain ⟨p1,k1,rfl,s1⟩:=ha1
 obtain ⟨p2,k2,rfl,s2⟩:=ha2
 refine zV 49 Tryz.func160 rfl fun h=>X0 18 rfl ?_
 obtain ⟨o1,hF,hK1⟩:=qd hF
 refine qk (rL (fun m e w'=>∃ (i1:Int) (i2:Int),qr x target m i1 i2=some o1∧e=[(0,.slice p1 x.length k1),(1,.slice p2 target.length k2),(2,.func (.func 161) #[] #[]),(8,.int .i64 (x.length:Int)),(9,.int .i64 i1),(10,.int .i64 i2)]∧SH w w' []) n ⟨_,_,hF,rfl,h⟩ rfl ?_)
 rintro m1 e1 w1 ⟨i1,i2,hF,rfl,h⟩
 rcases m1 with _|m1
 ·cases hF
 refine X0 7 rfl (qj rfl hF ?_ ?_)<;>intro hF
 ·refine X0 8 rfl ?_
  obtain ⟨y1,hx1,hF⟩:=qd hF
  obtain ⟨g1,hx1⟩:=qth hx1
  refine r_v (qwz g1 rfl rfl) rfl ?_
  rw [hx1]
  refine X0 8 rfl ?_
  obtain ⟨y2,hy1,hF,he1,b1,_,q1,cs3,hp1,hq1,hr1,hc2⟩:=s1.ix hF
  obtain ⟨p3,k3,rfl,s3⟩:=hr1
  refine zxe hp1 hq1 he1 rfl (zc 0 (hc2.below h.below) rfl (zp1 rfl (zcI h hF (qg5 ⟨_,_,rfl,(h.oldS s3)⟩ ⟨_,_,rfl,(h.oldS s2)⟩) rfl fun r1 w2 h hF=>X0 2 rfl (qj rfl hF ?_ ?_))))<;>intro hF
  ·exact X0 6 rfl (rK ⟨_,_,hF,rfl,h⟩ rfl)
  exact X0 5 rfl (rK ⟨_,_,hF,rfl,h⟩ rfl)
 refine qn rfl ?_
 obtain rfl:=qb hF;replace hF:=hK1
 refine X0 7 rfl (ql (t:=39) hF rfl ?_ ?_)<;>intro hF
 ·refine X0 7 rfl ?_
  obtain ⟨y3,hy2,hF,he2,b2,_,q2,cs4,hp2,hq2,hr3,hc4⟩:=s1.ix hF
  obtain ⟨p4,k4,rfl,s4⟩:=hr3
  refine zxe hp2 hq2 he2 rfl (X0 1 rfl (zc 0 (hc4.below h.below) rfl (X0 3 rfl (zcI h hF (qg5 ⟨_,_,rfl,(h.oldS s4)⟩ ⟨_,_,rfl,(h.oldS s2)⟩) rfl fun r2 w3 h hF=>X0 6 rfl ?_))))
  obtain rfl:=qb hF
  exact qaA qc (ρ:=(Int × Bool)) [GoT.v Int [.int .i64 i1],GoT.v Bool [.bool (r2==0)]] h ⟨rfl,rfl,trivial⟩ (PV.done h (qbH h (qB (S:=fun _=>False) rfl) (qaN (qB (S:=fun _=>False) rfl)) (by rfl)))
 refine X0 12 rfl ?_
 obtain rfl:=qb hF
 exact qaA qc (ρ:=(Int × Bool)) [GoT.v Int [.int .i64 i1],GoT.v Bool [.bool false]] h ⟨rfl,rfl,trivial⟩ (PV.done h (qbH h (qB (S:=fun _=>False) rfl) (qaN (qB (S:=fun _=>False) rfl)) (by rfl)))
end Go.Fw


namespace Go.Fw
open Go Go.Proofs
open Go.RowKit (Below)
set_option maxRecDepth 100000
set_option maxHeartbeats 6400000
def qg1 (n:Nat) (tags:List (List Int)) (tag:List Int):Option (List (List Int)) :=
 (qac n tags tag).bind fun o=>match o with
  | (i,found)=>bif found then some tags else insS tags i tag
theorem ql8 {n:Nat} {w0 w:World} {F:List Ch} {S S1:Nat→Prop} {tags r:List (List Int)} {tag:List Int} {p p1:Option Addr} {ln c ln1 c1:Nat}
  (h:SH w0 w (Ch.own S1 tag [.slice p1 ln1 c1]::Ch.own S tags [.slice p ln c]::F)) (hF:qg1 n tags tag=some r):RetT Tryz.prog 102 [.slice p ln c,.slice p1 ln1 c1] w w0 F r:=by
 obtain rfl:ln=tags.length:=(h.sl 1 rfl).2
 obtain rfl:ln1=tag.length:=(h.sl 0 rfl).2
 obtain ⟨⟨i,fd⟩,hr,hF⟩:=qd hF
 refine qls Tryz.func102 rfl (m:=20) rfl rfl ?_
 refine X0 8 rfl ?_
 refine qee (i,fd) h (cB 160 rfl) (qdn (h.own 1 rfl) (h.own 0 rfl) hr) rfl rfl rfl rfl fun w2 S2 us hv hr2=>?_
 obtain ⟨S3,us2,rfl,hv2,hr3⟩:=hv.consI hr2
 obtain ⟨rfl,h⟩:=hv2.lastB hr3
 refine X0 11 rfl (qj rfl hF ?_ ?_)<;>intro hF
 ·refine X0 5 rfl ?_
  cases hF
  replace h:=h.pickT 2 [1] rfl
  exact qmf qc h ⟨rfl,trivial⟩
 refine X0 6 rfl ?_
 refine quA qc h rfl rfl rfl rfl rfl rfl rfl rfl rfl fun w3 p2 S4 h=>?_
 refine qoa (cB 162 rfl) (quj h hF) rfl rfl rfl rfl fun w4 S5 p3 k3 h=>?_
 refine X0 2 rfl ?_
 exact qmf qc h ⟨rfl,trivial⟩
end Go.Fw


namespace Go.Fw
open Go Go.Proofs
open Go.RowKit (Below)
set_option maxRecDepth 100000
set_option maxHeartbeats 6400000
def qdZ (list:List (List Int)) (tag:List Int):Nat→Int→Option (Flow (List (List Int)) Int)
 | 0,_=>none
 | n+1,i =>
  bif decide (i<(list.length:Int)) then
   (idx list i).bind fun y =>
   (qfK n y tag).bind fun r =>
   bif (r==0) then some (.ret list) else
   qdZ list tag n (W64 (i+1))
  else some (.nxt i)
def qd4 (list:List (List Int)) (tag:List Int):Nat→Int→Option Int
 | 0,_=>none
 | n+1,a =>
  bif decide (a > 0) then
   (idx list (W64 (a-1))).bind fun y =>
   (qfK n tag y).bind fun r =>
   bif decide (r<0) then qd4 list tag n (W64 (a-1)) else some a
  else some a
def qjL (n:Nat) (list:List (List Int)) (tag:List Int):Option (List (List Int)) :=
 (qdZ list tag n 0).bind fun o=>match o with
  | .ret r=>some r
  | .nxt _=>(qd4 list tag n (list.length:Int)).bind fun a=>insS list a tag
theorem qpf {n:Nat} {w0 w:World} {F:List Ch} {S S1:Nat→Prop} {list r:List (List Int)} {tag:List Int} {p p1:Option Addr} {ln c ln1 c1:Nat}
  (h:SH w0 w (Ch.own S1 tag [.slice p1 ln1 c1]::Ch.own S list [.slice p ln c]::F)) (hF:qjL n list tag=some r):RetT Tryz.prog 104 [.slice p ln c,.slice p1 ln1 c1] w w0 F r:=by
 obtain rfl:ln=list.length:=(h.sl 1 rfl).2
 obtain rfl:ln1=tag.length:=(h.sl 0 rfl).2
 refine qls Tryz.func104 rfl (m:=52) rfl rfl ?_
 refine X0 15 rfl ?_
 obtain ⟨o1,hF,hK1⟩:=qd hF
 refine qk (rL (fun m e w'=>∃ (i1:Int),qdZ list tag m i1=some o1∧e=[(0,.slice p list.length c),(1,.slice p1 tag.length c1),(5,.int .i64 list.length),(6,.int .i64 i1)]∧SH w0 w' (Ch.own S1 tag [.slice p1 tag.length c1]::Ch.own S list [.slice p list.length c]::F)) n ⟨_,hF,rfl,h⟩ rfl ?_)
 rintro m1 e1 w1 ⟨i1,hF,rfl,h⟩
 rcases m1 with _|m1
 ·cases hF
 refine X0 8 rfl (qj rfl hF ?_ ?_)<;>intro hF
 ·refine X0 7 rfl ?_
  obtain ⟨y1,hy1,hF,he1,b1,_,q1,cs3,hp1,hq1,hr1,hc2⟩:=(h.sl 1 rfl).1.ix hF
  obtain ⟨p3,k3,rfl,s3⟩:=hr1
  refine zxe hp1 hq1 he1 rfl (zc 0 hc2 rfl ?_)
  refine X0 1 rfl (zcI h hF (qju ⟨_,_,rfl,s3⟩ (h.own 0 rfl)) rfl fun r1 w2 h hF=>?_)
  refine X0 2 rfl (qj rfl hF ?_ ?_)<;>intro hF
  ·refine X0 5 rfl ?_
   obtain rfl:=qb hF;replace hF:=hK1
   cases hF
   replace h:=h.pickT 2 [1] rfl
   exact qmf qc h ⟨rfl,trivial⟩
  refine X0 7 rfl ?_
  exact rK ⟨_,hF,rfl,h⟩ rfl
 refine qn rfl ?_
 obtain rfl:=qb hF;replace hF:=hK1
 obtain ⟨a,hF,hK2⟩:=qd hF
 refine X0 1 rfl ?_
 refine qdh (fun e w'=>e=[(0,.slice p list.length c),(1,.slice p1 tag.length c1),(5,.int .i64 a)]∧SH w0 w' (Ch.own S1 tag [.slice p1 tag.length c1]::Ch.own S list [.slice p list.length c]::F)) ?_ ?_
 refine qk (rL (fun m e w'=>∃ (i2:Int),qd4 list tag m i2=some a∧e=[(0,.slice p list.length c),(1,.slice p1 tag.length c1),(5,.int .i64 i2)]∧SH w0 w' (Ch.own S1 tag [.slice p1 tag.length c1]::Ch.own S list [.slice p list.length c]::F)) n ⟨_,hF,rfl,h⟩ rfl ?_)
 rintro m2 e2 w2 ⟨i2,hF,rfl,h⟩
 rcases m2 with _|m2
 ·cases hF
 refine X0 6 rfl (ql (t:=26) hF rfl ?_ ?_)<;>intro hF
 ·refine X0 9 rfl ?_
  obtain ⟨y2,hy2,hF,he2,b2,_,q2,cs4,hp2,hq2,hr2,hc4⟩:=(h.sl 1 rfl).1.ix hF
  obtain ⟨p4,k4,rfl,s4⟩:=hr2
  refine zxe hp2 hq2 he2 rfl ?_
  refine X0 1 rfl (zc 0 hc4 rfl ?_)
  refine X0 1 rfl (zcI h hF (qju (h.own 0 rfl) ⟨_,_,rfl,s4⟩) rfl fun r1 w2 h hF=>?_)
  refine X0 4 rfl (qj rfl hF ?_ ?_)<;>intro hF
  ·refine X0 8 rfl ?_
   exact rK ⟨_,hF,rfl,h⟩ rfl
  refine qn rfl ?_
  obtain rfl:=qb hF
  exact rG ⟨rfl,h⟩ rfl
 refine X0 10 rfl ?_
 refine qcf rfl rfl ?_
 refine qn rfl ?_
 obtain rfl:=qb hF
 exact rG ⟨rfl,h⟩ rfl
 rintro _ w3 ⟨rfl,h⟩
 obtain ⟨k,rfl,hk,hbig,rfl⟩:=qp3 hK2
 replace h:=h.pickT 2 [1,0] rfl
 obtain ⟨Sr,Se,rs,hrs,h⟩:=h.splitL
 have hc:list.length≤c:=by have:=(h.sl 0 rfl).1.1;omega
 refine X0 2 rfl ?_
 refine qN qc [] [] ([]:List (Raw (List Int))) h rfl rfl rfl rfl rfl rfl rfl rfl rfl trivial rfl fun w4 p2 S2 h=>?_
 refine X0 2 rfl ?_
 refine r_v (qeH qc rfl rfl rfl ⟨by omega,by omega,by omega,by omega⟩ rfl rfl rfl rfl rfl rfl rfl) rfl ?_
 refine qpP qc (α:=Raw (List Int)) 0 h rfl ((h.sl 1 rfl).1.sub (lo:=0) (hi:=k) (jE _) (by omega)) (by simp;omega) rfl rfl rfl rfl rfl rfl rfl rfl rfl (by simp [big];omega) rfl fun w5 p3 c3 S3 h=>?_
 refine X0 6 rfl ?_
 refine qN qc [.tmp 44] _ ([⟨[.slice p1 tag.length c1]⟩]:List (Raw (List Int))) h rfl rfl rfl rfl rfl rfl rfl rfl rfl ⟨⟨rfl,rfl,fun v hv=>by rw [List.mem_singleton.1 hv];rfl⟩,trivial⟩ rfl fun w6 p4 S4 h=>?_
 refine qpP qc (α:=Raw (List Int)) 1 h rfl (h.sl 0 rfl).1 rfl rfl rfl rfl rfl rfl rfl rfl rfl rfl (by simp [big];omega) rfl fun w7 p5 c5 S5 h=>?_
 refine X0 7 rfl ?_
 refine r_v (qeH qc rfl rfl rfl ⟨by omega,by omega,by omega,by omega⟩ rfl rfl rfl rfl rfl rfl rfl) rfl ?_
 refine qpP qc (α:=Raw (List Int)) 1 h rfl ((h.sl 2 rfl).1.sub (lo:=k) (hi:=list.length) hk (by omega)) (by simp;omega) rfl rfl rfl rfl rfl rfl rfl rfl rfl (by simp [big];omega) rfl fun w8 p6 c6 S6 h=>?_
 refine X0 2 rfl ?_
 have hrs':([]++(rs.take k).drop 0++[(⟨[.slice p1 tag.length c1]⟩:Raw (List Int))])++(rs.take list.length).drop k=rs.take k++(⟨[.slice p1 tag.length c1]⟩:Raw (List Int))::rs.drop k:=by
  rw [List.take_of_length_le (show rs.length≤list.length by omega)];simp
 replace h:=h.pickT 5 [4,3,1] rfl
 have h:SH w0 w8 (Ch.own S1 tag [.slice p1 tag.length c1]::Ch.els Se list rs::Ch.own S6 (([]++(rs.take k).drop 0++[(⟨[.slice p1 tag.length c1]⟩:Raw (List Int))])++(rs.take list.length).drop k) [.slice p6 _ c6]::F):=h
 rw [hrs'] at h
 replace h:=h.elsIns k hk
 replace h:=h.pickT 2 [1,0] rfl
 exact qmf qc h.joinL ⟨rfl,trivial⟩
end Go.Fw


namespace Go.Fw
open Go
def qZ (a:(List Int)):Nat:=a.length
theorem qcH {a:(List Int)} (h:(rngL rngI) a) (w:qZ a≤1048576):(okL okI) a :=
 ⟨by simp only [qZ] at w;omega,fun x hx=>h.2 x hx⟩
def qg2 (x:qq):Prop:=(rngL rngI) x.Bc∧(rngL rngI) x.Bb∧(rngL rngI) x.Au
def qdy (x:qq):Nat:=qZ x.Bc+qZ x.Bb+qZ x.Au
structure qhE (x:qq):Prop where
 Bc:(okL okI) x.Bc
 Bb:(okL okI) x.Bb
 Au:(okL okI) x.Au
theorem qss {x:qq} (h:qg2 x) (w:qdy x≤1048576):qhE x:=⟨qcH (h.1) (by simp only [qdy] at w;omega),qcH (h.2.1) (by simp only [qdy] at w;omega),qcH (h.2.2) (by simp only [qdy] at w;omega)⟩
def qcL (a:(List qq)):Nat:=a.length+(a.map fun x=>qdy x).sum
theorem qnw {a:(List qq)} (h:(rngL qg2) a) (w:qcL a≤1048576):(okL qhE) a :=
 ⟨by simp only [qcL] at w;omega,fun x hx=>qss (h.2 x hx) (by have:=qbE (wt:=fun x:qq=>qdy x) hx;simp only [qcL] at w;omega)⟩
def qky (x:qC):Prop:=rngI x.Aq∧rngI x.Av∧rngI x.To∧rngI x.Bg∧(rngL qg2) x.Az∧(rngL qg2) x.Bh
def qhF (x:qC):Nat:=qcL x.Az+qcL x.Bh
structure qmi (x:qC):Prop where
 Aq:okI x.Aq
 Av:okI x.Av
 To:okI x.To
 Bg:okI x.Bg
 Az:(okL qhE) x.Az
 Bh:(okL qhE) x.Bh
theorem quG {x:qC} (h:qky x) (w:qhF x≤1048576):qmi x:=⟨h.1,h.2.1,h.2.2.1,h.2.2.2.1,qnw (h.2.2.2.2.1) (by simp only [qhF] at w;omega),qnw (h.2.2.2.2.2) (by simp only [qhF] at w;omega)⟩
theorem qdY {a:(List Int)} (h:qZ a≤1048576):Ev (fun n=>qau n a a) true:=by
 have hl:a.length≤1048576:=by simp only [qZ] at h;omega
 unfold qau
 exact Ev.ff (by simp) (Ev.bind (b:=.nxt (a.length:Int)) (qht (eqf:=fun _ x y=>some (!(x != y))) (fun x _=>Ev.now (by simp))
  (fun n=>by simp only [qfi,qh (jf _),cond_false])
  (fun n j x hx=>by
   have hj:=(List.getElem?_eq_some_iff.1 hx).1
   simp only [qfi,qf hj,cond_true,qW hx,je,Bool.not_not,wS j])) .done)
theorem quZ {a:qq} (h:qdy a≤1048576):Ev (fun n=>qhy n a a) true:=by
 unfold qhy
 simp only [qdy] at h
 exact Ev.bind (qdY (a:=a.Bc) (by omega)) (Ev.ff rfl (Ev.bind (qdY (a:=a.Bb) (by omega)) (Ev.ff rfl (Ev.bind (qdY (a:=a.Au) (by omega)) (Ev.ff rfl (.done))))))
theorem qp4 {a:(List qq)} (h:qcL a≤1048576):Ev (fun n=>qgG n a a) true:=by
 have hl:a.length≤1048576:=by simp only [qcL] at h;omega
 unfold qgG
 exact Ev.ff (by simp) (Ev.bind (b:=.nxt (a.length:Int)) (qht (eqf:=qhy) (fun x hx=>quZ (by have:=qbE (wt:=fun x:qq=>qdy x) hx;simp only [qcL] at h;omega))
  (fun n=>by simp only [qeZ,qh (jf _),cond_false])
  (fun n j x hx=>by
   have hj:=(List.getElem?_eq_some_iff.1 hx).1
   simp only [qeZ,qf hj,cond_true,qW hx,je,wS j])) .done)
theorem qwa {a:qC} (h:qhF a≤1048576):Ev (fun n=>qje n a a) true:=by
 unfold qje
 simp only [qhF] at h
 exact Ev.ff qbi (Ev.ff qbi (Ev.ff qbi (Ev.ff qbi (Ev.bind (qp4 (a:=a.Az) (by omega)) (Ev.ff rfl (Ev.bind (qp4 (a:=a.Bh) (by omega)) (Ev.ff rfl (.done))))))))
def qgy (a:(List qC)):Nat:=a.length+(a.map fun x=>qhF x).sum
theorem qtL {a:(List qC)} (h:(rngL qky) a) (w:qgy a≤1048576):(okL qmi) a :=
 ⟨by simp only [qgy] at w;omega,fun x hx=>quG (h.2 x hx) (by have:=qbE (wt:=fun x:qC=>qhF x) hx;simp only [qgy] at w;omega)⟩
theorem qvg {a:(List qC)} (h:qgy a≤1048576):Ev (fun n=>qjH n a a) true:=by
 have hl:a.length≤1048576:=by simp only [qgy] at h;omega
 unfold qjH
 exact Ev.ff (by simp) (Ev.bind (b:=.nxt (a.length:Int)) (qht (eqf:=qje) (fun x hx=>qwa (by have:=qbE (wt:=fun x:qC=>qhF x) hx;simp only [qgy] at h;omega))
  (fun n=>by simp only [qgb,qh (jf _),cond_false])
  (fun n j x hx=>by
   have hj:=(List.getElem?_eq_some_iff.1 hx).1
   simp only [qgb,qf hj,cond_true,qW hx,je,wS j])) .done)
def qkE (x:qU):Prop:=rngS x.Ar∧rngI x.Bl∧rngI x.Bj∧rngB x.Bd
def qjq (x:qU):Nat:=x.Ar.size
structure qlg (x:qU):Prop where
 Ar:okS x.Ar
 Bl:okI x.Bl
 Bj:okI x.Bj
 Bd:okT x.Bd
theorem quh {x:qU} (h:qkE x) (w:qjq x≤1048576):qlg x:=⟨(by unfold okS;simp only [qjq] at w;omega),h.2.1,h.2.2.1,trivial⟩
def qgz (a:(List qU)):Nat:=a.length+(a.map fun x=>qjq x).sum
theorem qty {a:(List qU)} (h:(rngL qkE) a) (w:qgz a≤1048576):(okL qlg) a :=
 ⟨by simp only [qgz] at w;omega,fun x hx=>quh (h.2 x hx) (by have:=qbE (wt:=fun x:qU=>qjq x) hx;simp only [qgz] at w;omega)⟩
def qjn (x:qp):Prop:=rngS x.Ar∧rngI x.Aq∧(rngL qkE) x.Am∧(rngL qky) x.Ap∧(rngL rngI) x.Ay∧rngI x.Bn∧rngI x.Bf
def qfb (x:qp):Nat:=x.Ar.size+qgz x.Am+qgy x.Ap+qZ x.Ay
structure qlK (x:qp):Prop where
 Ar:okS x.Ar
 Aq:okI x.Aq
 Am:(okL qlg) x.Am
 Ap:(okL qmi) x.Ap
 Ay:(okL okI) x.Ay
 Bn:okI x.Bn
 Bf:okI x.Bf
theorem qtj {x:qp} (h:qjn x) (w:qfb x≤1048576):qlK x:=⟨(by unfold okS;simp only [qfb] at w;omega),h.2.1,qty (h.2.2.1) (by simp only [qfb] at w;omega),qtL (h.2.2.2.1) (by simp only [qfb] at w;omega),qcH (h.2.2.2.2.1) (by simp only [qfb] at w;omega),h.2.2.2.2.2.1,h.2.2.2.2.2.2⟩
def qfD (a:(List qp)):Nat:=a.length+(a.map fun x=>qfb x).sum
theorem qr7 {a:(List qp)} (h:(rngL qjn) a) (w:qfD a≤1048576):(okL qlK) a :=
 ⟨by simp only [qfD] at w;omega,fun x hx=>qtj (h.2 x hx) (by have:=qbE (wt:=fun x:qp=>qfb x) hx;simp only [qfD] at w;omega)⟩
def qjC (x:qm):Prop:=(rngL qjn) x.Ah
def qdN (x:qm):Nat:=qfD x.Ah
structure qgU (x:qm):Prop where
 Ah:(okL qlK) x.Ah
theorem qqf {x:qm} (h:qjC x) (w:qdN x≤1048576):qgU x:=⟨qr7 (h) (by simp only [qdN] at w;omega)⟩
def qfy (x:qg):Prop:=rngS x.Ar∧rngI x.Ba∧(rngL rngI) x.Af
def qbk (x:qg):Nat:=x.Ar.size+qZ x.Af
structure qlw (x:qg):Prop where
 Ar:okS x.Ar
 Ba:okI x.Ba
 Af:(okL okI) x.Af
theorem qps {x:qg} (h:qfy x) (w:qbk x≤1048576):qlw x:=⟨(by unfold okS;simp only [qbk] at w;omega),h.2.1,qcH (h.2.2) (by simp only [qbk] at w;omega)⟩
def qbx (a:(List qg)):Nat:=a.length+(a.map fun x=>qbk x).sum
theorem qoM {a:(List qg)} (h:(rngL qfy) a) (w:qbx a≤1048576):(okL qlw) a :=
 ⟨by simp only [qbx] at w;omega,fun x hx=>qps (h.2 x hx) (by have:=qbE (wt:=fun x:qg=>qbk x) hx;simp only [qbx] at w;omega)⟩
def qdJ (a:(List ByteArray)):Nat:=a.length+(a.map fun x=>x.size).sum
theorem qp9 {a:(List ByteArray)} (_:(rngL rngS) a) (w:qdJ a≤1048576):(okL okS) a :=
 ⟨by simp only [qdJ] at w;omega,fun x hx=>(by unfold okS;have:=qbE (wt:=fun x:ByteArray=>x.size) hx;simp only [qdJ] at w;omega)⟩
def qjv (x:qF):Prop:=rngS x.Ar∧rngI x.Bl∧rngI x.Bo
def qgX (x:qF):Nat:=x.Ar.size
structure qqF (x:qF):Prop where
 Ar:okS x.Ar
 Bl:okI x.Bl
 Bo:okI x.Bo
theorem qtu {x:qF} (h:qjv x) (w:qgX x≤1048576):qqF x:=⟨(by unfold okS;simp only [qgX] at w;omega),h.2.1,h.2.2⟩
def qfr (a:(List qF)):Nat:=a.length+(a.map fun x=>qgX x).sum
theorem qsr {a:(List qF)} (h:(rngL qjv) a) (w:qfr a≤1048576):(okL qqF) a :=
 ⟨by simp only [qfr] at w;omega,fun x hx=>qtu (h.2 x hx) (by have:=qbE (wt:=fun x:qF=>qgX x) hx;simp only [qfr] at w;omega)⟩
def qkr (x:qe):Prop:=(rngL qfy) x.Aa∧(rngL rngS) x.Af∧(rngL qjv) x.Ac
def qd6 (x:qe):Nat:=qbx x.Aa+qdJ x.Af+qfr x.Ac
structure qi5 (x:qe):Prop where
 Aa:(okL qlw) x.Aa
 Af:(okL okS) x.Af
 Ac:(okL qqF) x.Ac
theorem qqW {x:qe} (h:qkr x) (w:qd6 x≤1048576):qi5 x:=⟨qoM (h.1) (by simp only [qd6] at w;omega),qp9 (h.2.1) (by simp only [qd6] at w;omega),qsr (h.2.2) (by simp only [qd6] at w;omega)⟩
def qjk (x:qy):Prop:=(rngL rngI) x.Ak∧(rngL rngI) x.Bm∧(rngL rngI) x.Bj∧(rngL rngI) x.Be
def qfc (x:qy):Nat:=qZ x.Ak+qZ x.Bm+qZ x.Bj+qZ x.Be
structure qm3 (x:qy):Prop where
 Ak:(okL okI) x.Ak
 Bm:(okL okI) x.Bm
 Bj:(okL okI) x.Bj
 Be:(okL okI) x.Be
theorem qtW {x:qy} (h:qjk x) (w:qfc x≤1048576):qm3 x:=⟨qcH (h.1) (by simp only [qfc] at w;omega),qcH (h.2.1) (by simp only [qfc] at w;omega),qcH (h.2.2.1) (by simp only [qfc] at w;omega),qcH (h.2.2.2) (by simp only [qfc] at w;omega)⟩
def qfv (a:(List qy)):Nat:=a.length+(a.map fun x=>qfc x).sum
theorem qrM {a:(List qy)} (h:(rngL qjk) a) (w:qfv a≤1048576):(okL qm3) a :=
 ⟨by simp only [qfv] at w;omega,fun x hx=>qtW (h.2 x hx) (by have:=qbE (wt:=fun x:qy=>qfc x) hx;simp only [qfv] at w;omega)⟩
def qlM (x:qi):Prop:=qjC x.Ai∧qkr x.Ab∧(rngL qjk) x.Aj
def qfA (x:qi):Nat:=qdN x.Ai+qd6 x.Ab+qfv x.Aj
structure qcu (x:qi):Prop where
 Ai:qgU x.Ai
 Ab:qi5 x.Ab
 Aj:(okL qm3) x.Aj
theorem qrX {x:qi} (h:qlM x) (w:qfA x≤1048576):qcu x:=⟨qqf (h.1) (by simp only [qfA] at w;omega),qqW (h.2.1) (by simp only [qfA] at w;omega),qrM (h.2.2) (by simp only [qfA] at w;omega)⟩
theorem qwd {a:qU} (_:qjq a≤1048576):Ev (fun n=>qjp n a a) true:=by
 unfold qjp
 exact Ev.ff qiR (Ev.ff qbi (Ev.ff qbi (Ev.ff qqo (.done))))
theorem qvu {a:(List qU)} (h:qgz a≤1048576):Ev (fun n=>qjU n a a) true:=by
 have hl:a.length≤1048576:=by simp only [qgz] at h;omega
 unfold qjU
 exact Ev.ff (by simp) (Ev.bind (b:=.nxt (a.length:Int)) (qht (eqf:=qjp) (fun x hx=>qwd (by have:=qbE (wt:=fun x:qU=>qjq x) hx;simp only [qgz] at h;omega))
  (fun n=>by simp only [qga,qh (jf _),cond_false])
  (fun n j x hx=>by
   have hj:=(List.getElem?_eq_some_iff.1 hx).1
   simp only [qga,qf hj,cond_true,qW hx,je,wS j])) .done)
theorem qvp {a:qp} (h:qfb a≤1048576):Ev (fun n=>qie n a a) true:=by
 unfold qie
 simp only [qfb] at h
 exact Ev.ff qiR (Ev.ff qbi (Ev.bind (qvu (a:=a.Am) (by omega)) (Ev.ff rfl (Ev.bind (qvg (a:=a.Ap) (by omega)) (Ev.ff rfl (Ev.bind (qdY (a:=a.Ay) (by omega)) (Ev.ff rfl (Ev.ff qbi (Ev.ff qbi (.done))))))))))
theorem quk {a:(List qp)} (h:qfD a≤1048576):Ev (fun n=>qiX n a a) true:=by
 have hl:a.length≤1048576:=by simp only [qfD] at h;omega
 unfold qiX
 exact Ev.ff (by simp) (Ev.bind (b:=.nxt (a.length:Int)) (qht (eqf:=qie) (fun x hx=>qvp (by have:=qbE (wt:=fun x:qp=>qfb x) hx;simp only [qfD] at h;omega))
  (fun n=>by simp only [qfG,qh (jf _),cond_false])
  (fun n j x hx=>by
   have hj:=(List.getElem?_eq_some_iff.1 hx).1
   simp only [qfG,qf hj,cond_true,qW hx,je,wS j])) .done)
theorem qrU {a:qm} (h:qdN a≤1048576):Ev (fun n=>qhl n a a) true:=by
 unfold qhl
 simp only [qdN] at h
 exact Ev.bind (quk (a:=a.Ah) (by omega)) (Ev.ff rfl (.done))
theorem qqR {a:qg} (h:qbk a≤1048576):Ev (fun n=>qfF n a a) true:=by
 unfold qfF
 simp only [qbk] at h
 exact Ev.ff qiR (Ev.ff qbi (Ev.bind (qdY (a:=a.Af) (by omega)) (Ev.ff rfl (.done))))
theorem qqx {a:(List qg)} (h:qbx a≤1048576):Ev (fun n=>qgp n a a) true:=by
 have hl:a.length≤1048576:=by simp only [qbx] at h;omega
 unfold qgp
 exact Ev.ff (by simp) (Ev.bind (b:=.nxt (a.length:Int)) (qht (eqf:=qfF) (fun x hx=>qqR (by have:=qbE (wt:=fun x:qg=>qbk x) hx;simp only [qbx] at h;omega))
  (fun n=>by simp only [qdv,qh (jf _),cond_false])
  (fun n j x hx=>by
   have hj:=(List.getElem?_eq_some_iff.1 hx).1
   simp only [qdv,qf hj,cond_true,qW hx,je,wS j])) .done)
theorem qsw {a:(List ByteArray)} (h:qdJ a≤1048576):Ev (fun n=>qg9 n a a) true:=by
 have hl:a.length≤1048576:=by simp only [qdJ] at h;omega
 unfold qg9
 exact Ev.ff (by simp) (Ev.bind (b:=.nxt (a.length:Int)) (qht (eqf:=fun _ x y=>some (!(x.toList != y.toList))) (fun x _=>Ev.now (by simp))
  (fun n=>by simp only [qeu,qh (jf _),cond_false])
  (fun n j x hx=>by
   have hj:=(List.getElem?_eq_some_iff.1 hx).1
   simp only [qeu,qf hj,cond_true,qW hx,je,Bool.not_not,wS j])) .done)
theorem qvA {a:qF} (_:qgX a≤1048576):Ev (fun n=>qim n a a) true:=by
 unfold qim
 exact Ev.ff qiR (Ev.ff qbi (Ev.ff qbi (.done)))
theorem quR {a:(List qF)} (h:qfr a≤1048576):Ev (fun n=>qiF n a a) true:=by
 have hl:a.length≤1048576:=by simp only [qfr] at h;omega
 unfold qiF
 exact Ev.ff (by simp) (Ev.bind (b:=.nxt (a.length:Int)) (qht (eqf:=qim) (fun x hx=>qvA (by have:=qbE (wt:=fun x:qF=>qgX x) hx;simp only [qfr] at h;omega))
  (fun n=>by simp only [qfN,qh (jf _),cond_false])
  (fun n j x hx=>by
   have hj:=(List.getElem?_eq_some_iff.1 hx).1
   simp only [qfN,qf hj,cond_true,qW hx,je,wS j])) .done)
theorem qs3 {a:qe} (h:qd6 a≤1048576):Ev (fun n=>qh2 n a a) true:=by
 unfold qh2
 simp only [qd6] at h
 exact Ev.bind (qqx (a:=a.Aa) (by omega)) (Ev.ff rfl (Ev.bind (qsw (a:=a.Af) (by omega)) (Ev.ff rfl (Ev.bind (quR (a:=a.Ac) (by omega)) (Ev.ff rfl (.done))))))
theorem qvw {a:qy} (h:qfc a≤1048576):Ev (fun n=>qit n a a) true:=by
 unfold qit
 simp only [qfc] at h
 exact Ev.bind (qdY (a:=a.Ak) (by omega)) (Ev.ff rfl (Ev.bind (qdY (a:=a.Bm) (by omega)) (Ev.ff rfl (Ev.bind (qdY (a:=a.Bj) (by omega)) (Ev.ff rfl (Ev.bind (qdY (a:=a.Be) (by omega)) (Ev.ff rfl (.done))))))))
theorem qt9 {a:(List qy)} (h:qfv a≤1048576):Ev (fun n=>qi3 n a a) true:=by
 have hl:a.length≤1048576:=by simp only [qfv] at h;omega
 unfold qi3
 exact Ev.ff (by simp) (Ev.bind (b:=.nxt (a.length:Int)) (qht (eqf:=qit) (fun x hx=>qvw (by have:=qbE (wt:=fun x:qy=>qfc x) hx;simp only [qfv] at h;omega))
  (fun n=>by simp only [qfH,qh (jf _),cond_false])
  (fun n j x hx=>by
   have hj:=(List.getElem?_eq_some_iff.1 hx).1
   simp only [qfH,qf hj,cond_true,qW hx,je,wS j])) .done)
theorem qui {a:qi} (h:qfA a≤1048576):Ev (fun n=>qiU n a a) true:=by
 unfold qiU
 simp only [qfA] at h
 exact Ev.bind (qrU (a:=a.Ai) (by omega)) (Ev.ff rfl (Ev.bind (qs3 (a:=a.Ab) (by omega)) (Ev.ff rfl (Ev.bind (qt9 (a:=a.Aj) (by omega)) (Ev.ff rfl (.done))))))
theorem qen {a:(List Int)} {left:Int} (h:(rngL rngI) a) (h0:0≤left) (h1:left≤1048576):Sz (fun n=>qa2 n a left) (fun r=>r=left-(qZ a:Int)) :=
 Sz.less h0 h1 (by omega) (by have:=h.1;omega) (fun _=>rfl)
theorem quS {a:qq} {left:Int} (h:qg2 a) (h0:0≤left) (h1:left≤1048576):Sz (fun n=>qhq n a left) (fun r=>r=left-(qdy a:Int)):=by
 unfold qhq
 obtain ⟨h_0,h_1,h_2⟩:=h
 exact Sz.step (qen (a:=a.Bc) h_0 (by omega) (by omega)) fun r0 p0 q0=>Sz.step (qen (a:=a.Bb) h_1 (by omega) (by omega)) fun r1 p1 q1=>Sz.step (qen (a:=a.Au) h_2 (by omega) (by omega)) fun r2 p2 q2=>Sz.done p2 (by simp only [qdy];omega)
theorem qpK {a:(List qq)} {left:Int} (h:(rngL qg2) a) (h0:0≤left) (h1:left≤1048576):Sz (fun n=>qh1 n a left) (fun r=>r=left-(qcL a:Int)) :=
 Sz.list (Lf:=qdV a) (wt:=fun x:qq=>qdy x) (el:=qhq) h0 h1 h.1 (fun x hx left p q=>quS (h.2 x hx) p q)
  (fun acc n=>by simp only [qdV,qh (jf _),cond_false])
  (fun acc n j x hx=>by
   have hj:=(List.getElem?_eq_some_iff.1 hx).1
   have hl:=h.1
   simp only [qdV,qf hj,cond_true,qW hx,je,wS j])
  (fun _=>rfl)
theorem qwl {a:qC} {left:Int} (h:qky a) (h0:0≤left) (h1:left≤1048576):Sz (fun n=>qjj n a left) (fun r=>r=left-(qhF a:Int)):=by
 unfold qjj
 obtain ⟨h_0,h_1,h_2,h_3,h_4,h_5⟩:=h
 exact Sz.step (qpK (a:=a.Az) h_4 (by omega) (by omega)) fun r0 p0 q0=>Sz.step (qpK (a:=a.Bh) h_5 (by omega) (by omega)) fun r1 p1 q1=>Sz.done p1 (by simp only [qhF];omega)
theorem qvB {a:(List qC)} {left:Int} (h:(rngL qky) a) (h0:0≤left) (h1:left≤1048576):Sz (fun n=>qlc n a left) (fun r=>r=left-(qgy a:Int)) :=
 Sz.list (Lf:=qfg a) (wt:=fun x:qC=>qhF x) (el:=qjj) h0 h1 h.1 (fun x hx left p q=>qwl (h.2 x hx) p q)
  (fun acc n=>by simp only [qfg,qh (jf _),cond_false])
  (fun acc n j x hx=>by
   have hj:=(List.getElem?_eq_some_iff.1 hx).1
   have hl:=h.1
   simp only [qfg,qf hj,cond_true,qW hx,je,wS j])
  (fun _=>rfl)
theorem qwn {a:qU} {left:Int} (h:qkE a) (h0:0≤left) (h1:left≤1048576):Sz (fun n=>qjo n a left) (fun r=>r=left-(qjq a:Int)):=by
 unfold qjo
 obtain ⟨h_0,h_1,h_2,h_3⟩:=h
 exact Sz.strStep h_0 (by omega) (by omega) fun p0 q0=>Sz.done p0 (by simp only [qjq];omega)
theorem qvT {a:(List qU)} {left:Int} (h:(rngL qkE) a) (h0:0≤left) (h1:left≤1048576):Sz (fun n=>qlq n a left) (fun r=>r=left-(qgz a:Int)) :=
 Sz.list (Lf:=qe7 a) (wt:=fun x:qU=>qjq x) (el:=qjo) h0 h1 h.1 (fun x hx left p q=>qwn (h.2 x hx) p q)
  (fun acc n=>by simp only [qe7,qh (jf _),cond_false])
  (fun acc n j x hx=>by
   have hj:=(List.getElem?_eq_some_iff.1 hx).1
   have hl:=h.1
   simp only [qe7,qf hj,cond_true,qW hx,je,wS j])
  (fun _=>rfl)
theorem qvs {a:qp} {left:Int} (h:qjn a) (h0:0≤left) (h1:left≤1048576):Sz (fun n=>qik n a left) (fun r=>r=left-(qfb a:Int)):=by
 unfold qik
 obtain ⟨h_0,h_1,h_2,h_3,h_4,h_5,h_6⟩:=h
 exact Sz.strStep h_0 (by omega) (by omega) fun p0 q0=>Sz.step (qvT (a:=a.Am) h_2 (by omega) (by omega)) fun r1 p1 q1=>Sz.step (qvB (a:=a.Ap) h_3 (by omega) (by omega)) fun r2 p2 q2=>Sz.step (qen (a:=a.Ay) h_4 (by omega) (by omega)) fun r3 p3 q3=>Sz.done p3 (by simp only [qfb];omega)
theorem quz {a:(List qp)} {left:Int} (h:(rngL qjn) a) (h0:0≤left) (h1:left≤1048576):Sz (fun n=>qkL n a left) (fun r=>r=left-(qfD a:Int)) :=
 Sz.list (Lf:=qef a) (wt:=fun x:qp=>qfb x) (el:=qik) h0 h1 h.1 (fun x hx left p q=>qvs (h.2 x hx) p q)
  (fun acc n=>by simp only [qef,qh (jf _),cond_false])
  (fun acc n j x hx=>by
   have hj:=(List.getElem?_eq_some_iff.1 hx).1
   have hl:=h.1
   simp only [qef,qf hj,cond_true,qW hx,je,wS j])
  (fun _=>rfl)
theorem qrL {a:qm} {left:Int} (h:qjC a) (h0:0≤left) (h1:left≤1048576):Sz (fun n=>qhm n a left) (fun r=>r=left-(qdN a:Int)):=by
 unfold qhm
 have h_0:=h
 exact Sz.step (quz (a:=a.Ah) h_0 (by omega) (by omega)) fun r0 p0 q0=>Sz.done p0 (by simp only [qdN];omega)
theorem qrF {a:qg} {left:Int} (h:qfy a) (h0:0≤left) (h1:left≤1048576):Sz (fun n=>qfI n a left) (fun r=>r=left-(qbk a:Int)):=by
 unfold qfI
 obtain ⟨h_0,h_1,h_2⟩:=h
 exact Sz.strStep h_0 (by omega) (by omega) fun p0 q0=>Sz.step (qen (a:=a.Af) h_2 (by omega) (by omega)) fun r1 p1 q1=>Sz.done p1 (by simp only [qbk];omega)
theorem qqs {a:(List qg)} {left:Int} (h:(rngL qfy) a) (h0:0≤left) (h1:left≤1048576):Sz (fun n=>qhJ n a left) (fun r=>r=left-(qbx a:Int)) :=
 Sz.list (Lf:=qcv a) (wt:=fun x:qg=>qbk x) (el:=qfI) h0 h1 h.1 (fun x hx left p q=>qrF (h.2 x hx) p q)
  (fun acc n=>by simp only [qcv,qh (jf _),cond_false])
  (fun acc n j x hx=>by
   have hj:=(List.getElem?_eq_some_iff.1 hx).1
   have hl:=h.1
   simp only [qcv,qf hj,cond_true,qW hx,je,wS j])
  (fun _=>rfl)
theorem qr1 {a:(List ByteArray)} {left:Int} (h:(rngL rngS) a) (h0:0≤left) (h1:left≤1048576):Sz (fun n=>qjc n a left) (fun r=>r=left-(qdJ a:Int)) :=
 Sz.list (Lf:=qdf a) (wt:=fun x:ByteArray=>x.size) (el:=fun _ (x:ByteArray) acc=>some (W64 (acc-(x.size:Int)))) h0 h1 h.1 (fun x hx left p q=>Sz.str (h.2 x hx) p q)
  (fun acc n=>by simp only [qdf,qh (jf _),cond_false])
  (fun acc n j x hx=>by
   have hj:=(List.getElem?_eq_some_iff.1 hx).1
   have hl:=h.1
   simp only [qdf,qf hj,cond_true,qW hx,je,wS j])
  (fun _=>rfl)
theorem qvl {a:qF} {left:Int} (h:qjv a) (h0:0≤left) (h1:left≤1048576):Sz (fun n=>qil n a left) (fun r=>r=left-(qgX a:Int)):=by
 unfold qil
 obtain ⟨h_0,h_1,h_2⟩:=h
 exact Sz.strStep h_0 (by omega) (by omega) fun p0 q0=>Sz.done p0 (by simp only [qgX];omega)
theorem quV {a:(List qF)} {left:Int} (h:(rngL qjv) a) (h0:0≤left) (h1:left≤1048576):Sz (fun n=>qkI n a left) (fun r=>r=left-(qfr a:Int)) :=
 Sz.list (Lf:=qek a) (wt:=fun x:qF=>qgX x) (el:=qil) h0 h1 h.1 (fun x hx left p q=>qvl (h.2 x hx) p q)
  (fun acc n=>by simp only [qek,qh (jf _),cond_false])
  (fun acc n j x hx=>by
   have hj:=(List.getElem?_eq_some_iff.1 hx).1
   have hl:=h.1
   simp only [qek,qf hj,cond_true,qW hx,je,wS j])
  (fun _=>rfl)
theorem qtm {a:qe} {left:Int} (h:qkr a) (h0:0≤left) (h1:left≤1048576):Sz (fun n=>qh6 n a left) (fun r=>r=left-(qd6 a:Int)):=by
 unfold qh6
 obtain ⟨h_0,h_1,h_2⟩:=h
 exact Sz.step (qqs (a:=a.Aa) h_0 (by omega) (by omega)) fun r0 p0 q0=>Sz.step (qr1 (a:=a.Af) h_1 (by omega) (by omega)) fun r1 p1 q1=>Sz.step (quV (a:=a.Ac) h_2 (by omega) (by omega)) fun r2 p2 q2=>Sz.done p2 (by simp only [qd6];omega)
theorem qvK {a:qy} {left:Int} (h:qjk a) (h0:0≤left) (h1:left≤1048576):Sz (fun n=>qif n a left) (fun r=>r=left-(qfc a:Int)):=by
 unfold qif
 obtain ⟨h_0,h_1,h_2,h_3⟩:=h
 exact Sz.step (qen (a:=a.Ak) h_0 (by omega) (by omega)) fun r0 p0 q0=>Sz.step (qen (a:=a.Bm) h_1 (by omega) (by omega)) fun r1 p1 q1=>Sz.step (qen (a:=a.Bj) h_2 (by omega) (by omega)) fun r2 p2 q2=>Sz.step (qen (a:=a.Be) h_3 (by omega) (by omega)) fun r3 p3 q3=>Sz.done p3 (by simp only [qfc];omega)
theorem quC {a:(List qy)} {left:Int} (h:(rngL qjk) a) (h0:0≤left) (h1:left≤1048576):Sz (fun n=>qks n a left) (fun r=>r=left-(qfv a:Int)) :=
 Sz.list (Lf:=qel a) (wt:=fun x:qy=>qfc x) (el:=qif) h0 h1 h.1 (fun x hx left p q=>qvK (h.2 x hx) p q)
  (fun acc n=>by simp only [qel,qh (jf _),cond_false])
  (fun acc n j x hx=>by
   have hj:=(List.getElem?_eq_some_iff.1 hx).1
   have hl:=h.1
   simp only [qel,qf hj,cond_true,qW hx,je,wS j])
  (fun _=>rfl)
theorem quw {a:qi} {left:Int} (h:qlM a) (h0:0≤left) (h1:left≤1048576):Sz (fun n=>qi1 n a left) (fun r=>r=left-(qfA a:Int)):=by
 unfold qi1
 obtain ⟨h_0,h_1,h_2⟩:=h
 exact Sz.step (qrL (a:=a.Ai) h_0 (by omega) (by omega)) fun r0 p0 q0=>Sz.step (qtm (a:=a.Ab) h_1 (by omega) (by omega)) fun r1 p1 q1=>Sz.step (quC (a:=a.Aj) h_2 (by omega) (by omega)) fun r2 p2 q2=>Sz.done p2 (by simp only [qfA];omega)
theorem qeg {a:(List Int)} (h:qZ a≤1048576):Ev (fun n=>qaP n a) a:=by
 have hl:a.length≤1048576:=by simp only [qZ] at h;omega
 unfold qaP
 exact Ev.bindN (qhu (by omega)) (Ev.bind (b:=(a,(a.length:Int))) (qh9 (cp:=fun _ x=>some x) (fun _ _=>.done)
  (fun acc n=>by simp only [qe2,qh (jf _),cond_false])
  (fun acc n j x y hx hy=>by
   have hj:=(List.getElem?_eq_some_iff.1 hx).1
   simp only [qe2,qf hj,cond_true,qW hx,qW hy,je,wS j])) .done)
theorem quN {a:qq} (h:qdy a≤1048576):Ev (fun n=>qhv n a) a:=by
 unfold qhv
 simp only [qdy] at h
 exact Ev.bind (qeg (a:=a.Bc) (by omega)) (Ev.bind (qeg (a:=a.Bb) (by omega)) (Ev.bind (qeg (a:=a.Au) (by omega)) (.done)))
theorem qp1 {a:(List qq)} (h:qcL a≤1048576):Ev (fun n=>qgE n a) a:=by
 have hl:a.length≤1048576:=by simp only [qcL] at h;omega
 unfold qgE
 exact Ev.bindN (qhu (by omega)) (Ev.bind (b:=(a,(a.length:Int))) (qh9 (cp:=qhv) (fun x hx=>quN (by have:=qbE (wt:=fun x:qq=>qdy x) hx;simp only [qcL] at h;omega))
  (fun acc n=>by simp only [qe4,qh (jf _),cond_false])
  (fun acc n j x y hx hy=>by
   have hj:=(List.getElem?_eq_some_iff.1 hx).1
   simp only [qe4,qf hj,cond_true,qW hx,qW hy,je,wS j])) .done)
theorem qv8 {a:qC} (h:qhF a≤1048576):Ev (fun n=>qji n a) a:=by
 unfold qji
 simp only [qhF] at h
 exact Ev.bind (qp1 (a:=a.Az) (by omega)) (Ev.bind (qp1 (a:=a.Bh) (by omega)) (.done))
theorem qvP {a:(List qC)} (h:qgy a≤1048576):Ev (fun n=>qjB n a) a:=by
 have hl:a.length≤1048576:=by simp only [qgy] at h;omega
 unfold qjB
 exact Ev.bindN (qhu (by omega)) (Ev.bind (b:=(a,(a.length:Int))) (qh9 (cp:=qji) (fun x hx=>qv8 (by have:=qbE (wt:=fun x:qC=>qhF x) hx;simp only [qgy] at h;omega))
  (fun acc n=>by simp only [qge,qh (jf _),cond_false])
  (fun acc n j x y hx hy=>by
   have hj:=(List.getElem?_eq_some_iff.1 hx).1
   simp only [qge,qf hj,cond_true,qW hx,qW hy,je,wS j])) .done)
theorem qwh {a:qU} (_:qjq a≤1048576):Ev (fun n=>qjl n a) a:=by
 unfold qjl
 exact .done
theorem qve {a:(List qU)} (h:qgz a≤1048576):Ev (fun n=>qjG n a) a:=by
 have hl:a.length≤1048576:=by simp only [qgz] at h;omega
 unfold qjG
 exact Ev.bindN (qhu (by omega)) (Ev.bind (b:=(a,(a.length:Int))) (qh9 (cp:=qjl) (fun x hx=>qwh (by have:=qbE (wt:=fun x:qU=>qjq x) hx;simp only [qgz] at h;omega))
  (fun acc n=>by simp only [qf6,qh (jf _),cond_false])
  (fun acc n j x y hx hy=>by
   have hj:=(List.getElem?_eq_some_iff.1 hx).1
   simp only [qf6,qf hj,cond_true,qW hx,qW hy,je,wS j])) .done)
theorem qvd {a:qp} (h:qfb a≤1048576):Ev (fun n=>qia n a) a:=by
 unfold qia
 simp only [qfb] at h
 exact Ev.bind (qve (a:=a.Am) (by omega)) (Ev.bind (qvP (a:=a.Ap) (by omega)) (Ev.bind (qeg (a:=a.Ay) (by omega)) (.done)))
theorem qt7 {a:(List qp)} (h:qfD a≤1048576):Ev (fun n=>qi0 n a) a:=by
 have hl:a.length≤1048576:=by simp only [qfD] at h;omega
 unfold qi0
 exact Ev.bindN (qhu (by omega)) (Ev.bind (b:=(a,(a.length:Int))) (qh9 (cp:=qia) (fun x hx=>qvd (by have:=qbE (wt:=fun x:qp=>qfb x) hx;simp only [qfD] at h;omega))
  (fun acc n=>by simp only [qfL,qh (jf _),cond_false])
  (fun acc n j x y hx hy=>by
   have hj:=(List.getElem?_eq_some_iff.1 hx).1
   simp only [qfL,qf hj,cond_true,qW hx,qW hy,je,wS j])) .done)
theorem qrI {a:qm} (h:qdN a≤1048576):Ev (fun n=>qhD n a) a:=by
 unfold qhD
 simp only [qdN] at h
 exact Ev.bind (qt7 (a:=a.Ah) (by omega)) (.done)
theorem qq2 {a:qg} (h:qbk a≤1048576):Ev (fun n=>qfJ n a) a:=by
 unfold qfJ
 simp only [qbk] at h
 exact Ev.bind (qeg (a:=a.Af) (by omega)) (.done)
theorem qqc {a:(List qg)} (h:qbx a≤1048576):Ev (fun n=>qgu n a) a:=by
 have hl:a.length≤1048576:=by simp only [qbx] at h;omega
 unfold qgu
 exact Ev.bindN (qhu (by omega)) (Ev.bind (b:=(a,(a.length:Int))) (qh9 (cp:=qfJ) (fun x hx=>qq2 (by have:=qbE (wt:=fun x:qg=>qbk x) hx;simp only [qbx] at h;omega))
  (fun acc n=>by simp only [qdu,qh (jf _),cond_false])
  (fun acc n j x y hx hy=>by
   have hj:=(List.getElem?_eq_some_iff.1 hx).1
   simp only [qdu,qf hj,cond_true,qW hx,qW hy,je,wS j])) .done)
theorem qrT {a:(List ByteArray)} (h:qdJ a≤1048576):Ev (fun n=>qhk n a) a:=by
 have hl:a.length≤1048576:=by simp only [qdJ] at h;omega
 unfold qhk
 exact Ev.bindN (qhu (by omega)) (Ev.bind (b:=(a,(a.length:Int))) (qh9 (cp:=fun _ x=>some x) (fun _ _=>.done)
  (fun acc n=>by simp only [qey,qh (jf _),cond_false])
  (fun acc n j x y hx hy=>by
   have hj:=(List.getElem?_eq_some_iff.1 hx).1
   simp only [qey,qf hj,cond_true,qW hx,qW hy,je,wS j])) .done)
theorem qvV {a:qF} (_:qgX a≤1048576):Ev (fun n=>qij n a) a:=by
 unfold qij
 exact .done
theorem qub {a:(List qF)} (h:qfr a≤1048576):Ev (fun n=>qiT n a) a:=by
 have hl:a.length≤1048576:=by simp only [qfr] at h;omega
 unfold qiT
 exact Ev.bindN (qhu (by omega)) (Ev.bind (b:=(a,(a.length:Int))) (qh9 (cp:=qij) (fun x hx=>qvV (by have:=qbE (wt:=fun x:qF=>qgX x) hx;simp only [qfr] at h;omega))
  (fun acc n=>by simp only [qfE,qh (jf _),cond_false])
  (fun acc n j x y hx hy=>by
   have hj:=(List.getElem?_eq_some_iff.1 hx).1
   simp only [qfE,qf hj,cond_true,qW hx,qW hy,je,wS j])) .done)
theorem qtC {a:qe} (h:qd6 a≤1048576):Ev (fun n=>qh8 n a) a:=by
 unfold qh8
 simp only [qd6] at h
 exact Ev.bind (qqc (a:=a.Aa) (by omega)) (Ev.bind (qrT (a:=a.Af) (by omega)) (Ev.bind (qub (a:=a.Ac) (by omega)) (.done)))
theorem qvH {a:qy} (h:qfc a≤1048576):Ev (fun n=>qig n a) a:=by
 unfold qig
 simp only [qfc] at h
 exact Ev.bind (qeg (a:=a.Ak) (by omega)) (Ev.bind (qeg (a:=a.Bm) (by omega)) (Ev.bind (qeg (a:=a.Bj) (by omega)) (Ev.bind (qeg (a:=a.Be) (by omega)) (.done))))
theorem quB {a:(List qy)} (h:qfv a≤1048576):Ev (fun n=>qiW n a) a:=by
 have hl:a.length≤1048576:=by simp only [qfv] at h;omega
 unfold qiW
 exact Ev.bindN (qhu (by omega)) (Ev.bind (b:=(a,(a.length:Int))) (qh9 (cp:=qig) (fun x hx=>qvH (by have:=qbE (wt:=fun x:qy=>qfc x) hx;simp only [qfv] at h;omega))
  (fun acc n=>by simp only [qfO,qh (jf _),cond_false])
  (fun acc n j x y hx hy=>by
   have hj:=(List.getElem?_eq_some_iff.1 hx).1
   simp only [qfO,qf hj,cond_true,qW hx,qW hy,je,wS j])) .done)
theorem qmE {a:qi} (h:qfA a≤1048576):Ev (fun n=>qft n a) a:=by
 unfold qft
 simp only [qfA] at h
 exact Ev.bind (qrI (a:=a.Ai) (by omega)) (Ev.bind (qtC (a:=a.Ab) (by omega)) (Ev.bind (quB (a:=a.Aj) (by omega)) (.done)))
end Go.Fw


namespace Go.Fw
open Go
set_option maxRecDepth 100000
theorem qd8 {n:Nat} {x lo hi:Int}:qaj n x lo hi=some (inI x lo hi):=by
 simp only [qaj,qk4,qmO];rfl
theorem qdK {n:Nat} {x lo hi:Int}:qaw n x lo hi=some (inI x lo hi):=by
 simp only [qaw,qk4,qmO];rfl
def bt (s:ByteArray) (j:Nat):Nat:=(s.data.toList.getD j 0).toNat
theorem qt8 {s:ByteArray} {j:Nat} (h:j<s.size):atS s (j:Int)=some (bt s j:Int):=by
 have h':j<s.data.size:=h
 have hl:j<s.data.toList.length:=by simpa using h'
 unfold atS
 rw [if_pos (by omega),jw]
 have:s[j]?=some (s.data.toList.getD j 0):=by
  rw [getElem?_pos s j h,jH,jg hl]
  rfl
 rw [this]
 rfl
def letB (b:Nat):Bool:=decide (97≤b)&&decide (b≤122)
def digB (b:Nat):Bool:=decide (48≤b)&&decide (b≤57)
def chB (s:ByteArray) (j:Nat):Bool:=letB (bt s j) || digB (bt s j)&&decide (0<j)
def nameB (s:ByteArray):Bool:=(decide (1≤s.size)&&decide (s.size≤8))&&allN (chB s) s.size
theorem qme {s:ByteArray} (h:okS s):Ev (fun n=>qgf n s) (nameB s):=by
 unfold okS at h
 have hL:Ev (fun n=>qdr s n 0) (bif allN (chB s) s.size then .nxt (s.size:Int) else .ret false):=by
  refine qeL ?_ (fun j hj X hX=>?_)
  ·exact Ev.succ (by simp only [qdr,qh (jf _),cond_false];exact .done)
  ·refine Ev.succ ?_
   simp only [qdr,qf hj,cond_true,qt8 hj,je,qk4,qmO,wS j]
   have e1:(decide ((bt s j:Int) ≥ 97)&&decide ((bt s j:Int)≤122))=letB (bt s j):=by unfold letB;rw [jj];simp;omega
   have e2:(decide ((bt s j:Int) ≥ 48)&&decide ((bt s j:Int)≤57))=digB (bt s j):=by unfold digB;rw [jj];simp;omega
   have e3:decide ((j:Int) > 0)=decide (0<j):=by rw [jj];simp
   rw [e1,e2,e3]
   unfold chB
   cases letB (bt s j)<;>cases digB (bt s j)<;>cases decide (0<j)<;>first|exact hX|exact .done
 unfold qgf
 refine Ev.cast (r:=bif allN (chB s) s.size then (decide (1≤s.size)&&decide (s.size≤8)) else false) (Ev.bindB hL (fun _=>?_) (fun _=>.done)) ?_
 ·simp only [qk4,qmO]
  exact Ev.now (by congr 1;rw [jj];simp;omega)
 ·unfold nameB
  cases allN (chB s) s.size<;>simp
def cutset:List UInt8:=[97,98,99,100,101,102,103,104,105,106,107,108,109,110,111,112,113,114,115,116,117,118,119,120,121,122,48,49,50,51,52,53,54,55,56,57]
theorem qoL (b:UInt8):cutset.contains b=(letB b.toNat || digB b.toNat):=by
 have h0:(List.range 256).all (fun m=>cutset.contains (UInt8.ofNat m)==(letB (UInt8.ofNat m).toNat || digB (UInt8.ofNat m).toNat))=true:=by kernel_rfl
 have h:=List.all_eq_true.1 h0 b.toNat (List.mem_range.2 b.toNat_lt)
 rw [beq_iff_eq] at h
 simpa using h
def letters:List UInt8:=[97,98,99,100,101,102,103,104,105,106,107,108,109,110,111,112,113,114,115,116,117,118,119,120,121,122]
theorem qrS (m:Nat) (hm:m<256):decide ((Lib.indexByte letters m.toUInt8) ≥ 0)=letB m:=by
 have h0:(List.range 256).all (fun m=>decide ((Lib.indexByte letters m.toUInt8) ≥ 0)==letB m)=true:=by kernel_rfl
 have h:=List.all_eq_true.1 h0 m (List.mem_range.2 hm)
 rwa [beq_iff_eq] at h
theorem qo7 {α:Type} {p:α→Bool} {l:List α}:l.dropWhile p=[]↔∀ x,x ∈ l→p x=true:=by
 induction l with
 | nil=>simp
 | cons y l ih =>
  rw [List.dropWhile_cons]
  by_cases h:p y=true
  ·rw [if_pos h,ih];simp [h]
  ·rw [if_neg h];simp [h]
theorem qpo {α:Type} {p:α→Bool} {l:List α} (h:∀ x,x ∈ l.dropWhile p→p x=true):∀ x,x ∈ l→p x=true:=by
 induction l with
 | nil=>simp
 | cons y l ih =>
  rw [List.dropWhile_cons] at h
  by_cases hy:p y=true
  ·rw [if_pos hy] at h
   intro x hx
   rcases List.mem_cons.1 hx with rfl|hx
   ·exact hy
   ·exact ih h x hx
  ·rw [if_neg hy] at h
   exact h
theorem quv {l cs:List UInt8}:Lib.trimS l cs=[]↔∀ x,x ∈ l→cs.contains x=true:=by
 unfold Lib.trimS Lib.trimRightS Lib.trimLeftS
 rw [qo7]
 constructor
 ·intro h x hx
  exact qpo (p:=(cs.contains ·)) (l:=l.reverse) (fun y hy=>h y (List.mem_reverse.2 hy)) x (List.mem_reverse.2 hx)
 ·intro h x hx
  exact h x (List.mem_reverse.1 ((List.dropWhile_suffix _).subset (List.mem_reverse.1 hx)))
theorem qgB {a b:ByteArray}:(a.toList==b.toList)=decide (a=b):=by
 rw [jj,beq_iff_eq,decide_eq_true_iff]
 constructor
 ·intro h
  exact ByteArray.ext (by have:=congrArg List.toArray h;simpa [ByteArray.toList_eq] using this)
 ·rintro rfl;rfl
end Go.Fw


namespace Go.Fw
open Go
set_option maxRecDepth 100000
theorem qvY {s:ByteArray} {j:Nat} (h:j<s.data.toList.length):bt s j=(s.data.toList[j]).toNat:=by
 unfold bt;rw [jH,jg h];rfl
theorem qwF {s:ByteArray} {j:Nat}:bt s j<256:=UInt8.toNat_lt _
theorem qpH {n:Nat} {s:ByteArray} (h:okS s):qid n s=some (nameB s):=by
 unfold okS at h
 have hl:s.data.toList.length=s.size:=by simp
 simp only [qid,qdK,je]
 cases hI:inI (s.size:Int) 1 8 with
 | false =>
  have hs:(decide (1≤s.size)&&decide (s.size≤8))=false:=by rw [qts] at hI;rw [Bool.and_eq_false_iff,decide_eq_false_iff_not,decide_eq_false_iff_not];omega
  simp [nameB,hs]
 | true =>
  have hs:1≤s.size∧s.size≤8:=by rw [qcK] at hI;omega
  have hT:qho n s (⟨#[97,98,99,100,101,102,103,104,105,106,107,108,109,110,111,112,113,114,115,116,117,118,119,120,121,122,48,49,50,51,52,53,54,55,56,57]⟩:ByteArray)=some ⟨(Lib.trimS s.data.toList cutset).toArray⟩:=by
   unfold qho
   rw [if_pos ⟨by omega,by decide,by decide⟩]
   rfl
  rw [hT]
  simp only [cond_true,je]
  have hE:(((⟨(Lib.trimS s.data.toList cutset).toArray⟩:ByteArray).toList==(⟨#[]⟩:ByteArray).toList))=allN (fun j=>letB (bt s j) || digB (bt s j)) s.size:=by
   rw [qgB,jj,decide_eq_true_iff,qaF]
   have:((⟨(Lib.trimS s.data.toList cutset).toArray⟩:ByteArray)=⟨#[]⟩)↔Lib.trimS s.data.toList cutset=[]:=by
    constructor
    ·intro he
     have:=congrArg (fun x:ByteArray=>x.data.toList) he
     simpa using this
    ·intro he;rw [he]
   rw [this,quv]
   constructor
   ·intro hx j hj
    have hj':j<s.data.toList.length:=by omega
    have:=hx _ (jq hj')
    rw [qoL,←qvY hj'] at this
    exact this
   ·intro hx x hm
    obtain ⟨j,hj,rfl⟩:=jF hm
    have:=hx j (by omega)
    rw [qoL,←qvY hj]
    exact this
  rw [hE]
  have h0:atS s 0=some (bt s 0:Int):=qt8 (j:=0) (by omega)
  have hI2:decide (Lib.indexByte letters (bt s 0:Int).toNat.toUInt8 ≥ 0)=letB (bt s 0):=by
   rw [jw];exact qrS _ qwF
  have hF:∀ b:Bool,(bif b then (atS s 0).bind fun y1=>(qfW n (⟨#[97,98,99,100,101,102,103,104,105,106,107,108,109,110,111,112,113,114,115,116,117,118,119,120,121,122]⟩:ByteArray) (⟨y1⟩:IntK .u8)).bind fun r3=>some (decide (r3 ≥ 0)) else some false)=some (b&&letB (bt s 0)):=by
   intro b
   cases b with
   | false=>rfl
   | true =>
    rw [h0]
    simp only [cond_true,je,qfW,jI]
    exact congrArg some hI2
  rw [hF]
  congr 1
  have hs':(decide (1≤s.size)&&decide (s.size≤8))=true:=by simp [hs]
  unfold nameB
  rw [hs',jI,jj,ji,qaF,qaF]
  simp only [chB,Bool.or_eq_true,ji,decide_eq_true_eq]
  constructor
  ·rintro ⟨h1,h2⟩ j hj
   rcases Nat.eq_zero_or_pos j with rfl|hp
   ·exact .inl h2
   ·exact (h1 j hj).imp id (fun h=>⟨h,hp⟩)
  ·intro h1
   refine ⟨fun j hj=>(h1 j hj).imp id (fun h=>h.1),?_⟩
   rcases h1 0 (by omega) with h2|h2
   ·exact h2
   ·omega
def strAt (xs:List ByteArray) (j:Nat):ByteArray:=xs.getD j ByteArray.empty
theorem qmW {xs:List ByteArray} {j:Nat} (h:j<xs.length):strAt xs j=xs[j]:=by simp [strAt,h]
theorem qog {xs:List ByteArray} {j:Nat} (h:j<xs.length):idx xs (j:Int)=some (strAt xs j):=by rw [qaU h,qmW h]
def neB (xs:List ByteArray) (j i:Nat):Bool:=!decide (strAt xs i=strAt xs j)
def namesB (xs:List ByteArray):Bool:=allN (fun j=>nameB (strAt xs j)&&allN (neB xs j) j) xs.length
theorem qlm {xs:List ByteArray} (h:okL okS xs):Ev (fun n=>qfR n xs) (namesB xs):=by
 have hl:=h.len
 have hL2:∀ j,j<xs.length→Ev (fun n=>qdL xs (j:Int) n 0) (bif allN (neB xs j) j then .nxt (j:Int) else .ret false):=by
  intro j hj
  refine qeL ?_ (fun i hi X hX=>Ev.succ ?_)
  ·exact Ev.succ (by simp only [qdL,qh (jf _),cond_false];exact .done)
  ·simp only [qdL,qf hi,cond_true,qog (show i<xs.length by omega),qog hj,je,qgB,wS i]
   unfold neB
   cases decide (strAt xs i=strAt xs j)
   ·exact hX
   ·exact .done
 have hL1:Ev (fun n=>qdW xs n 0) (bif namesB xs then .nxt (xs.length:Int) else .ret false):=by
  refine qeL ?_ (fun j hj X hX=>Ev.succ ?_)
  ·exact Ev.succ (by simp only [qdW,qh (jf _),cond_false];exact .done)
  ·simp only [qdW,qf hj,cond_true,qog hj,je,wS j]
   refine Ev.bind (qme (by rw [qmW hj];exact h.at hj)) ?_
   cases nameB (strAt xs j)
   ·exact .done
   ·refine Ev.ff rfl (Ev.bind (hL2 j hj) ?_)
    cases allN (neB xs j) j
    ·exact .done
    ·exact hX
 unfold qfR
 refine Ev.bind hL1 ?_
 cases namesB xs<;>exact .done
theorem qqY {xs:List ByteArray} {v:ByteArray} (hl:xs.length≤1048576):Ev (fun n=>qeT n xs v) (ixL (fun x=>decide (v=x)) xs) :=
 qd5 (fin:=(xs.length:Int)) (Lf:=qbD xs v) (pf:=fun _ x=>some (decide (v=x))) (fun _ _=>.done)
  (fun n=>by simp only [qbD,qh (jf _),cond_false])
  (fun n j x hx=>by
   have hj:=(List.getElem?_eq_some_iff.1 hx).1
   simp only [qbD,qf hj,cond_true,qW hx,je,qgB,wS j])
  (fun n=>by unfold qeT;congr 1;funext o;cases o<;>rfl)
theorem qoI {xs:List ByteArray} {v:ByteArray} (hl:xs.length≤1048576):Ev (fun n=>qdz n xs v) (xs.any fun x=>decide (v=x)):=by
 unfold qdz
 exact Ev.bind (qqY hl) (Ev.now (by rw [qi9]))
theorem qip {xs:List ByteArray} (h:okL okS xs):Ev (fun n=>qdD n xs) (namesB xs):=by
 have hl:=h.len
 have hL1:Ev (fun n=>qdG xs n 0) (bif namesB xs then .nxt (xs.length:Int) else .ret false):=by
  refine qeL ?_ (fun j hj X hX=>Ev.succ ?_)
  ·exact Ev.succ (by simp only [qdG,qh (jf _),cond_false];exact .done)
  ·have hs:subS xs 0 (j:Int)=some (xs.take j):=by
    unfold subS
    rw [if_pos ⟨by omega,by omega,by omega⟩]
    simp
   simp only [qdG,qf hj,cond_true,qog hj,je,hs,qpH (show okS (strAt xs j) by rw [qmW hj];exact h.at hj),wS j]
   cases nameB (strAt xs j)
   ·exact .done
   ·refine Ev.ff rfl (Ev.bind (qoI (by simp;omega)) ?_)
    have:((xs.take j).any fun x=>decide (strAt xs j=x)) = !allN (neB xs j) j:=by
     rw [qrk (d:=ByteArray.empty)]
     congr 1
     rw [Jc,Nat.min_eq_left (by omega)]
     refine qgW (fun i hi=>?_)
     unfold neB strAt
     congr 1
     have:(xs.take j).getD i ByteArray.empty=xs.getD i ByteArray.empty:=by simp [jH,hi]
     rw [this]
     exact decide_eq_decide.2 eq_comm
    rw [this]
    cases allN (neB xs j) j
    ·exact .done
    ·exact hX
 unfold qdD
 refine Ev.bind hL1 ?_
 cases namesB xs<;>exact .done
end Go.Fw


namespace Go.Fw
open Go
set_option maxRecDepth 100000
theorem qpe {n:Nat} {x lo hi:Int}:qgm n x lo hi=some (!inI x lo hi):=by simp only [qgm,qdK,je]
theorem qfw {xs:List Int} {lo hi:Int} (hl:xs.length≤1048576):Ev (fun n=>qbB n xs lo hi) (xs.all fun x=>inI x lo hi):=by
 have h1:Ev (fun n=>qaG n xs lo hi) (ixL (fun x=>!inI x lo hi) xs) :=
  qd5 (fin:=(xs.length:Int)) (Lf:=qR xs lo hi) (pf:=fun _ x=>some (!inI x lo hi)) (fun _ _=>.done)
   (fun n=>by simp only [qR,qh (jf _),cond_false])
   (fun n j x hx=>by
    have hj:=(List.getElem?_eq_some_iff.1 hx).1
    simp only [qR,qf hj,cond_true,qW hx,je,qpe,wS j])
   (fun n=>by unfold qaG;congr 1;funext o;cases o<;>rfl)
 unfold qbB qba
 refine Ev.bind (Ev.bind h1 (Ev.now rfl)) (Ev.now ?_)
 rw [qi9,qmP]
def stepB (xs:List Int) (j:Nat):Bool:=decide (j=0) || decide (at0 xs (j-1)<at0 xs j)
def incB (xs:List Int):Bool:=allN (stepB xs) xs.length
theorem qiz {xs:List Int} (hl:xs.length≤1048576):Ev (fun n=>qde n xs) (incB xs):=by
 have hL:Ev (fun n=>qa4 xs n 1) (bif incB xs then .nxt (max 1 xs.length:Int) else .ret false):=by
  by_cases h0:xs.length=0
  ·have hb:incB xs=true:=by unfold incB;rw [h0];rfl
   rw [hb]
   refine Ev.succ ?_
   have:decide ((1:Int)<(xs.length:Int))=false:=by rw [h0];decide
   simp only [qa4,this,cond_false]
   exact Ev.now (by rw [h0];rfl)
  ·have:=qsO (Lf:=qa4 xs) (len:=xs.length) (i0:=1) (f:=stepB xs) (bad:=false) (fin:=.nxt (max 1 xs.length:Int)) (by omega)
    (Ev.succ (by
     simp only [qa4,qh (jf _),cond_false]
     exact Ev.now (by congr 2;omega)))
    (fun j h1 hj X hX=>Ev.succ (by
     simp only [qa4,qf hj,cond_true,wS j,show (j:Int)-1=((j-1:Nat):Int) by omega,qao (show -9223372036854775808≤((j-1:Nat):Int) by omega) (by omega),qbu (show j-1<xs.length by omega),qbu hj,je]
     unfold stepB
     by_cases hc:at0 xs (j-1)<at0 xs j
     ·have e1:decide (at0 xs (j-1) ≥ at0 xs j)=false:=by simp;omega
      rw [e1];simp only [hc,decide_true,Bool.or_true,cond_true,cond_false];exact hX
     ·have e1:decide (at0 xs (j-1) ≥ at0 xs j)=true:=by simp;omega
      have e2:decide (j=0)=false:=by simp;omega
      rw [e1,e2];simp only [hc,decide_false,Bool.or_self,cond_true,cond_false];exact .done))
   have e:allN (fun j=>stepB xs (1+j)) (xs.length-1)=incB xs:=by
    unfold incB
    rw [jj,qaF,qaF]
    constructor
    ·intro h j hj
     cases j with
     | zero=>rfl
     | succ j=>have:=h j (by omega);rwa [Nat.add_comm] at this
    ·intro h j hj
     exact h (1+j) (by omega)
   rw [e] at this
   exact this
 unfold qde
 refine Ev.bind hL ?_
 cases incB xs<;>exact .done
def lenB {α:Type} (xs:List α) (lo hi:Nat):Bool:=decide (lo≤xs.length)&&decide (xs.length≤hi)
theorem qqh {α:Type} {xs:List α} {lo hi:Nat}:inI (xs.length:Int) (lo:Int) (hi:Int)=lenB xs lo hi:=by
 unfold inI lenB;rw [jj];simp
def axisB (xs:List Int):Bool:=lenB xs 1 4&&((xs.all fun x=>inI x 0 100000)&&incB xs)
theorem qpy {xs:List Int} (hl:xs.length≤1048576):Ev (fun n=>qiq n xs) (axisB xs):=by
 simp only [qiq,qaB,je,qdK,show inI (xs.length:Int) 1 4=lenB xs 1 4 from qqh (lo:=1) (hi:=4)]
 unfold axisB
 cases lenB xs 1 4
 ·exact .done
 ·refine Ev.tt rfl (Ev.bind (qfw hl) ?_)
  cases (xs.all fun x=>inI x 0 100000)
  ·exact .done
  ·exact Ev.tt rfl (Ev.bind (qiz hl) .done)
theorem qoS {xs:List Int} (hl:xs.length≤1048576):Ev (fun n=>qg7 n xs) (axisB xs):=by
 have hL:Ev (fun n=>qdp xs n 0) (bif allN (fun j=>inI (at0 xs j) 0 100000&&stepB xs j) xs.length then .nxt (xs.length:Int) else .ret false):=by
  refine qeL ?_ (fun j hj X hX=>Ev.succ ?_)
  ·exact Ev.succ (by simp only [qdp,qh (jf _),cond_false];exact .done)
  ·simp only [qdp,qf hj,cond_true,qbu hj,je,qd8,wS j]
   cases inI (at0 xs j) 0 100000
   ·exact .done
   ·simp only [Jg,cond_false,jI]
    unfold stepB
    by_cases h0:j=0
    ·subst h0
     exact Ev.ff (by decide) hX
    ·simp only [show (j:Int)-1=((j-1:Nat):Int) by omega,qao (show -9223372036854775808≤((j-1:Nat):Int) by omega) (by omega),qbu (show j-1<xs.length by omega),je]
     have e2:decide (j=0)=false:=by simp;omega
     have e3:decide ((j:Int) > 0)=true:=by simp;omega
     rw [e2,e3]
     simp only [cond_true,Bool.false_or]
     by_cases hc:at0 xs (j-1)<at0 xs j
     ·have e1:decide (at0 xs (j-1) ≥ at0 xs j)=false:=by simp;omega
      rw [e1];simp only [hc,decide_true,cond_true,cond_false];exact hX
     ·have e1:decide (at0 xs (j-1) ≥ at0 xs j)=true:=by simp;omega
      rw [e1];simp only [hc,decide_false,cond_true,cond_false];exact .done
 have e:axisB xs=(allN (fun j=>inI (at0 xs j) 0 100000&&stepB xs j) xs.length&&lenB xs 1 4):=by
  unfold axisB incB
  rw [qj5,qhb (d:=0),Bool.and_comm]
  rfl
 rw [e]
 unfold qg7
 refine Ev.bind hL ?_
 cases allN (fun j=>inI (at0 xs j) 0 100000&&stepB xs j) xs.length
 ·exact .done
 ·simp only [cond_true,qk4,qmO,jI]
  exact Ev.now (by congr 1;unfold lenB;rw [jj];simp;omega)
def tableB (t:qq):Bool:=axisB t.Bc&&(axisB t.Bb&&(decide (t.Au.length=t.Bc.length*t.Bb.length)&&(t.Au.all fun x=>inI x (-1000000) 1000000)))
theorem qsI {a b:Nat} (ha:a≤1048576) (hb:b≤1048576):W64 ((a:Int)*(b:Int))=((a*b:Nat):Int):=by
 have h:a*b≤1048576*1048576:=Nat.mul_le_mul ha hb
 have e:(a:Int)*(b:Int)=((a*b:Nat):Int):=by simp
 rw [e]
 exact qao (by omega) (by omega)
theorem qr5 {t:qq} (h:qhE t):Ev (fun n=>qiI n t) (tableB t):=by
 unfold qiI tableB
 refine Ev.bind (qpy h.Bc.len) ?_
 cases axisB t.Bc
 ·exact .done
 ·refine Ev.tt rfl (Ev.bind (qpy h.Bb.len) ?_)
  cases axisB t.Bb
  ·exact .done
  ·rw [qsI h.Bc.len h.Bb.len]
   have e:(((t.Au.length:Nat):Int)==((t.Bc.length*t.Bb.length:Nat):Int))=decide (t.Au.length=t.Bc.length*t.Bb.length):=by rw [jj];simp;omega
   rw [e]
   cases decide (t.Au.length=t.Bc.length*t.Bb.length)
   ·exact .done
   ·exact Ev.tt rfl (Ev.tt rfl (Ev.bind (qfw h.Au.len) .done))
theorem qrm {t:qq} (h:qhE t):Ev (fun n=>qi2 n t) (tableB t):=by
 have hl:=h.Au.len
 have hL:Ev (fun n=>qei t n 0) (bif (t.Au.all fun x=>inI x (-1000000) 1000000) then .nxt (t.Au.length:Int) else .ret false) :=
  qlf (fun n=>by simp only [qei,qh (jf _),cond_false]) (fun j hj X hX=>by
   simp only [qei,qf hj,cond_true,qaU hj,je,qd8,wS j]
   cases inI t.Au[j] (-1000000) 1000000
   ·exact .done
   ·exact hX)
 unfold qi2 tableB
 refine Ev.bind (b:=!(axisB t.Bc&&(axisB t.Bb&&decide (t.Au.length=t.Bc.length*t.Bb.length)))) ?_ ?_
 ·refine Ev.bind (qoS h.Bc.len) ?_
  cases axisB t.Bc
  ·exact .done
  ·refine Ev.ff rfl (Ev.bind (qoS h.Bb.len) ?_)
   cases axisB t.Bb
   ·exact .done
   ·refine Ev.ff rfl (Ev.now ?_)
    rw [qsI h.Bc.len h.Bb.len]
    congr 1
    rw [jj];simp;omega
 ·cases axisB t.Bc
  ·exact .done
  ·cases axisB t.Bb
   ·exact .done
   ·cases decide (t.Au.length=t.Bc.length*t.Bb.length)
    ·exact .done
    ·refine Ev.ff rfl (Ev.bind hL ?_)
     cases (t.Au.all fun x=>inI x (-1000000) 1000000)<;>exact .done
end Go.Fw


namespace Go.Fw
open Go
set_option maxRecDepth 100000
instance:Inhabited qU:=⟨⟨ByteArray.empty,0,0,false⟩⟩
instance:Inhabited qq:=⟨⟨[],[],[]⟩⟩
instance:Inhabited qC:=⟨⟨0,0,0,0,[],[]⟩⟩
instance:Inhabited qp:=⟨⟨ByteArray.empty,0,[],[],[],0,0⟩⟩
instance:Inhabited qg:=⟨⟨ByteArray.empty,0,[]⟩⟩
instance:Inhabited qF:=⟨⟨ByteArray.empty,0,0⟩⟩
instance:Inhabited qy:=⟨⟨[],[],[],[]⟩⟩
theorem lastE {j m:Nat} (h:j<m) (hm:m≤1048576):((j:Int)==W64 ((m:Int)-1))=decide (j+1=m):=by
 rcases qvN h with h|h
 ·exact h
 ·omega
theorem qi6 {α:Type} [Inhabited α] {xs:List α} {g:α→ByteArray} {j:Nat} (h:j<xs.length):strAt (xs.map g) j=g (gt xs j):=by
 rw [qmW (by simpa using h),qjF h];simp
theorem qlD {α:Type} {xs:List α} {g:α→ByteArray} {ok:α→Prop} (h:okL ok xs) (hg:∀ x,ok x→okS (g x)):okL okS (xs.map g) :=
 ⟨by rw [jQ];exact h.1,fun y hy=>by
  obtain ⟨x,hx,rfl⟩:=List.mem_map.1 hy
  exact hg x (h.2 x hx)⟩
theorem qkj {α β:Type} {xs:List α} {g:α→β} {j:Nat} (h:j<xs.length) (hl:xs.length≤1048576) {y:β}:appS ((xs.take j).map g) [y]=some ((xs.take j).map g++[y]) :=
 qcg (by simp;omega)
def pinB (ps:List qU) (j:Nat):Bool :=
 bif decide (j+1=ps.length) then ((gt ps j).Bl==2)&&(((gt ps j).Bj==0)&&!(gt ps j).Bd) else ((gt ps j).Bl==1)&&inI (gt ps j).Bj 0 500
def pinsB (ps:List qU):Bool:=allN (pinB ps) ps.length&&(lenB ps 2 5&&namesB (ps.map qU.Ar))
def clkN (ps:List qU) (j:Nat):Nat:=cntP (fun i=>(gt ps i).Bd) j
theorem qrJ {ps:List qU} (h:okL qlg ps):Ev (fun n=>qiS n ps) (pinsB ps):=by
 have hl:=h.len
 have hL:Ev (fun n=>qcG ps n ([]:List ByteArray) 0) (bif allN (pinB ps) ps.length then .nxt (ps.map qU.Ar,(ps.length:Int)) else .ret false):=by
  refine loopN (Lf:=qcG ps) (S:=fun j=>(ps.take j).map qU.Ar) (pinB ps) (fun n=>?_) (fun j hj hp X hX=>?_)
  ·simp only [qcG,qh (jf _),cond_false,jB]
  ·simp only [qcG,qf hj,cond_true,qS hj,je,qkj hj hl,qfB (g:=qU.Ar) hj,lastE hj hl,bne,qbn,qdK,wS j]
   generalize hc:pinB ps j=c at hX ⊢
   unfold pinB at hc
   cases hd:decide (j+1=ps.length)
   ·rw [hd] at hc
    simp only [cond_false] at hc ⊢
    subst hc
    exact Ev.okP (fun h1=>Ev.okP1 (fun h2=>hX (by rw [h1,h2];rfl)))
   ·rw [hd] at hc
    simp only [cond_true] at hc ⊢
    subst hc
    refine Ev.okP (fun h1=>Ev.okP (fun h2=>Ev.chkP1 (fun h3=>hX (by rw [h1,h2,h3];rfl))))
 unfold qiS pinsB
 refine Ev.bind hL ?_
 cases allN (pinB ps) ps.length
 ·exact .done
 ·simp only [cond_true,qbv,qdK,je,show inI (ps.length:Int) 2 5=lenB ps 2 5 from qqh (lo:=2) (hi:=5),jI]
  exact Ev.andP (fun _=>Ev.last (qip (qlD h (fun x hx=>hx.Ar))))
def pinS (ps:List qU) (j:Nat):Bool:=allN (neB (ps.map qU.Ar) j) j&&((nameB (gt ps j).Ar&&inI (gt ps j).Bj 0 500)&&(bif decide (j+1=ps.length) then ((gt ps j).Bl==2)&&(((gt ps j).Bj==0)&&!(gt ps j).Bd) else ((gt ps j).Bl==1)))
theorem qvi {ps:List qU}:(lenB ps 2 5&&allN (pinS ps) ps.length)=pinsB ps:=by
 have e:namesB (ps.map qU.Ar)=allN (fun j=>nameB (gt ps j).Ar&&allN (neB (ps.map qU.Ar) j) j) ps.length:=by
  unfold namesB
  rw [jQ]
  exact qgW (fun j hj=>by rw [qi6 hj])
 unfold pinsB
 rw [e,←Bool.and_assoc,Bool.and_comm (allN (pinB ps) ps.length),Bool.and_assoc,←qj5]
 congr 1
 refine qgW (fun j hj=>?_)
 unfold pinS pinB
 cases hd:decide (j+1=ps.length)
 ·simp only [cond_false]
  cases allN (neB (ps.map qU.Ar) j) j<;>cases nameB (gt ps j).Ar<;>cases inI (gt ps j).Bj 0 500<;>cases ((gt ps j).Bl==1)<;>rfl
 ·simp only [cond_true]
  cases hcap:((gt ps j).Bj==0)
  ·simp
  ·have:inI (gt ps j).Bj 0 500=true:=by rw [beq_iff_eq] at hcap;rw [hcap];rfl
   rw [this]
   cases allN (neB (ps.map qU.Ar) j) j<;>cases nameB (gt ps j).Ar<;>cases ((gt ps j).Bl==2)<;>cases (gt ps j).Bd<;>rfl
theorem qrK {c:qp} (h:okL qlg c.Am):Ev (fun n=>qiN n c) (bif pinsB c.Am then (((clkN c.Am c.Am.length:Nat):Int),true) else (0,false)):=by
 have hl:=h.len
 have hL2:∀ j,j<c.Am.length→Ev (fun n=>qeh c (j:Int) (gt c.Am j) n 0) (bif allN (neB (c.Am.map qU.Ar) j) j then .nxt (j:Int) else .ret (0,false)):=by
  intro j hj
  refine qeL ?_ (fun i hi X hX=>Ev.succ ?_)
  ·exact Ev.succ (by simp only [qeh,qh (jf _),cond_false];exact .done)
  ·simp only [qeh,qf hi,cond_true,qS (show i<c.Am.length by omega),je,qgB,wS i]
   unfold neB
   rw [qi6 (g:=qU.Ar) (show i<c.Am.length by omega),qi6 (g:=qU.Ar) hj]
   exact Ev.chkP1 (fun _=>hX)
 have hL1:Ev (fun n=>qcI c n 0 0) (bif allN (pinS c.Am) c.Am.length then .nxt (((clkN c.Am c.Am.length:Nat):Int),(c.Am.length:Int)) else .ret (0,false)):=by
  refine loopN (Lf:=qcI c) (S:=fun j=>((clkN c.Am j:Nat):Int)) (pinS c.Am) (fun n=>?_) (fun j hj hp X hX=>?_)
  ·simp only [qcI,qh (jf _),cond_false]
  ·have hn:clkN c.Am j≤j:=qeC
   have ejl:((j:Int)==W64 ((c.Am.length:Int)-1))=decide (j+1=c.Am.length):=lastE hj hl
   have elt:decide ((j:Int)<W64 ((c.Am.length:Int)-1)) = !decide (j+1=c.Am.length):=by
    rw [qao (by omega) (by omega),jj];simp;omega
   simp only [qcI,qf hj,cond_true,qS hj,je,wS j,qd1 (show clkN c.Am j<9223372036854775807 by omega),ejl,elt,qd8]
   unfold pinS
   refine Ev.bind (hL2 j hj) ?_
   cases ha:allN (neB (c.Am.map qU.Ar) j) j
   ·exact .done
   ·simp only [cond_true,jI]
    refine Ev.chkT ?_ (fun h1=>?_)
    ·exact Ev.or (qme (qiv h hj).Ar) (fun _=>.done)
    ·refine Ev.chkT1 ?_ (fun h2=>?_)
     ·cases decide (j+1=c.Am.length)
      ·exact .done
      ·simp only [cond_true,Jg,cond_false,bne,qbn]
       cases ((gt c.Am j).Bl==2)<;>cases ((gt c.Am j).Bj==0)<;>cases (gt c.Am j).Bd<;>exact .done
     ·have hX:=hX (by unfold pinS;rw [ha,h1,h2];rfl)
      have hck:clkN c.Am (j+1)=clkN c.Am j+(bif (gt c.Am j).Bd then 1 else 0):=rfl
      rw [hck] at hX
      cases hc:(gt c.Am j).Bd
      ·rw [hc] at hX;exact Ev.ff rfl hX
      ·rw [hc] at hX;exact Ev.tt rfl hX
 rw [←qvi]
 unfold qiN
 refine Ev.guard ?_ (fun h1=>?_)
 ·unfold lenB
  have e1:decide ((c.Am.length:Int)<2) = !decide (2≤c.Am.length):=by rw [jj];simp;omega
  have e2:decide ((c.Am.length:Int) > 5) = !decide (c.Am.length≤5):=by rw [jj];simp;omega
  rw [e1,e2]
  cases decide (2≤c.Am.length)<;>cases decide (c.Am.length≤5)<;>exact .done
 ·refine Ev.bind hL1 ?_
  cases allN (pinS c.Am) c.Am.length<;>exact .done
def mnL (xs:List Int):Int:=(xs.drop 1).foldl (fun m y=>if y<m then y else m) (at0 xs 0)
def mxL (xs:List Int):Int:=(xs.drop 1).foldl (fun m y=>if y > m then y else m) (at0 xs 0)
theorem qo1 {t:qq} (h:tableB t=true):1≤t.Au.length:=by
 unfold tableB axisB lenB at h
 simp only [ji,decide_eq_true_eq] at h
 obtain ⟨⟨⟨h1,_⟩,_⟩,⟨⟨h2,_⟩,_⟩,h3,_⟩:=h
 rw [h3]
 exact Nat.mul_pos h1 h2
theorem qvo {xs:List Int} (h1:1≤xs.length) (hl:xs.length≤1048576):Ev (fun n=>qgt n xs) (mnL xs):=by
 have hL:=(qp0 (Lf:=fun n t j=>qcC xs n t j) (xs:=xs) (step:=fun (m y:Int)=>if y<m then y else m) (fin:=fun t=>(t,(xs.length:Int))) 1 (at0 xs 0) (fun _ _=>True) h1 trivial (fun _ _ _ _=>trivial)
  (fun n t=>by simp only [qcC,qh (jf _),cond_false])
  (fun j t hj _ X hX=>by simpa only [qcC,qf hj,cond_true,qaU hj,je,wS j] using hX)).1
 unfold qgt
 rw [show decide ((xs.length:Int)<1)=false by simp;omega,show idx xs (0:Int)=some (at0 xs 0) from qbu (j:=0) (by omega)]
 simp only [cond_false,je]
 exact Ev.bind hL .done
theorem qrO {t:qq} (h:qhE t):Ev (fun n=>qgo n t) (bif tableB t then (⟨mnL t.Au,mxL t.Au⟩,0) else (⟨0,0⟩,1)):=by
 unfold qgo
 refine Ev.chk1 (qrm h) (fun hb=>?_)
 have h1:=qo1 hb
 have hl:=h.Au.len
 have hL:=(qp0 (Lf:=fun n (t':Int × Int) j=>qcw t n t'.1 t'.2 j) (xs:=t.Au) (step:=fun (m:Int × Int) y=>(if y<m.1 then y else m.1,if y > m.2 then y else m.2)) (fin:=fun t'=>(t'.1,t'.2,(t.Au.length:Int))) 1 (at0 t.Au 0,at0 t.Au 0) (fun _ _=>True) h1 trivial (fun _ _ _ _=>trivial)
  (fun n t=>by simp only [qcw,qh (jf _),cond_false])
  (fun j t hj _ X hX=>by simpa only [qcw,qf hj,cond_true,qaU hj,je,wS j] using hX)).1
 have hf:∀ (ys:List Int) (a b:Int),ys.foldl (fun (m:Int × Int) y=>(if y<m.1 then y else m.1,if y > m.2 then y else m.2)) (a,b)=(ys.foldl (fun m y=>if y<m then y else m) a,ys.foldl (fun m y=>if y > m then y else m) b):=by
  intro ys
  induction ys with
  | nil=>intro a b;rfl
  | cons y ys ih=>intro a b;simp only [List.foldl_cons,ih]
 rw [hf] at hL
 rw [show idx t.Au (0:Int)=some (at0 t.Au 0) from qbu (j:=0) (by omega)]
 simp only [je]
 exact Ev.bind hL .done
def tabB (pos:Bool) (t:qq):Bool:=tableB t&&(!pos || decide (0≤mnL t.Au))
def tablesB (ts:List qq) (pos:Bool):Bool:=decide (ts.length=2)&&ts.all (tabB pos)
theorem qkK {ts:List qq} {pos:Bool} (h:okL qhE ts):Ev (fun n=>qfl n ts pos) (tablesB ts pos):=by
 have hl:=h.len
 have h1:Ev (fun n=>qap n ts pos) (ixL (fun x=>!tabB pos x) ts) :=
  qd5 (fin:=(ts.length:Int)) (Lf:=qI ts pos) (pf:=fun n x=>qgs n x pos) (fun x hx=>by
    unfold qgs tabB
    refine Ev.or (qr5 (h.2 x hx)) (fun hb=>?_)
    cases pos
    ·exact .done
    ·refine Ev.tt rfl (Ev.bind (qvo (qo1 hb) (h.2 x hx).Au.len) (Ev.now ?_))
     congr 1
     rw [jj];simp)
   (fun n=>by simp only [qI,qh (jf _),cond_false])
   (fun n j x hx=>by
    have hj:=(List.getElem?_eq_some_iff.1 hx).1
    simp only [qI,qf hj,cond_true,qW hx,je,wS j])
   (fun n=>by unfold qap;congr 1;funext o;cases o<;>rfl)
 unfold qfl qaO tablesB
 rw [show ((ts.length:Int)==2)=decide (ts.length=2) by rw [jj];simp;omega]
 refine Ev.andP (fun _=>Ev.bind (Ev.bind h1 (Ev.now rfl)) (Ev.now ?_))
 rw [qi9,qmP]
theorem qha {ts:List qq} {pos:Bool} (h:okL qhE ts):Ev (fun n=>qc1 n ts pos) (tablesB ts pos):=by
 unfold qc1 tablesB
 rw [show ((ts.length:Int) != 2) = !decide (ts.length=2) by rw [jj];simp;omega]
 simp only [qbn]
 refine Ev.andP (fun h2=>?_)
 have h2:ts.length=2:=by simpa using h2
 have hL:Ev (fun n=>qcs ts pos n 0) (bif allN (fun j=>tabB pos (gt ts j)) ts.length then .nxt (2:Int) else .ret false):=by
  refine qeL (len:=ts.length) ?_ (fun j hj X hX=>Ev.succ ?_)
  ·rw [h2];exact Ev.succ (by simp only [qcs];exact .done)
  ·simp only [qcs,show decide ((j:Int)<2)=true by simp;omega,cond_true,qS hj,je,wS j]
   refine Ev.bind (qrO (qiv h hj)) ?_
   unfold tabB
   cases tableB (gt ts j)
   ·exact .done
   ·simp only [cond_true,jI]
    refine Ev.ff rfl ?_
    cases pos
    ·exact hX
    ·refine Ev.tt rfl ?_
     rw [show decide (mnL (gt ts j).Au<0) = !decide (0≤mnL (gt ts j).Au) by rw [jj];simp]
     simp only [qbn]
     exact Ev.okP1 (fun _=>hX)
 rw [qhN]
 refine Ev.bind hL ?_
 cases allN (fun j=>tabB pos (gt ts j)) ts.length<;>exact .done
end Go.Fw


namespace Go.Fw
open Go
set_option maxRecDepth 100000
theorem qf8 {α:Type} [Inhabited α] {xs:List α} {x:Int} (h0:0≤x) (h1:x<xs.length):idx xs x=some (gt xs x.toNat):=by
  have:=qS (xs:=xs) (j:=x.toNat) (by omega)
  rwa [←qoy h0] at this
theorem qpD {q:Nat→Bool} {m n:Nat} (h:m≤n):cntP q m≤cntP q n:=by
  induction n with
  | zero =>
    obtain rfl:m=0:=by omega
    exact jf _
  | succ n ih =>
    rcases Nat.lt_or_eq_of_le h with h|rfl
    · exact jS (ih (by omega)) (Nat.le_add_right _ _)
    · exact jf _
theorem qkw {m k:Nat}:decide ((m:Int)≤(k:Int))=decide (m≤k):=by rw [jj];simp
theorem qry {q:Nat→Bool} {n i j:Nat} (hi:i<j) (hj:j<n) (h1:q i=true) (h2:q j=true):2≤cntP q n:=by
  have e1:cntP q (i+1)=cntP q i+1:=by rw [cntP,h1];rfl
  have e2:cntP q (j+1)=cntP q j+1:=by rw [cntP,h2];rfl
  have m1:=qpD (q:=q) (show i+1≤j by omega)
  have m2:=qpD (q:=q) (show j+1≤n by omega)
  omega
theorem qqM {q:Nat→Bool} {n i j:Nat} (hn:cntP q n≤1) (hi:i<n) (hj:j<n) (h1:q i=true) (h2:q j=true):i=j:=by
  rcases Nat.lt_trichotomy i j with h|h|h
  · have:=qry h hj h1 h2;omega
  · exact h
  · have:=qry h hi h2 h1;omega
def clkIx (ps:List qU):Int:=ixL (fun p=>p.Bd) ps
def clkAt (ps:List qU) (x:Int):Bool:=(gt ps x.toNat).Bd
theorem quJ {c:qp} (hl:c.Am.length≤1048576):Ev (fun n=>qgO n c) (clkIx c.Am):=by
  unfold qgO
  refine Ev.bind (b:=clkIx c.Am) ?_ .done
  exact qd5 (fin:=(c.Am.length:Int)) (Lf:=qK c.Am) (pf:=fun n x=>qhp n x) (fun _ _=>.done)
    (fun n=>by simp only [qK,qh (jf _),cond_false])
    (fun n j x hx=>by
      have hj:=(List.getElem?_eq_some_iff.1 hx).1
      simp only [qK,qf hj,cond_true,qW hx,je,wS j])
    (fun n=>by unfold qa3;congr 1;funext o;cases o<;>rfl)
def arcI (ps:List qU) (a:qC):Bool :=
  bif (a.Aq==4) || (a.Aq==5) then
    (a.Bg==0)&&(((a.Bh.length:Int)==0)&&(tablesB a.Az false&&((a.Av==clkIx ps)&&(decide (a.Av ≥ 0)&&(inI a.To 0 (ps.length-2)&&!(a.To==a.Av))))))
  else
    (tablesB a.Az true&&(tablesB a.Bh true&&((a.To==(ps.length:Int)-1)&&inI a.Av 0 (ps.length-2)))) &&
      (bif a.Aq==1 then !clkAt ps a.Av&&inI a.Bg 1 3 else (bif (a.Aq==2) || (a.Aq==3) then clkAt ps a.Av&&(a.Bg==0) else false))
def arcS (ps:List qU) (a:qC):Bool :=
  (inI a.Av 0 (ps.length-2)&&inI a.To 0 (ps.length-1)) &&
    (bif a.Aq==1 then !clkAt ps a.Av&&((a.To==(ps.length:Int)-1)&&(inI a.Bg 1 3&&(tablesB a.Az true&&tablesB a.Bh true)))
     else (bif (a.Aq==2) || (a.Aq==3) then clkAt ps a.Av&&((a.To==(ps.length:Int)-1)&&((a.Bg==0)&&(tablesB a.Az true&&tablesB a.Bh true)))
     else (bif (a.Aq==4) || (a.Aq==5) then clkAt ps a.Av&&(decide (a.To<(ps.length:Int)-1)&&(!clkAt ps a.To&&((a.Bg==0)&&(tablesB a.Az false&&((a.Bh.length:Int)==0))))) else false)))
theorem qnz {c d:Bool}:(bif c then some c else some d)=some (c || d):=by cases c<;>rfl
theorem qrC {c d:Bool}:(bif c then some true else some d)=some (c || d):=by cases c<;>rfl
theorem qrQ {n:Nat} {k:Int}:qiO n k=some ((k==4) || (k==5)):=by simp only [qiO,qrC]
theorem quD {c:qp} {a:qC} (h:okL qlg c.Am) (ha:qmi a) (hm:2≤c.Am.length):Ev (fun n=>qgM n c a) (arcI c.Am a):=by
  have hl:=h.len
  have e1:W64 ((c.Am.length:Int)-1)=(c.Am.length:Int)-1:=qbV (by omega)
  have e2:W64 ((c.Am.length:Int)-1-1)=(c.Am.length:Int)-2:=by rw [qao (by omega) (by omega)];omega
  simp only [qgM,qrQ,je,qfZ,qb9,qbv,e1,e2,qdK,qnz,bne]
  unfold arcI
  refine Ev.iff (fun _=>Ev.last ?_) (fun _=>Ev.guardB ?_ (fun hb=>?_))
  · exact Ev.andP fun _=>Ev.andP fun _=>Ev.and (qkK ha.Az) fun _=>Ev.bind (quJ hl) (Ev.andP fun _=>Ev.andP fun _=>Ev.andP fun _=>.done)
  · refine Ev.or (qkK ha.Az) fun _=>Ev.or (qkK ha.Bh) fun _=>?_
    simp only [qbn]
    exact Ev.orBP fun _=>.done
  · have hf:0≤a.Av∧a.Av≤(c.Am.length:Int)-2:=by
      simp only [ji,qcK] at hb
      exact hb.2.2.2
    simp only [qf8 hf.1 (show a.Av<(c.Am.length:Int) by omega),je]
    exact Ev.iff (fun _=>Ev.andP fun _=>.done) (fun _=>Ev.iff (fun _=>Ev.andP fun _=>.done) (fun _=>.done))
theorem qtH {c:qp} {a:qC} (h:okL qlg c.Am) (ha:qmi a) (hm:2≤c.Am.length):Ev (fun n=>qjQ n c a) (arcS c.Am a):=by
  have hl:=h.len
  have e1:W64 ((c.Am.length:Int)-1)=(c.Am.length:Int)-1:=qbV (by omega)
  have e2:W64 ((c.Am.length:Int)-1-1)=(c.Am.length:Int)-2:=by rw [qao (by omega) (by omega)];omega
  simp only [qjQ,je,e1,e2,qd8,qnz]
  unfold arcS
  refine Ev.guardB ?_ (fun hb=>?_)
  · simp only [qbn]
    exact Ev.orBP fun _=>.done
  · have hf:(0≤a.Av∧a.Av≤(c.Am.length:Int)-2)∧(0≤a.To∧a.To≤(c.Am.length:Int)-1):=by
      simp only [ji,qcK] at hb
      exact hb
    simp only [qf8 hf.1.1 (show a.Av<(c.Am.length:Int) by omega),qf8 hf.2.1 (show a.To<(c.Am.length:Int) by omega),je]
    refine Ev.iff (fun _=>?_) (fun _=>Ev.iff (fun _=>?_) (fun _=>Ev.iff (fun _=>?_) (fun _=>.done)))
    · exact Ev.andP fun _=>Ev.andP fun _=>Ev.andP fun _=>Ev.and (qha ha.Az) fun _=>Ev.last (qha ha.Bh)
    · exact Ev.andP fun _=>Ev.andP fun _=>Ev.andP fun _=>Ev.and (qha ha.Az) fun _=>Ev.last (qha ha.Bh)
    · exact Ev.andP fun _=>Ev.andP fun _=>Ev.andP fun _=>Ev.andP fun _=>Ev.and (qha ha.Az) fun _=>.done
theorem qnp {ps:List qU} (h1:clkN ps ps.length≤1) {x:Int} (hx:0≤x):clkIx ps=x↔x<ps.length∧clkAt ps x=true:=by
  unfold clkIx ixL
  cases hf:ps.findIdx? (fun p=>p.Bd) with
  | some j =>
    obtain ⟨hj,hp,_⟩:=List.findIdx?_eq_some_iff_getElem.1 hf
    have hpj:(gt ps j).Bd=true:=by rw [qjF hj];exact hp
    constructor
    · intro e
      have e:(j:Int)=x:=e
      subst e
      exact ⟨by omega,by unfold clkAt;rw [jw];exact hpj⟩
    · rintro ⟨hl,hc⟩
      have:=qqM h1 hj (show x.toNat<ps.length by omega) hpj hc
      show (j:Int)=x
      omega
  | none =>
    have hn:=List.findIdx?_eq_none_iff.1 hf
    constructor
    · intro e
      have e:(-1:Int)=x:=e
      omega
    · rintro ⟨hl,hc⟩
      have hxl:x.toNat<ps.length:=by omega
      unfold clkAt at hc
      rw [qjF hxl] at hc
      have:=hn _ (jq hxl)
      rw [hc] at this
      exact absurd this (by decide)
theorem qjf {ps:List qU} (h:pinsB ps=true):(2≤ps.length∧ps.length≤5)∧clkAt ps ((ps.length:Int)-1)=false:=by
  unfold pinsB lenB at h
  simp only [ji,decide_eq_true_eq] at h
  refine ⟨h.2.1,?_⟩
  have h1:=qaF.1 h.1 (ps.length-1) (by omega)
  unfold pinB at h1
  rw [show decide (ps.length-1+1=ps.length)=true by simp;omega] at h1
  simp only [cond_true,ji,jL] at h1
  unfold clkAt
  rw [show ((ps.length:Int)-1).toNat=ps.length-1 by omega]
  exact h1.2.2
theorem qua {ps:List qU} {a:qC} (h:pinsB ps=true) (h1:clkN ps ps.length≤1):arcI ps a=arcS ps a:=by
  obtain ⟨⟨hm,hm5⟩,hlast⟩:=qjf h
  rw [jj]
  unfold arcI arcS
  cases h45:((a.Aq==4) || (a.Aq==5)) with
  | true =>
    have k1:(a.Aq==1)=false:=by simp at h45 ⊢;omega
    have k23:((a.Aq==2) || (a.Aq==3))=false:=by simp at h45 ⊢;omega
    rw [k1,k23]
    simp only [cond_true,cond_false,ji,qcK,decide_eq_true_eq,beq_iff_eq,jL,beq_eq_false_iff_ne,ne_eq]
    constructor
    · rintro ⟨hs,hsl,hd,hf,hf0,ht,hne⟩
      obtain ⟨hl,hc⟩:=(qnp h1 hf0).1 hf.symm
      have hfl:a.Av ≠ (ps.length:Int)-1:=by intro e;rw [e,hlast] at hc;cases hc
      refine ⟨⟨⟨hf0,by omega⟩,⟨ht.1,by omega⟩⟩,hc,by omega,?_,hs,hd,hsl⟩
      cases hct:clkAt ps a.To with
      | false=>rfl
      | true =>
        have:=(qnp h1 ht.1).2 ⟨by omega,hct⟩
        omega
    · rintro ⟨⟨hf,ht⟩,hc,hlt,hct,hs,hd,hsl⟩
      have:=(qnp h1 hf.1).2 ⟨by omega,hc⟩
      refine ⟨hs,hsl,hd,this.symm,hf.1,⟨ht.1,by omega⟩,?_⟩
      intro e
      rw [e,hc] at hct
      cases hct
  | false =>
    simp only [cond_false,ji,qcK,beq_iff_eq]
    cases (a.Aq==1)
    · cases ((a.Aq==2) || (a.Aq==3))
      · simp
      · simp only [cond_true,cond_false,ji,beq_iff_eq]
        constructor
        · rintro ⟨⟨h1,h2,h3,h4⟩,h5,h6⟩
          exact ⟨⟨h4,by omega⟩,h5,h3,h6,h1,h2⟩
        · rintro ⟨⟨h4,h7⟩,h5,h3,h6,h1,h2⟩
          exact ⟨⟨h1,h2,h3,h4⟩,h5,h6⟩
    · simp only [cond_true,ji,qcK,jL,beq_iff_eq]
      constructor
      · rintro ⟨⟨h1,h2,h3,h4⟩,h5,h6⟩
        exact ⟨⟨h4,by omega⟩,h5,h3,h6,h1,h2⟩
      · rintro ⟨⟨h4,h7⟩,h5,h3,h6,h1,h2⟩
        exact ⟨⟨h1,h2,h3,h4⟩,h5,h6⟩
theorem qpI {ps:List qU} {a:qC} (h:arcS ps a=true):1≤a.Aq∧a.Aq≤5:=by
  unfold arcS at h
  rw [ji] at h
  have h:=h.2
  cases h1:(a.Aq==1)
  · cases h2:((a.Aq==2) || (a.Aq==3))
    · cases h4:((a.Aq==4) || (a.Aq==5))
      · rw [h1,h2,h4] at h;cases h
      · simp at h4;omega
    · simp at h2;omega
  · simp at h1;omega
def sameArc (x y:qC):Bool:=(x.Aq==y.Aq)&&((x.Av==y.Av)&&(x.To==y.To))
def newArc (ar:List qC) (j:Nat):Bool:=allN (fun i=>!sameArc (gt ar i) (gt ar j)) j
theorem qsA {c:qp} (h:okL qlg c.Am) (ha:okL qmi c.Ap) (hm:2≤c.Am.length):Ev (fun n=>qf3 n c) (allN (fun j=>arcI c.Am (gt c.Ap j)&&newArc c.Ap j) c.Ap.length&&decide (c.Ap.length≤8)):=by
  have hl:=ha.len
  have h1:∀ (ar:List qC) (y:qC),ar.length≤1048576→Ev (fun n=>qal n ar y) (ar.any fun x=>sameArc x y):=by
    intro ar y hl
    unfold qal
    refine Ev.bind (b:=ixL (fun x=>sameArc x y) ar) (qd5 (fin:=(ar.length:Int)) (Lf:=qG ar y) (pf:=fun n x=>qeR n x y) (fun x _=>?_)
      (fun n=>by simp only [qG,qh (jf _),cond_false])
      (fun n j x hx=>by
        have hj:=(List.getElem?_eq_some_iff.1 hx).1
        simp only [qG,qf hj,cond_true,qW hx,je,wS j])
      (fun n=>by unfold qaQ;congr 1;funext o;cases o<;>rfl)) (Ev.now (by rw [qi9]))
    unfold qeR sameArc
    exact Ev.andP fun _=>Ev.andP fun _=>.done
  have hL:Ev (fun n=>qcd c n 0) (bif allN (fun j=>arcI c.Am (gt c.Ap j)&&newArc c.Ap j) c.Ap.length then .nxt (c.Ap.length:Int) else .ret false):=by
    refine qeL ?_ (fun j hj X hX=>Ev.succ ?_)
    · exact Ev.succ (by simp only [qcd,qh (jf _),cond_false];exact .done)
    · simp only [qcd,qf hj,cond_true,qS hj,je,qti (Nat.le_of_lt hj),wS j]
      refine Ev.chk (quD h (qiv ha hj) hm) fun _=>Ev.chkT1 ?_ (fun _=>hX)
      refine (h1 _ _ (by simp;omega)).cast ?_
      rw [qt1 (Nat.le_of_lt hj)];rfl
  unfold qf3
  refine Ev.bind hL ?_
  cases allN (fun j=>arcI c.Am (gt c.Ap j)&&newArc c.Ap j) c.Ap.length
  · exact .done
  · refine Ev.now ?_
    show some (decide ((c.Ap.length:Int)≤((8:Nat):Int)))=some (true&&decide (c.Ap.length≤8))
    rw [qkw,jI]
def hasB (ar:List qC) (k:Int):Bool:=ar.any fun a=>a.Aq==k
theorem qno {c:qp} {k:Int} (hl:c.Ap.length≤1048576):Ev (fun n=>qcX n c k) (hasB c.Ap k):=by
  unfold qcX qaV
  exact Ev.last (Ev.bind (b:=ixL (fun x=>x.Aq==k) c.Ap) (qd5 (fin:=(c.Ap.length:Int)) (Lf:=qP c.Ap k) (pf:=fun n x=>qix n x k) (fun x _=>.done)
      (fun n=>by simp only [qP,qh (jf _),cond_false])
      (fun n j x hx=>by
        have hj:=(List.getElem?_eq_some_iff.1 hx).1
        simp only [qP,qf hj,cond_true,qW hx,je,wS j])
      (fun n=>by unfold qbe;congr 1;funext o;cases o<;>rfl)) (Ev.now (by rw [qi9];rfl)))
def kindN (ar:List qC) (k:Nat) (j:Nat):Nat:=cntP (fun i=>(gt ar i).Aq==(k:Int)) j
theorem qpv {ar:List qC} {k:Nat}:decide (((kindN ar k ar.length:Nat):Int) > 0)=hasB ar k:=by
  rw [show decide (((kindN ar k ar.length:Nat):Int) > 0)=decide (0<kindN ar k ar.length) by simp]
  unfold kindN hasB
  rw [qq7,quL]
theorem qso {ar:List qC} {k:Nat}:(((kindN ar k ar.length:Nat):Int)==0) = !hasB ar k:=by
  rw [←qpv,jj];simp
theorem qrw {c:qp} (ha:okL qmi c.Ap) (hk:∀ j,j<c.Ap.length→1≤(gt c.Ap j).Aq∧(gt c.Ap j).Aq≤5):Ev (fun n=>qhZ n c) (vecC (fun k=>kindN c.Ap k c.Ap.length) 6):=by
  have hl:=ha.len
  have hL:Ev (fun n=>qcO c n (vecC (fun _=>0) 6) 0) (vecC (fun k=>kindN c.Ap k c.Ap.length) 6,(c.Ap.length:Int)):=by
    refine loopF (Lf:=qcO c) (S:=fun j=>vecC (fun k=>kindN c.Ap k j) 6) (len:=c.Ap.length) (fun n=>?_) (fun j hj X hX=>?_)
    · simp only [qcO,qh (jf _),cond_false]
    · obtain ⟨k1,k5⟩:=hk j hj
      have ek:(gt c.Ap j).Aq=(((gt c.Ap j).Aq.toNat:Nat):Int):=qoy (by omega)
      have hc:kindN c.Ap (gt c.Ap j).Aq.toNat j≤j:=qeC
      simp only [qcO,qf hj,cond_true,qS hj,je,wS j]
      rw [ek,qjr (show (gt c.Ap j).Aq.toNat<6 by omega)]
      simp only [je]
      rw [qpV (c:=fun k=>kindN c.Ap k j) (by show kindN c.Ap _ j<_;omega)]
      have:vecC (fun i=>kindN c.Ap i j+(bif decide ((gt c.Ap j).Aq.toNat=i) then 1 else 0)) 6=vecC (fun k=>kindN c.Ap k (j+1)) 6:=by
        refine qja (fun k _=>?_)
        show _=kindN c.Ap k j+(bif (gt c.Ap j).Aq==(k:Int) then 1 else 0)
        congr 2
        rw [jj];simp;omega
      rw [this]
      exact hX
  unfold qhZ
  rw [show mkS 6 (0:Int)=some (vecC (fun _=>0) 6) from qlJ (m:=6) (by omega)]
  simp only [je]
  exact Ev.bind hL .done
def kindB (c:qp):Bool :=
  bif c.Aq==1 then (((clkN c.Am c.Am.length:Nat):Int)==0)&&(((c.Ay.length:Int)==((2 ^ (c.Am.length-1):Nat):Int))&&(c.Ay.all fun x=>inI x 0 1))
  else bif c.Aq==2 then (((clkN c.Am c.Am.length:Nat):Int)==1)&&(((c.Ay.length:Int)==0)&&(!hasB c.Ap 1&&!(hasB c.Ap 2==hasB c.Ap 3)))
  else bif c.Aq==3 then (((clkN c.Am c.Am.length:Nat):Int)==1)&&(((c.Ay.length:Int)==0)&&(hasB c.Ap 1&&(hasB c.Ap 2&&!hasB c.Ap 3)))
  else false
theorem qp5 {c:qp} (h:kindB c=true):clkN c.Am c.Am.length≤1:=by
  unfold kindB at h
  cases h1:(c.Aq==1)
  · cases h2:(c.Aq==2)
    · cases h3:(c.Aq==3)
      · rw [h1,h2,h3] at h;cases h
      · rw [h1,h2,h3] at h
        simp only [cond_true,cond_false,ji,beq_iff_eq] at h
        omega
    · rw [h1,h2] at h
      simp only [cond_true,cond_false,ji,beq_iff_eq] at h
      omega
  · rw [h1] at h
    simp only [cond_true,ji,beq_iff_eq] at h
    omega
theorem qrD {m:Nat} (h1:2≤m) (h2:m≤5):shlS 1 (W64 ((m:Int)-1))=some ((2 ^ (m-1):Nat):Int)∧shlS 1 (IntKind.wrap .u64 (W64 ((m:Int)-1)))=some ((2 ^ (m-1):Nat):Int):=by
  have:m=2∨m=3∨m=4∨m=5:=by omega
  rcases this with rfl|rfl|rfl|rfl<;>exact ⟨by decide,by decide⟩
theorem qro {c:qp} (hc:qlK c) (hm:2≤c.Am.length) (hm5:c.Am.length≤5):Ev (fun n=>qfz n c) (kindB c):=by
  have hl:=hc.Am.len
  have hL:Ev (fun n=>qaR c n 0 0) (((clkN c.Am c.Am.length:Nat):Int),(c.Am.length:Int)):=by
    refine loopF (Lf:=qaR c) (S:=fun j=>((clkN c.Am j:Nat):Int)) (len:=c.Am.length) (fun n=>?_) (fun j hj X hX=>?_)
    · simp only [qaR,qh (jf _),cond_false]
    · have hn:clkN c.Am j≤j:=qeC
      simp only [qaR,qf hj,cond_true,qS hj,je,wS j,qd1 (show clkN c.Am j<9223372036854775807 by omega)]
      have hck:clkN c.Am (j+1)=clkN c.Am j+(bif (gt c.Am j).Bd then 1 else 0):=rfl
      rw [hck] at hX
      cases hc:(gt c.Am j).Bd
      · rw [hc] at hX;exact Ev.ff rfl hX
      · rw [hc] at hX;exact Ev.tt rfl hX
  unfold qfz kindB
  refine Ev.bind hL ?_
  simp only [qb9,qbv,je,(qrD hm hm5).1]
  have hal:=hc.Ap.len
  refine Ev.iff (fun _=>?_) (fun _=>Ev.iff (fun _=>?_) (fun _=>Ev.iff (fun _=>?_) (fun _=>.done)))
  · exact Ev.andP fun _=>Ev.andP fun _=>Ev.last (qfw hc.Ay.len)
  · exact Ev.andP fun _=>Ev.andP fun _=>Ev.bind (qno hal) (Ev.andP fun _=>Ev.bind (qno hal) (Ev.bind (qno hal) .done))
  · exact Ev.andP fun _=>Ev.andP fun _=>Ev.and (qno hal) fun _=>Ev.and (qno hal) fun _=>Ev.bind (qno hal) .done
def cellB (c:qp):Bool :=
  nameB c.Ar&&(pinsB c.Am&&((allN (fun j=>arcI c.Am (gt c.Ap j)&&newArc c.Ap j) c.Ap.length&&decide (c.Ap.length≤8))&&(inI c.Bn 0 100000&&(inI c.Bf 0 100000&&kindB c))))
theorem qs4 {c:qp} (hc:qlK c):Ev (fun n=>qjE n c) (cellB c):=by
  simp only [qjE,qpH hc.Ar,qdK,je]
  unfold cellB
  refine Ev.andP fun _=>Ev.and (qrJ hc.Am) fun hp=>?_
  obtain ⟨⟨hm,hm5⟩,_⟩:=qjf hp
  exact Ev.and (qsA hc.Am hc.Ap hm) fun _=>Ev.andP fun _=>Ev.andP fun _=>Ev.last (qro hc hm hm5)
theorem qsb {c:qp} (hc:qlK c):Ev (fun n=>qjP n c) (cellB c):=by
  have hal:=hc.Ap.len
  have htl:=hc.Ay.len
  have e:cellB c=((pinsB c.Am&&(nameB c.Ar&&(decide (c.Ap.length≤8)&&(inI c.Bn 0 100000&&inI c.Bf 0 100000))))&&(allN (fun j=>arcS c.Am (gt c.Ap j)&&newArc c.Ap j) c.Ap.length&&kindB c)):=by
    unfold cellB
    cases hk:kindB c
    · simp
    · cases hp:pinsB c.Am
      · simp
      · rw [qgW (fun j _=>by rw [qua hp (qp5 hk)])]
        cases nameB c.Ar<;>cases allN (fun j=>arcS c.Am (gt c.Ap j)&&newArc c.Ap j) c.Ap.length<;>cases decide (c.Ap.length≤8)<;>cases inI c.Bn 0 100000<;>cases inI c.Bf 0 100000<;>rfl
  rw [e]
  unfold qjP
  refine Ev.bind (qrK hc.Am) ?_
  cases hp:pinsB c.Am
  · exact .done
  · obtain ⟨⟨hm,hm5⟩,_⟩:=qjf hp
    simp only [cond_true,jI,Jg,cond_false]
    refine Ev.guardB ?_ (fun _=>?_)
    · simp only [qd8,je,qbn]
      refine Ev.orB (qme hc.Ar) fun _=>?_
      rw [show decide ((c.Ap.length:Int) > 8) = !decide (c.Ap.length≤8) by rw [jj];simp;omega,qbn]
      exact Ev.orBP fun _=>Ev.orBP fun _=>.done
    · have hL2:∀ j,j<c.Ap.length→Ev (fun n=>qc4 c (j:Int) (gt c.Ap j) n 0) (bif newArc c.Ap j then .nxt (j:Int) else .ret false):=by
        intro j hj
        refine qeL ?_ (fun i hi X hX=>Ev.succ ?_)
        · exact Ev.succ (by simp only [qc4,qh (jf _),cond_false];exact .done)
        · simp only [qc4,qf hi,cond_true,qS (show i<c.Ap.length by omega),je,wS i]
          unfold sameArc
          cases ((gt c.Ap i).Aq==(gt c.Ap j).Aq)
          · exact hX
          · cases ((gt c.Ap i).Av==(gt c.Ap j).Av)
            · exact hX
            · cases ((gt c.Ap i).To==(gt c.Ap j).To)
              · exact hX
              · exact .done
      have hL1:Ev (fun n=>qe8 c n 0) (bif allN (fun j=>arcS c.Am (gt c.Ap j)&&newArc c.Ap j) c.Ap.length then .nxt (c.Ap.length:Int) else .ret false):=by
        refine qeL ?_ (fun j hj X hX=>Ev.succ ?_)
        · exact Ev.succ (by simp only [qe8,qh (jf _),cond_false];exact .done)
        · simp only [qe8,qf hj,cond_true,qS hj,je,wS j]
          refine Ev.chk (qtH hc.Am (qiv hc.Ap hj) hm) fun _=>Ev.bind (hL2 j hj) ?_
          cases newArc c.Ap j
          · exact .done
          · exact hX
      have hL3:Ev (fun n=>qeU c n 0) (bif (c.Ay.all fun x=>inI x 0 1) then .nxt (c.Ay.length:Int) else .ret false) :=
        qlf (fun n=>by simp only [qeU,qh (jf _),cond_false]) (fun j hj X hX=>by
          simp only [qeU,qf hj,cond_true,qaU hj,je,qd8,wS j,qbn]
          exact Ev.okP1 fun _=>hX)
      refine Ev.bind hL1 ?_
      cases hA:allN (fun j=>arcS c.Am (gt c.Ap j)&&newArc c.Ap j) c.Ap.length
      · exact .done
      · have hk:∀ j,j<c.Ap.length→1≤(gt c.Ap j).Aq∧(gt c.Ap j).Aq≤5:=fun j hj=>by
          have:=qaF.1 hA j hj
          rw [ji] at this
          exact qpI this.1
        simp only [cond_true,jI]
        refine Ev.bind (qrw hc.Ap hk) ?_
        simp only [(qrD hm hm5).2,je,
          show idx (vecC (fun k=>kindN c.Ap k c.Ap.length) 6) (1:Int)=some ((kindN c.Ap 1 c.Ap.length:Nat):Int) from qjr (k:=1) (by omega),
          show idx (vecC (fun k=>kindN c.Ap k c.Ap.length) 6) (2:Int)=some ((kindN c.Ap 2 c.Ap.length:Nat):Int) from qjr (k:=2) (by omega),
          show idx (vecC (fun k=>kindN c.Ap k c.Ap.length) 6) (3:Int)=some ((kindN c.Ap 3 c.Ap.length:Nat):Int) from qjr (k:=3) (by omega),qpv,qso]
        unfold kindB
        refine Ev.iff (fun _=>?_) (fun _=>Ev.iff (fun _=>?_) (fun _=>Ev.iff (fun _=>?_) (fun _=>.done)))
        · refine Ev.bind hL3 ?_
          cases (c.Ay.all fun x=>inI x 0 1)
          · exact Ev.now (by simp)
          · exact (Ev.andP (fun _=>.done)).cast (by rw [Bool.and_true])
        · refine (Ev.andP fun _=>Ev.andP fun _=>Ev.andP fun _=>.done).cast ?_
          cases (((clkN c.Am c.Am.length:Nat):Int)==1)<;>cases ((c.Ay.length:Int)==0)<;>cases hasB c.Ap ((1:Nat):Int)<;>cases hasB c.Ap ((2:Nat):Int)<;>cases hasB c.Ap ((3:Nat):Int)<;>rfl
        · refine (Ev.andP fun _=>Ev.andP fun _=>Ev.andP fun _=>Ev.andP fun _=>.done).cast ?_
          cases (((clkN c.Am c.Am.length:Nat):Int)==1)<;>cases ((c.Ay.length:Int)==0)<;>cases hasB c.Ap ((1:Nat):Int)<;>cases hasB c.Ap ((2:Nat):Int)<;>cases hasB c.Ap ((3:Nat):Int)<;>rfl
def libB (l:qm):Bool:=l.Ah.all cellB&&(decide (l.Ah.length≤8)&&namesB (l.Ah.map qp.Ar))
theorem qqu {l:qm} (h:qgU l):Ev (fun n=>qhC n l) (libB l):=by
  have hl:=h.Ah.len
  have hL:Ev (fun n=>qcm l n ([]:List ByteArray) 0) (bif allN (fun j=>cellB (gt l.Ah j)) l.Ah.length then .nxt (l.Ah.map qp.Ar,(l.Ah.length:Int)) else .ret false):=by
    refine loopN (Lf:=qcm l) (S:=fun j=>(l.Ah.take j).map qp.Ar) (fun j=>cellB (gt l.Ah j)) (fun n=>?_) (fun j hj hp X hX=>?_)
    · simp only [qcm,qh (jf _),cond_false,jB]
    · simp only [qcm,qf hj,cond_true,qS hj,je,qkj hj hl,qfB (g:=qp.Ar) hj,wS j]
      exact Ev.chk1 (qs4 (qiv h.Ah hj)) hX
  unfold qhC libB
  rw [qhN]
  refine Ev.bind hL ?_
  cases allN (fun j=>cellB (gt l.Ah j)) l.Ah.length
  · exact .done
  · simp only [cond_true,jI,show decide ((l.Ah.length:Int)≤8)=decide (l.Ah.length≤8) from qkw (k:=8)]
    exact Ev.andP fun _=>Ev.last (qip (qlD h.Ah (fun x hx=>hx.Ar)))
end Go.Fw


namespace Go.Fw
open Go
set_option maxRecDepth 100000
theorem qsg {c:qp} (h:cellB c=true):nameB c.Ar=true:=by
 unfold cellB at h;rw [ji] at h;exact h.1
theorem qok {c:qp} (h:cellB c=true):pinsB c.Am=true:=by
 unfold cellB at h;simp only [ji] at h;exact h.2.1
theorem qpk {l:qm} (h:qgU l):Ev (fun n=>qhc n l) (libB l):=by
 have hl:=h.Ah.len
 have hL2:∀ j,j<l.Ah.length→Ev (fun n=>qdg l (j:Int) n 0) (bif allN (neB (l.Ah.map qp.Ar) j) j then .nxt (j:Int) else .ret false):=by
  intro j hj
  refine qeL ?_ (fun i hi X hX=>Ev.succ ?_)
  ·exact Ev.succ (by simp only [qdg,qh (jf _),cond_false];exact .done)
  ·simp only [qdg,qf hi,cond_true,qS (show i<l.Ah.length by omega),qS hj,je,qgB,wS i]
   unfold neB
   rw [qi6 (g:=qp.Ar) (show i<l.Ah.length by omega),qi6 (g:=qp.Ar) hj]
   exact Ev.chkP1 (fun _=>hX)
 have hL1:Ev (fun n=>qda l n 0) (bif allN (fun j=>cellB (gt l.Ah j)&&allN (neB (l.Ah.map qp.Ar) j) j) l.Ah.length then .nxt (l.Ah.length:Int) else .ret false):=by
  refine qeL ?_ (fun j hj X hX=>Ev.succ ?_)
  ·exact Ev.succ (by simp only [qda,qh (jf _),cond_false];exact .done)
  ·simp only [qda,qf hj,cond_true,qS hj,je,wS j]
   refine Ev.chk (qsb (qiv h.Ah hj)) fun _=>Ev.bind (hL2 j hj) ?_
   cases allN (neB (l.Ah.map qp.Ar) j) j
   ·exact .done
   ·exact hX
 have e:libB l=(allN (fun j=>cellB (gt l.Ah j)&&allN (neB (l.Ah.map qp.Ar) j) j) l.Ah.length&&decide (l.Ah.length≤8)):=by
  unfold libB namesB
  rw [qhN,jQ,Bool.and_comm (decide (l.Ah.length≤8)),←Bool.and_assoc,←qj5]
  congr 1
  refine qgW (fun j hj=>?_)
  rw [qi6 (g:=qp.Ar) hj]
  cases hc:cellB (gt l.Ah j)
  ·rfl
  ·rw [qsg hc];rfl
 rw [e]
 unfold qhc
 refine Ev.bind hL1 ?_
 cases allN (fun j=>cellB (gt l.Ah j)&&allN (neB (l.Ah.map qp.Ar) j) j) l.Ah.length
 ·exact .done
 ·refine Ev.now ?_
  show some (decide ((l.Ah.length:Int)≤((8:Nat):Int)))=some (true&&decide (l.Ah.length≤8))
  rw [qkw,jI]
theorem qka {c c':Nat→Nat} {m:Nat} {x:Int} (h0:0≤x) (h1:x<m) (hc:c x.toNat<9223372036854775807) (he:∀ k,k<m→c' k=c k+(bif x==(k:Int) then 1 else 0)) :
  idx (vecC c m) x=some (c x.toNat:Int)∧setS (vecC c m) x (W64 ((c x.toNat:Int)+1))=vecC c' m:=by
 have ex:x=(x.toNat:Int):=qoy h0
 have e1:=qjr (c:=c) (m:=m) (k:=x.toNat) (by omega)
 have e2:=qpV (c:=c) (m:=m) (k:=x.toNat) hc
 rw [←ex] at e1 e2
 refine ⟨e1,e2.trans (qja (fun k hk=>?_))⟩
 rw [he k hk]
 congr 2
 rw [jj];simp;omega
def netB (d:qe) (x:Int):Bool:=inI x 0 ((d.Af.length:Int)-1)
theorem qrn {n:Nat} {d:qe} {x:Int} (hl:d.Af.length≤1048576):qdd n d x=some (netB d x):=by
 simp only [qdd,qgT,je,qdK,qbV (show d.Af.length≤9223372036854775807 by omega)];rfl
theorem qpT {n:Nat} {d:qe} {x:Int} (hl:d.Af.length≤1048576):qaj n x 0 (W64 ((d.Af.length:Int)-1))=some (netB d x):=by
 rw [qd8,qbV (show d.Af.length≤9223372036854775807 by omega)];rfl
def hasNamesB (d:qe):Bool:=(decide (d.Aa.length≤14)&&(decide (d.Af.length≤30)&&decide (d.Ac.length≤8)))&&(namesB (d.Aa.map qg.Ar)&&(namesB d.Af&&namesB (d.Ac.map qF.Ar)))
theorem qqO {d:qe} (h:qi5 d):Ev (fun n=>qex n d) (hasNamesB d):=by
 have hli:=h.Aa.len
 have hlp:=h.Ac.len
 have hL1:Ev (fun n=>qaW d n ([]:List ByteArray) 0) (d.Aa.map qg.Ar,(d.Aa.length:Int)):=by
  refine loopF (Lf:=qaW d) (S:=fun j=>(d.Aa.take j).map qg.Ar) (len:=d.Aa.length) (fun n=>?_) (fun j hj X hX=>?_)
  ·simp only [qaW,qh (jf _),cond_false,jB]
  ·simpa only [qaW,qf hj,cond_true,qS hj,je,qkj hj hli,qfB (g:=qg.Ar) hj,wS j] using hX
 have hL2:Ev (fun n=>qaY d n ([]:List ByteArray) 0) (d.Ac.map qF.Ar,(d.Ac.length:Int)):=by
  refine loopF (Lf:=qaY d) (S:=fun j=>(d.Ac.take j).map qF.Ar) (len:=d.Ac.length) (fun n=>?_) (fun j hj X hX=>?_)
  ·simp only [qaY,qh (jf _),cond_false,jB]
  ·simpa only [qaY,qf hj,cond_true,qS hj,je,qkj hj hlp,qfB (g:=qF.Ar) hj,wS j] using hX
 unfold qex hasNamesB
 refine Ev.bind hL1 (Ev.bind hL2 ?_)
 simp only [jQ]
 rw [show decide ((d.Aa.length:Int)≤14)=decide (d.Aa.length≤14) from qkw (k:=14),show decide ((d.Af.length:Int)≤30)=decide (d.Af.length≤30) from qkw (k:=30),show decide ((d.Ac.length:Int)≤8)=decide (d.Ac.length≤8) from qkw (k:=8)]
 rw [Bool.and_assoc,Bool.and_assoc]
 exact Ev.andP fun _=>Ev.andP fun _=>Ev.andP fun _=>Ev.and (qip (qlD h.Aa (fun x hx=>hx.Ar))) fun _=>Ev.and (qip h.Af) fun _=>Ev.last (qip (qlD h.Ac (fun x hx=>hx.Ar)))
def instB (l:qm) (d:qe) (x:qg):Bool:=inI x.Ba 0 ((l.Ah.length:Int)-1)&&(((x.Af.length:Int)==((gt l.Ah x.Ba.toNat).Am.length:Int))&&x.Af.all (netB d))
theorem qpa {d:qe} {l:qm} {x:qg} (hn:d.Af.length≤1048576) (hc:l.Ah.length≤1048576) (hx:x.Af.length≤1048576):Ev (fun n=>qdx n d l x) (instB l d x):=by
 simp only [qdx,qfT,je,qdK,qbV (show l.Ah.length≤9223372036854775807 by omega)]
 unfold instB
 refine Ev.andP fun hI=>?_
 rw [qcK] at hI
 rw [qf8 hI.1 (by omega)]
 simp only [je]
 refine Ev.andP fun _=>Ev.bind (b:=x.Af.any fun y=>!netB d y) ?_ (Ev.now (by rw [qmP]))
 unfold qaC
 exact Ev.bind (b:=ixL (fun y=>!netB d y) x.Af) (qd5 (fin:=(x.Af.length:Int)) (Lf:=qA x.Af d) (pf:=fun n y=>qcZ n y d) (fun y _=>⟨0,fun n _=>by simp only [qcZ,qrn hn,je]⟩)
   (fun n=>by simp only [qA,qh (jf _),cond_false])
   (fun n j y hx=>by
    have hj:=(List.getElem?_eq_some_iff.1 hx).1
    simp only [qA,qf hj,cond_true,qW hx,je,wS j])
   (fun n=>by unfold qaK;congr 1;funext o;cases o<;>rfl)) (Ev.now (by rw [qi9]))
def portB (d:qe) (p:qF):Bool:=inI p.Bl 1 2&&netB d p.Bo
theorem qwp {x:Int}:inI x 1 2=((x==1) || (x==2)):=by
 unfold inI;rw [jj];simp;omega
def lastN (x:qg):Int:=at0 x.Af (x.Af.length-1)
theorem qrr {x:qg} (h1:1≤x.Af.length) (h2:x.Af.length≤1048576):idx x.Af (W64 ((x.Af.length:Int)-1))=some (lastN x):=by
 rw [qbV (by omega),show ((x.Af.length:Int)-1)=((x.Af.length-1:Nat):Int) by omega,qbu (by omega)];rfl
theorem qtn {d:qe} {x:qg} (h1:1≤x.Af.length) (h:x.Af.all (netB d)=true):0≤lastN x∧lastN x<d.Af.length:=by
 rw [qhb (d:=0),qaF] at h
 have:=h (x.Af.length-1) (by omega)
 unfold netB at this
 rw [qcK] at this
 unfold lastN at0
 omega
theorem qo3 {l:qm} {d:qe} {x:qg} (hl:libB l=true) (h:instB l d x=true):1≤x.Af.length∧0≤lastN x∧lastN x<d.Af.length:=by
 unfold instB at h
 simp only [ji,qcK,beq_iff_eq] at h
 obtain ⟨h1,h2,h3⟩:=h
 unfold libB at hl
 simp only [ji] at hl
 have hc:=hl.1
 rw [qhN,qaF] at hc
 have:=qjf (qok (hc x.Ba.toNat (by omega)))
 have h4:1≤x.Af.length:=by omega
 exact ⟨h4,qtn h4 h3⟩
def drvI (d:qe) (k j:Nat):Nat:=cntP (fun i=>lastN (gt d.Aa i)==(k:Int)) j
def drvP (d:qe) (k j:Nat):Nat:=cntP (fun i=>((gt d.Ac i).Bl==1)&&((gt d.Ac i).Bo==(k:Int))) j
def drvB (d:qe):Bool:=allN (fun k=>((drvI d k d.Aa.length+drvP d k d.Ac.length:Nat):Int)==1) d.Af.length
def designB (l:qm) (d:qe):Bool:=(libB l&&hasNamesB d)&&(d.Aa.all (instB l d)&&(d.Ac.all (portB d)&&drvB d))
theorem qnr {d:qe} {k j:Nat}:drvI d k (j+1)=drvI d k j+(bif lastN (gt d.Aa j)==(k:Int) then 1 else 0):=rfl
theorem qlE {d:qe} {k j:Nat}:drvP d k (j+1)=drvP d k j+(bif ((gt d.Ac j).Bl==1)&&((gt d.Ac j).Bo==(k:Int)) then 1 else 0):=rfl
theorem qqL {l:qm} {d:qe} (h:qgU l) (hd:qi5 d):Ev (fun n=>qh7 n l d) (designB l d):=by
 have hli:=hd.Aa.len
 have hlp:=hd.Ac.len
 have hln:=hd.Af.len
 have hlc:=h.Ah.len
 unfold qh7 designB
 refine Ev.guardB (Ev.or (qqu h) fun _=>Ev.neg (qqO hd)) fun hb=>?_
 rw [ji] at hb
 rw [qlJ (m:=d.Af.length) (by omega)]
 simp only [je]
 have hL1:Ev (fun n=>qcN l d n (vecC (fun _=>0) d.Af.length) 0) (bif allN (fun j=>instB l d (gt d.Aa j)) d.Aa.length then .nxt (vecC (fun k=>drvI d k d.Aa.length) d.Af.length,(d.Aa.length:Int)) else .ret false):=by
  refine loopN (Lf:=qcN l d) (S:=fun j=>vecC (fun k=>drvI d k j) d.Af.length) (fun j=>instB l d (gt d.Aa j)) (fun n=>?_) (fun j hj hp X hX=>?_)
  ·simp only [qcN,qh (jf _),cond_false]
  ·simp only [qcN,qf hj,cond_true,qS hj,je,wS j]
   have hxl:=(qiv hd.Aa hj).Af.len
   refine Ev.chk1 (qpa hln hlc hxl) fun hi=>?_
   obtain ⟨h1,h2,h3⟩:=qo3 hb.1 hi
   have hc:drvI d (lastN (gt d.Aa j)).toNat j≤j:=qeC
   obtain ⟨e1,e2⟩:=qka (c:=fun k=>drvI d k j) (c':=fun k=>drvI d k (j+1)) h2 h3 (by show drvI _ _ _<_;omega) (fun k _=>qnr)
   simp only [qrr h1 hxl,je,e1,e2]
   exact hX hi
 have hL2:Ev (fun n=>qcc d n (vecC (fun k=>drvI d k d.Aa.length) d.Af.length) 0) (bif allN (fun j=>portB d (gt d.Ac j)) d.Ac.length then .nxt (vecC (fun k=>drvI d k d.Aa.length+drvP d k d.Ac.length) d.Af.length,(d.Ac.length:Int)) else .ret false):=by
  refine loopN (Lf:=qcc d) (S:=fun j=>vecC (fun k=>drvI d k d.Aa.length+drvP d k j) d.Af.length) (fun j=>portB d (gt d.Ac j)) (fun n=>?_) (fun j hj hp X hX=>?_)
  ·simp only [qcc,qh (jf _),cond_false]
  ·simp only [qcc,qf hj,cond_true,qS hj,je,qrn hln,bne,wS j]
   refine Ev.chkT1 ?_ fun hi=>?_
   ·unfold portB
    rw [qwp]
    cases ((gt d.Ac j).Bl==1)<;>cases ((gt d.Ac j).Bl==2)<;>exact .done
   ·have hX:=hX hi
    unfold portB netB at hi
    simp only [ji,qcK] at hi
    have hc1:drvI d (gt d.Ac j).Bo.toNat d.Aa.length≤d.Aa.length:=qeC
    have hc2:drvP d (gt d.Ac j).Bo.toNat j≤j:=qeC
    cases h1:((gt d.Ac j).Bl==1)
    ·have:vecC (fun k=>drvI d k d.Aa.length+drvP d k (j+1)) d.Af.length=vecC (fun k=>drvI d k d.Aa.length+drvP d k j) d.Af.length:=by
      refine qja (fun k _=>?_)
      rw [qlE,h1];rfl
     rw [this] at hX
     exact hX
    ·obtain ⟨e1,e2⟩:=qka (c:=fun k=>drvI d k d.Aa.length+drvP d k j) (c':=fun k=>drvI d k d.Aa.length+drvP d k (j+1)) (x:=(gt d.Ac j).Bo) (m:=d.Af.length) hi.2.1 (by omega) (by show drvI _ _ _+drvP _ _ _<_;omega) (fun k _=>by rw [qlE,h1,jI];omega)
     simp only [cond_true,je,e1,e2]
     exact hX
 rw [qhN,qhN]
 refine Ev.bind hL1 ?_
 cases allN (fun j=>instB l d (gt d.Aa j)) d.Aa.length
 ·exact .done
 ·refine Ev.bind hL2 ?_
  cases allN (fun j=>portB d (gt d.Ac j)) d.Ac.length
  ·exact .done
  ·simp only [cond_true,jI]
   unfold qbp
   refine Ev.bind (b:=(vecC (fun k=>drvI d k d.Aa.length+drvP d k d.Ac.length) d.Af.length).any fun x=>!(x==1)) (Ev.bind (b:=ixL (fun x=>!(x==1)) (vecC (fun k=>drvI d k d.Aa.length+drvP d k d.Ac.length) d.Af.length)) (qd5 (fin:=(((vecC (fun k=>drvI d k d.Aa.length+drvP d k d.Ac.length) d.Af.length).length:Nat):Int)) (Lf:=qY (vecC (fun k=>drvI d k d.Aa.length+drvP d k d.Ac.length) d.Af.length)) (pf:=fun n y=>qiy n y) (fun y _=>.done)
    (fun n=>by simp only [qY,qh (jf _),cond_false])
    (fun n j y hx=>by
     have hj:=(List.getElem?_eq_some_iff.1 hx).1
     have:j<d.Af.length:=by rw [qlo] at hj;exact hj
     simp only [qY,qf hj,cond_true,qW hx,je,wS j])
    (fun n=>by unfold qbL;congr 1;funext o;cases o<;>rfl)) (Ev.now (by rw [qi9]))) (Ev.now ?_)
   rw [qmP,qhb (d:=0),qlo]
   unfold drvB
   congr 1
   exact qgW (fun k hk=>by
    have:=qqT (c:=fun k=>drvI d k d.Aa.length+drvP d k d.Ac.length) hk
    unfold at0 at this
    rw [this])
theorem qrh {l:qm} {d:qe} (h:qgU l) (hd:qi5 d):Ev (fun n=>qh4 n l d) (d.Aa.all (instB l d)&&d.Ac.all (portB d)):=by
 have hli:=hd.Aa.len
 have hlp:=hd.Ac.len
 have hln:=hd.Af.len
 have hlc:=h.Ah.len
 have hL2:∀ x:qg,x.Af.length≤1048576→Ev (fun n=>qdX d x n 0) (bif x.Af.all (netB d) then .nxt (x.Af.length:Int) else .ret false):=fun x hx =>
  qlf (fun n=>by simp only [qdX,qh (jf _),cond_false]) (fun j hj X hX=>by
   simp only [qdX,qf hj,cond_true,qaU hj,je,qpT hln,wS j,qbn]
   exact Ev.okP1 fun _=>hX)
 have hL1:Ev (fun n=>qdH l d n 0) (bif allN (fun j=>instB l d (gt d.Aa j)) d.Aa.length then .nxt (d.Aa.length:Int) else .ret false):=by
  refine qeL ?_ (fun j hj X hX=>Ev.succ ?_)
  ·exact Ev.succ (by simp only [qdH,qh (jf _),cond_false];exact .done)
  ·simp only [qdH,qf hj,cond_true,qS hj,je,qd8,qbV (show l.Ah.length≤9223372036854775807 by omega),wS j,bne]
   have hxl:=(qiv hd.Aa hj).Af.len
   unfold instB
   rw [←Bool.and_assoc]
   refine Ev.chkT ?_ fun _=>Ev.bind (hL2 _ hxl) ?_
   ·simp only [qbn]
    refine Ev.orBP fun hI=>?_
    rw [qcK] at hI
    rw [qf8 hI.1 (by omega)]
    exact .done
   ·cases (gt d.Aa j).Af.all (netB d)
    ·exact .done
    ·exact hX
 have hL3:Ev (fun n=>qdQ d n 0) (bif allN (fun j=>portB d (gt d.Ac j)) d.Ac.length then .nxt (d.Ac.length:Int) else .ret false):=by
  refine qeL ?_ (fun j hj X hX=>Ev.succ ?_)
  ·exact Ev.succ (by simp only [qdQ,qh (jf _),cond_false];exact .done)
  ·simp only [qdQ,qf hj,cond_true,qS hj,je,qpT hln,wS j]
   simp only [qd8,je,qbn]
   unfold portB
   exact Ev.okP fun _=>Ev.okP1 fun _=>hX
 unfold qh4
 rw [qhN,qhN]
 refine Ev.bind hL1 ?_
 cases allN (fun j=>instB l d (gt d.Aa j)) d.Aa.length
 ·exact .done
 ·refine Ev.bind hL3 ?_
  cases allN (fun j=>portB d (gt d.Ac j)) d.Ac.length<;>exact .done
theorem qmJ {l:qm} {d:qe} (h:qgU l) (hd:qi5 d):Ev (fun n=>qgF n l d) (designB l d):=by
 have hli:=hd.Aa.len
 have hlp:=hd.Ac.len
 have hln:=hd.Af.len
 have hlc:=h.Ah.len
 have e:designB l d=((libB l&&(decide (d.Aa.length≤14)&&(decide (d.Af.length≤30)&&(decide (d.Ac.length≤8)&&(d.Aa.all (instB l d)&&d.Ac.all (portB d))))))&&((namesB (d.Aa.map qg.Ar)&&(namesB (d.Ac.map qF.Ar)&&namesB d.Af))&&drvB d)):=by
  unfold designB hasNamesB
  generalize libB l=a1
  generalize decide (d.Aa.length≤14)=a2
  generalize decide (d.Af.length≤30)=a3
  generalize decide (d.Ac.length≤8)=a4
  generalize d.Aa.all (instB l d)=a5
  generalize d.Ac.all (portB d)=a6
  generalize namesB (d.Aa.map qg.Ar)=a7
  generalize namesB (d.Ac.map qF.Ar)=a8
  generalize namesB d.Af=a9
  generalize drvB d=a10
  rw [jj]
  simp only [ji]
  constructor
  ·rintro ⟨⟨h1,⟨h2,h3,h4⟩,h7,h9,h8⟩,h5,h6,h10⟩
   exact ⟨⟨h1,h2,h3,h4,h5,h6⟩,⟨h7,h8,h9⟩,h10⟩
  ·rintro ⟨⟨h1,h2,h3,h4,h5,h6⟩,⟨h7,h8,h9⟩,h10⟩
   exact ⟨⟨h1,⟨h2,h3,h4⟩,h7,h9,h8⟩,h5,h6,h10⟩
 rw [e]
 unfold qgF
 refine Ev.guardB ?_ fun hb=>?_
 ·refine Ev.or (qpk h) fun _=>?_
  rw [show decide ((d.Aa.length:Int) > 14) = !decide (d.Aa.length≤14) by rw [jj];simp;omega,show decide ((d.Af.length:Int) > 30) = !decide (d.Af.length≤30) by rw [jj];simp;omega,show decide ((d.Ac.length:Int) > 8) = !decide (d.Ac.length≤8) by rw [jj];simp;omega]
  simp only [qbn]
  exact Ev.orBP fun _=>Ev.orBP fun _=>Ev.orBP fun _=>Ev.neg (qrh h hd)
 ·simp only [ji] at hb
  obtain ⟨hlib,_,_,_,hI,hP⟩:=hb
  rw [qhN,qaF] at hI hP
  have hL1:Ev (fun n=>qcQ d n ([]:List ByteArray) 0) (d.Aa.map qg.Ar,(d.Aa.length:Int)):=by
   refine loopF (Lf:=qcQ d) (S:=fun j=>(d.Aa.take j).map qg.Ar) (len:=d.Aa.length) (fun n=>?_) (fun j hj X hX=>?_)
   ·simp only [qcQ,qh (jf _),cond_false,jB]
   ·simpa only [qcQ,qf hj,cond_true,qS hj,je,qkj hj hli,qfB (g:=qg.Ar) hj,wS j] using hX
  have hL2:Ev (fun n=>qcU d n ([]:List ByteArray) 0) (d.Ac.map qF.Ar,(d.Ac.length:Int)):=by
   refine loopF (Lf:=qcU d) (S:=fun j=>(d.Ac.take j).map qF.Ar) (len:=d.Ac.length) (fun n=>?_) (fun j hj X hX=>?_)
   ·simp only [qcU,qh (jf _),cond_false,jB]
   ·simpa only [qcU,qf hj,cond_true,qS hj,je,qkj hj hlp,qfB (g:=qF.Ar) hj,wS j] using hX
  have hL3:Ev (fun n=>qcP d n (vecC (fun _=>0) d.Af.length) 0) (vecC (fun k=>drvI d k d.Aa.length) d.Af.length,(d.Aa.length:Int)):=by
   refine loopF (Lf:=qcP d) (S:=fun j=>vecC (fun k=>drvI d k j) d.Af.length) (len:=d.Aa.length) (fun n=>?_) (fun j hj X hX=>?_)
   ·simp only [qcP,qh (jf _),cond_false]
   ·have hxl:=(qiv hd.Aa hj).Af.len
    obtain ⟨h1,h2,h3⟩:=qo3 hlib (hI j hj)
    have hc:drvI d (lastN (gt d.Aa j)).toNat j≤j:=qeC
    obtain ⟨e1,e2⟩:=qka (c:=fun k=>drvI d k j) (c':=fun k=>drvI d k (j+1)) h2 h3 (by show drvI _ _ _<_;omega) (fun k _=>qnr)
    simpa only [qcP,qf hj,cond_true,qS hj,je,wS j,qrr h1 hxl,e1,e2] using hX
  have hL4:Ev (fun n=>qb5 d n (vecC (fun k=>drvI d k d.Aa.length) d.Af.length) 0) (vecC (fun k=>drvI d k d.Aa.length+drvP d k d.Ac.length) d.Af.length,(d.Ac.length:Int)):=by
   refine loopF (Lf:=qb5 d) (S:=fun j=>vecC (fun k=>drvI d k d.Aa.length+drvP d k j) d.Af.length) (len:=d.Ac.length) (fun n=>?_) (fun j hj X hX=>?_)
   ·simp only [qb5,qh (jf _),cond_false]
   ·have hi:=hP j hj
    unfold portB netB at hi
    simp only [ji,qcK] at hi
    have hc1:drvI d (gt d.Ac j).Bo.toNat d.Aa.length≤d.Aa.length:=qeC
    have hc2:drvP d (gt d.Ac j).Bo.toNat j≤j:=qeC
    simp only [qb5,qf hj,cond_true,qS hj,je,wS j]
    cases h1:((gt d.Ac j).Bl==1)
    ·have:vecC (fun k=>drvI d k d.Aa.length+drvP d k (j+1)) d.Af.length=vecC (fun k=>drvI d k d.Aa.length+drvP d k j) d.Af.length:=by
      refine qja (fun k _=>?_)
      rw [qlE,h1];rfl
     rw [this] at hX
     exact hX
    ·obtain ⟨e1,e2⟩:=qka (c:=fun k=>drvI d k d.Aa.length+drvP d k j) (c':=fun k=>drvI d k d.Aa.length+drvP d k (j+1)) (x:=(gt d.Ac j).Bo) (m:=d.Af.length) hi.2.1 (by omega) (by show drvI _ _ _+drvP _ _ _<_;omega) (fun k _=>by rw [qlE,h1,jI];omega)
     simp only [cond_true,je,e1,e2]
     exact hX
  have hL5:Ev (fun n=>qdI (vecC (fun _=>0) d.Af.length) (vecC (fun k=>drvI d k d.Aa.length+drvP d k d.Ac.length) d.Af.length) n 0) (bif drvB d then .nxt (d.Af.length:Int) else .ret false):=by
   refine qeL ?_ (fun j hj X hX=>Ev.succ ?_)
   ·exact Ev.succ (by simp only [qdI,qlo,qh (jf _),cond_false];exact .done)
   ·simp only [qdI,qlo,qf hj,cond_true,qjr hj,je,bne,qbn,wS j]
    exact Ev.okP1 fun _=>hX
  refine Ev.bind hL1 (Ev.bind hL2 ?_)
  refine Ev.guardB (Ev.or (qlm (qlD hd.Aa (fun x hx=>hx.Ar))) fun _=>Ev.or (qlm (qlD hd.Ac (fun x hx=>hx.Ar))) fun _=>Ev.neg (qlm hd.Af)) fun _=>?_
  rw [qlJ (m:=d.Af.length) (by omega)]
  simp only [je]
  refine Ev.bind hL3 (Ev.bind hL4 (Ev.bind hL5 ?_))
  cases drvB d<;>exact .done
end Go.Fw


namespace Go.Fw
open Go
set_option maxRecDepth 100000
theorem qvv {m k:Nat}:decide ((m:Int)<(k:Int)) = !decide (k≤m):=by rw [jj];simp
theorem qlL {m k:Nat}:decide ((m:Int) > (k:Int)) = !decide (m≤k):=by rw [jj];simp
def treeB (w:qy) (j:Nat):Bool:=bif decide (j=0) then (at0 w.Ak j==-1)&&(at0 w.Bm j==0) else inI (at0 w.Ak j) 0 ((j:Int)-1)
def wireB (w:qy) (s:Int):Bool :=
 lenB w.Ak 1 8&&(((w.Bm.length:Int)==(w.Ak.length:Int))&&(((w.Bj.length:Int)==(w.Ak.length:Int))&&(allN (treeB w) w.Ak.length &&
  ((w.Bm.all fun x=>inI x 0 1000)&&((w.Bj.all fun x=>inI x 0 500)&&(((w.Be.length:Int)==s)&&(w.Be.all fun x=>inI x 0 ((w.Ak.length:Int)-1))))))))
theorem qtb {w:qy} (hl:w.Ak.length≤1048576) (hr:((w.Bm.length:Int)==(w.Ak.length:Int))=true):Ev (fun n=>qgq n w) (allN (treeB w) w.Ak.length):=by
 rw [beq_iff_eq] at hr
 have hL:Ev (fun n=>qaT w n 0) (bif allN (treeB w) w.Ak.length then .nxt (w.Ak.length:Int) else .ret false):=by
  refine qeL ?_ (fun j hj X hX=>Ev.succ ?_)
  ·exact Ev.succ (by simp only [qaT,qh (jf _),cond_false];exact .done)
  ·simp only [qaT,qf hj,cond_true,qbu hj,je,qdK,wS j,bne,qbn]
   unfold treeB
   by_cases h0:j=0
   ·subst h0
    rw [show idx w.Bm (0:Int)=some (at0 w.Bm 0) from qbu (j:=0) (by omega)]
    simp only [je]
    refine Ev.tt (by simp) (Ev.okP fun _=>Ev.okP1 fun _=>Ev.ff (by simp) hX)
   ·have e1:decide (j=0)=false:=by simp;omega
    have e2:((j:Int)==0)=false:=by simp;omega
    have e3:decide ((j:Int) > 0)=true:=by simp;omega
    rw [e1,e2,e3,qbV (show j≤9223372036854775807 by omega)]
    simp only [cond_false,cond_true]
    exact Ev.okP1 fun _=>hX
 unfold qgq
 refine Ev.bind hL ?_
 cases allN (treeB w) w.Ak.length<;>exact .done
theorem qs5 {w:qy} {s:Int} (h:qm3 w):Ev (fun n=>qjN n w s) (wireB w s):=by
 have hl:=h.Ak.len
 simp only [qjN,qaB,je,qdK,qbV (show w.Ak.length≤9223372036854775807 by omega)]
 unfold wireB
 rw [show inI (w.Ak.length:Int) 1 8=lenB w.Ak 1 8 from qqh (lo:=1) (hi:=8)]
 exact Ev.andP fun _=>Ev.andP fun hr=>Ev.andP fun _=>Ev.and (qtb hl hr) fun _=>Ev.and (qfw h.Bm.len) fun _=>Ev.and (qfw h.Bj.len) fun _=>Ev.andP fun _=>Ev.last (qfw h.Be.len)
theorem qsf {w:qy} {s:Int} (h:qm3 w):Ev (fun n=>qjM n w s) (wireB w s):=by
 have hl:=h.Ak.len
 have hsl:=h.Be.len
 have e:wireB w s=((decide (1≤w.Ak.length)&&(decide (w.Ak.length≤8)&&(((w.Bm.length:Int)==(w.Ak.length:Int))&&(((w.Bj.length:Int)==(w.Ak.length:Int))&&((w.Be.length:Int)==s)))))&&(allN (fun j=>(inI (at0 w.Bj j) 0 500&&inI (at0 w.Bm j) 0 1000)&&treeB w j) w.Ak.length&&(w.Be.all fun x=>inI x 0 ((w.Ak.length:Int)-1)))):=by
  unfold wireB lenB
  cases h1:((w.Bm.length:Int)==(w.Ak.length:Int))
  ·simp
  ·cases h2:((w.Bj.length:Int)==(w.Ak.length:Int))
   ·simp
   ·rw [beq_iff_eq] at h1 h2
    rw [qj5,qj5]
    rw [qhb (p:=fun x=>inI x 0 1000) (d:=0),qhb (p:=fun x=>inI x 0 500) (d:=0),show w.Bm.length=w.Ak.length by omega,show w.Bj.length=w.Ak.length by omega]
    show _=(_&&((allN (fun j=>inI (w.Bj.getD j 0) 0 500) _&&allN (fun j=>inI (w.Bm.getD j 0) 0 1000) _&&_)&&_))
    generalize allN (fun j=>inI (w.Bj.getD j 0) 0 500) w.Ak.length=a1
    generalize allN (fun j=>inI (w.Bm.getD j 0) 0 1000) w.Ak.length=a2
    generalize allN (fun j=>treeB w j) w.Ak.length=a3
    generalize ((w.Be.length:Int)==s)=a4
    generalize decide (1≤w.Ak.length)=a5
    generalize decide (w.Ak.length≤8)=a6
    generalize (w.Be.all fun x=>inI x 0 ((w.Ak.length:Int)-1))=a7
    cases a1<;>cases a2<;>cases a3<;>cases a4<;>cases a5<;>cases a6<;>rfl
 rw [e]
 unfold qjM
 refine Ev.guardB ?_ fun hb=>?_
 ·rw [show decide ((w.Ak.length:Int)<1) = !decide (1≤w.Ak.length) from qvv (k:=1),show decide ((w.Ak.length:Int) > 8) = !decide (w.Ak.length≤8) from qlL (k:=8)]
  simp only [bne,qbn]
  exact Ev.orBP fun _=>Ev.orBP fun _=>Ev.orBP fun _=>Ev.orBP fun _=>.done
 ·simp only [ji,beq_iff_eq] at hb
  have hL1:Ev (fun n=>qcl w n 0) (bif allN (fun j=>(inI (at0 w.Bj j) 0 500&&inI (at0 w.Bm j) 0 1000)&&treeB w j) w.Ak.length then .nxt (w.Ak.length:Int) else .ret false):=by
   refine qeL ?_ (fun j hj X hX=>Ev.succ ?_)
   ·exact Ev.succ (by simp only [qcl,qh (jf _),cond_false];exact .done)
   ·simp only [qcl,qf hj,cond_true,qbu hj,qbu (show j<w.Bj.length by omega),qbu (show j<w.Bm.length by omega),je,qd8,wS j,bne,qbn]
    refine Ev.chkT (Ev.orBP fun _=>.done) fun _=>?_
    unfold treeB
    by_cases h0:j=0
    ·subst h0
     refine Ev.tt (by simp) (Ev.okP fun _=>Ev.okP1 fun _=>Ev.ff (by simp) hX)
    ·have e1:decide (j=0)=false:=by simp;omega
     have e2:((j:Int)==0)=false:=by simp;omega
     have e3:decide ((j:Int) > 0)=true:=by simp;omega
     rw [e1,e2,e3,qbV (show j≤9223372036854775807 by omega)]
     simp only [cond_false,cond_true]
     exact Ev.okP1 fun _=>hX
  have hL2:Ev (fun n=>qfh w n 0) (bif (w.Be.all fun x=>inI x 0 ((w.Ak.length:Int)-1)) then .nxt (w.Be.length:Int) else .ret false) :=
   qlf (fun n=>by simp only [qfh,qh (jf _),cond_false]) (fun j hj X hX=>by
    simp only [qfh,qf hj,cond_true,qaU hj,je,qd8,qbV (show w.Ak.length≤9223372036854775807 by omega),wS j,qbn]
    exact Ev.okP1 fun _=>hX)
  refine Ev.bind hL1 ?_
  cases allN (fun j=>(inI (at0 w.Bj j) 0 500&&inI (at0 w.Bm j) 0 1000)&&treeB w j) w.Ak.length
  ·exact .done
  ·refine Ev.bind hL2 ?_
   cases (w.Be.all fun x=>inI x 0 ((w.Ak.length:Int)-1))<;>exact .done
instance:Inhabited Tplace:=⟨⟨0,0,0,false⟩⟩
instance:Inhabited Tl05Place:=⟨⟨0,0,0,false⟩⟩
def toSp (p:Tplace):Tl05Place:=⟨p.instance_,p.pin,p.net,p.drives⟩
def plX (i:Nat) (x:qg) (j:Nat):List Tplace:=(List.range j).map fun (k:Nat)=>⟨(i:Int),(k:Int),at0 x.Af k,decide (k+1=x.Af.length)⟩
def plI (d:qe) (j:Nat):List Tplace:=(List.range j).flatMap fun (i:Nat)=>plX i (gt d.Aa i) (gt d.Aa i).Af.length
def plP (d:qe) (j:Nat):List Tplace:=(List.range j).map fun (i:Nat)=>⟨-1,(i:Int),(gt d.Ac i).Bo,(gt d.Ac i).Bl==1⟩
def places (d:qe):List Tplace:=plI d d.Aa.length++plP d d.Ac.length
theorem qq4 {i:Nat} {x:qg} {j:Nat}:plX i x (j+1)=plX i x j++[⟨(i:Int),(j:Int),at0 x.Af j,decide (j+1=x.Af.length)⟩]:=by
 unfold plX;rw [jR,jJ];rfl
theorem qlp {d:qe} {j:Nat}:plI d (j+1)=plI d j++plX j (gt d.Aa j) (gt d.Aa j).Af.length:=by
 unfold plI;rw [jR,List.flatMap_append];simp
theorem qq3 {d:qe} {j:Nat}:plP d (j+1)=plP d j++[⟨-1,(j:Int),(gt d.Ac j).Bo,(gt d.Ac j).Bl==1⟩]:=by
 unfold plP;rw [jR,jJ];rfl
theorem qoc {i:Nat} {x:qg} {j:Nat}:(plX i x j).length=j:=by simp [plX]
theorem qn9 {d:qe} {j:Nat}:(plP d j).length=j:=by simp [plP]
structure smallD (d:qe):Prop where
 ni:d.Aa.length≤14
 nn:d.Af.length≤30
 np:d.Ac.length≤8
 nx:∀ i,i<d.Aa.length→2≤(gt d.Aa i).Af.length∧(gt d.Aa i).Af.length≤5
theorem qu {l:qm} {d:qe} (h:designB l d=true):smallD d:=by
 unfold designB hasNamesB libB at h
 simp only [ji,decide_eq_true_eq] at h
 obtain ⟨⟨⟨hc,_⟩,⟨h1,h2,h3⟩,_⟩,hI,_⟩:=h
 refine ⟨h1,h2,h3,fun i hi=>?_⟩
 rw [qhN,qaF] at hI hc
 have:=hI i hi
 unfold instB at this
 simp only [ji,qcK,beq_iff_eq] at this
 have h5:=qjf (qok (hc (gt d.Aa i).Ba.toNat (by omega)))
 omega
theorem qmN {d:qe} (h:smallD d) {j:Nat} (hj:j≤d.Aa.length):(plI d j).length≤5*j:=by
 induction j with
 | zero=>exact jf _
 | succ j ih =>
  rw [qlp,jo,qoc]
  have:=ih (by omega)
  have:=h.nx j (by omega)
  omega
theorem qX {d:qe} (h:smallD d):(places d).length≤78:=by
 unfold places
 rw [jo,qn9]
 have:=qmN h (jf _)
 have:=h.ni
 have:=h.np
 omega
theorem qlH {d:qe} (h:smallD d):Ev (fun n=>qb1 n d) (places d):=by
 have h1:=h.ni
 have h2:=h.np
 have hL2:∀ i,i<d.Aa.length→∀ pre:List Tplace,pre.length≤100→Ev (fun n=>qbm (i:Int) (gt d.Aa i) n pre 0) (pre++plX i (gt d.Aa i) (gt d.Aa i).Af.length,((gt d.Aa i).Af.length:Int)):=by
  intro i hi pre hp
  have h5:=h.nx i hi
  have:=loopF (Lf:=qbm (i:Int) (gt d.Aa i)) (S:=fun j=>pre++plX i (gt d.Aa i) j) (len:=(gt d.Aa i).Af.length) (fin:=(pre++plX i (gt d.Aa i) (gt d.Aa i).Af.length,((gt d.Aa i).Af.length:Int))) (fun n=>by
    simp only [qbm,qh (jf _),cond_false])
   (fun j hj X hX=>by
    have hc:(pre++plX i (gt d.Aa i) j).length+[(⟨(i:Int),(j:Int),at0 (gt d.Aa i).Af j,decide (j+1=(gt d.Aa i).Af.length)⟩:Tplace)].length≤2147483648:=by
     rw [jo,qoc];simp;omega
    simp only [qbm,qf hj,cond_true,qbu hj,je,lastE hj (show (gt d.Aa i).Af.length≤1048576 by omega),qcg hc,Jb,←qq4,wS j]
    exact hX)
  simpa [plX] using this
 have hL1:Ev (fun n=>qbj d n ([]:List Tplace) 0) (plI d d.Aa.length,(d.Aa.length:Int)):=by
  refine loopF (Lf:=qbj d) (S:=fun j=>plI d j) (len:=d.Aa.length) (fun n=>?_) (fun j hj X hX=>?_)
  ·simp only [qbj,qh (jf _),cond_false]
  ·simp only [qbj,qf hj,cond_true,qS hj,je,wS j]
   refine Ev.bind (hL2 j hj _ (by have:=qmN h (Nat.le_of_lt hj);omega)) ?_
   rw [←qlp]
   exact hX
 have hL3:Ev (fun n=>qbl d n (plI d d.Aa.length) 0) (places d,(d.Ac.length:Int)):=by
  have:=loopF (Lf:=qbl d) (S:=fun j=>plI d d.Aa.length++plP d j) (len:=d.Ac.length) (fin:=(places d,(d.Ac.length:Int))) (fun n=>by
    simp only [qbl,qh (jf _),cond_false];rfl)
   (fun j hj X hX=>by
    have hc:(plI d d.Aa.length++plP d j).length+[(⟨-1,(j:Int),(gt d.Ac j).Bo,(gt d.Ac j).Bl==1⟩:Tplace)].length≤2147483648:=by
     rw [jo,qn9];have:=qmN h (jf _);simp;omega
    simp only [qbl,qf hj,cond_true,qS hj,je,qcg hc,Jb,←qq3,wS j]
    exact hX)
  simpa [plP] using this
 unfold qb1
 exact Ev.bind hL1 (Ev.bind hL3 .done)
theorem qgP {d:qe} (h:smallD d):Ev (fun n=>qc2 n d) ((places d).map toSp):=by
 have h1:=h.ni
 have h2:=h.np
 have hL2:∀ i,i<d.Aa.length→∀ pre:List Tplace,pre.length≤100→Ev (fun n=>qct (i:Int) (gt d.Aa i) n (pre.map toSp) 0) ((pre++plX i (gt d.Aa i) (gt d.Aa i).Af.length).map toSp,((gt d.Aa i).Af.length:Int)):=by
  intro i hi pre hp
  have h5:=h.nx i hi
  have:=loopF (Lf:=qct (i:Int) (gt d.Aa i)) (S:=fun j=>(pre++plX i (gt d.Aa i) j).map toSp) (len:=(gt d.Aa i).Af.length) (fin:=((pre++plX i (gt d.Aa i) (gt d.Aa i).Af.length).map toSp,((gt d.Aa i).Af.length:Int))) (fun n=>by
    simp only [qct,qh (jf _),cond_false])
   (fun j hj X hX=>by
    have hc:((pre++plX i (gt d.Aa i) j).map toSp).length+[(⟨(i:Int),(j:Int),at0 (gt d.Aa i).Af j,decide (j+1=(gt d.Aa i).Af.length)⟩:Tl05Place)].length≤2147483648:=by
     rw [jQ,jo,qoc];simp;omega
    simp only [qct,qf hj,cond_true,qbu hj,je,lastE hj (show (gt d.Aa i).Af.length≤1048576 by omega),qcg hc,wS j]
    rw [qq4,←Jb,jJ] at hX
    exact hX)
  simpa [plX] using this
 have hL1:Ev (fun n=>qco d n ([]:List Tl05Place) 0) ((plI d d.Aa.length).map toSp,(d.Aa.length:Int)):=by
  refine loopF (Lf:=qco d) (S:=fun j=>(plI d j).map toSp) (len:=d.Aa.length) (fun n=>?_) (fun j hj X hX=>?_)
  ·simp only [qco,qh (jf _),cond_false]
  ·simp only [qco,qf hj,cond_true,qS hj,je,wS j]
   refine Ev.bind (hL2 j hj _ (by have:=qmN h (Nat.le_of_lt hj);omega)) ?_
   rw [←qlp]
   exact hX
 have hL3:Ev (fun n=>qcj d n ((plI d d.Aa.length).map toSp) 0) ((places d).map toSp,(d.Ac.length:Int)):=by
  have:=loopF (Lf:=qcj d) (S:=fun j=>(plI d d.Aa.length++plP d j).map toSp) (len:=d.Ac.length) (fin:=((places d).map toSp,(d.Ac.length:Int))) (fun n=>by
    simp only [qcj,qh (jf _),cond_false];rfl)
   (fun j hj X hX=>by
    have hc:((plI d d.Aa.length++plP d j).map toSp).length+[(⟨-1,(j:Int),(gt d.Ac j).Bo,(gt d.Ac j).Bl==1⟩:Tl05Place)].length≤2147483648:=by
     rw [jQ,jo,qn9];have:=qmN h (jf _);simp;omega
    simp only [qcj,qf hj,cond_true,qS hj,je,qcg hc,wS j]
    rw [qq3,←Jb,jJ] at hX
    exact hX)
  simpa [plP] using this
 unfold qc2
 exact Ev.bind hL1 (Ev.bind hL3 .done)
def snkQ (d:qe) (k:Int) (i:Nat):Bool:=((gt (places d) i).net==k)&&!(gt (places d) i).drives
def sinksL (d:qe) (k:Int) (j:Nat):List Int:=((List.range j).filter (snkQ d k)).map fun (i:Nat)=>(i:Int)
def snkN (d:qe) (k:Int):Nat:=cntP (snkQ d k) (places d).length
theorem qjS {d:qe} {k:Int} {j:Nat}:sinksL d k (j+1)=sinksL d k j++(bif snkQ d k j then [(j:Int)] else []):=by
 unfold sinksL
 rw [jR,List.filter_append,jJ]
 congr 1
 cases h:snkQ d k j<;>simp [h]
theorem qfC {d:qe} {k:Int} {j:Nat}:(sinksL d k j).length=cntP (snkQ d k) j:=by
 induction j with
 | zero=>rfl
 | succ j ih =>
  rw [qjS,jo,ih]
  show _=cntP (snkQ d k) j+_
  congr 1
  cases snkQ d k j<;>rfl
theorem qnj {α β:Type} [Inhabited α] [Inhabited β] {xs:List α} {g:α→β} {j:Nat} (h:j<xs.length):gt (xs.map g) j=g (gt xs j):=by
 rw [qjF (by simpa using h),qjF h];simp
theorem qny {d:qe} {k:Int} (h:smallD d):Ev (fun n=>qgD n d k) (sinksL d k (places d).length):=by
 have hl:=qX h
 have hL:Ev (fun n=>qb8 k ((places d).map toSp) n ([]:List Int) 0) (sinksL d k (places d).length,((places d).length:Int)):=by
  refine loopF (Lf:=qb8 k ((places d).map toSp)) (S:=fun j=>sinksL d k j) (len:=(places d).length) (fun n=>?_) (fun j hj X hX=>?_)
  ·simp only [qb8,jQ,qh (jf _),cond_false]
  ·have hj':j<((places d).map toSp).length:=by simpa using hj
   have hc:(sinksL d k j).length+[(j:Int)].length≤2147483648:=by
    rw [qfC]
    have:cntP (snkQ d k) j≤j:=qeC
    simp;omega
   simp only [qb8,qf hj',cond_true,qS hj',qnj hj,je,wS j]
   rw [show ∀ p:Tplace,(toSp p).net=p.net from fun _=>rfl,show ∀ p:Tplace,(toSp p).drives=p.drives from fun _=>rfl]
   refine Ev.bind (b:=snkQ d k j) (Ev.andP fun _=>.done) ?_
   rw [qjS] at hX
   cases hq:snkQ d k j
   ·rw [hq] at hX
    simp only [cond_false,jP] at hX ⊢
    exact hX
   ·rw [hq] at hX
    simp only [cond_true,qcg hc,je] at hX ⊢
    exact hX
 unfold qgD
 exact Ev.bind (qgP h) (Ev.bind hL .done)
theorem qkt {l:qm} {d:qe} (h:designB l d=true) {i:Nat} (hi:i<(places d).length):0≤(gt (places d) i).net∧(gt (places d) i).net<d.Af.length:=by
 unfold designB at h
 simp only [ji] at h
 obtain ⟨_,hI,hP,_⟩:=h
 rw [qhN,qaF] at hI hP
 have hm:gt (places d) i ∈ places d:=by rw [qjF hi];exact jq hi
 generalize gt (places d) i=p at hm
 unfold places at hm
 rcases List.mem_append.1 hm with hm|hm
 ·unfold plI at hm
  obtain ⟨i,hi,hm⟩:=List.mem_flatMap.1 hm
  unfold plX at hm
  obtain ⟨k,hk,rfl⟩:=List.mem_map.1 hm
  have:=hI i (List.mem_range.1 hi)
  unfold instB at this
  simp only [ji] at this
  have h3:=this.2.2
  rw [qhb (d:=0),qaF] at h3
  have h4:=h3 k (List.mem_range.1 hk)
  unfold netB at h4
  rw [qcK] at h4
  show 0≤at0 _ _∧at0 _ _<_
  unfold at0
  omega
 ·unfold plP at hm
  obtain ⟨i,hi,rfl⟩:=List.mem_map.1 hm
  have:=hP i (List.mem_range.1 hi)
  unfold portB netB at this
  simp only [ji,qcK] at this
  show 0≤(gt d.Ac i).Bo∧(gt d.Ac i).Bo<_
  omega
def blockB (b:qi):Bool:=(designB b.Ai b.Ab&&((b.Aj.length:Int)==(b.Ab.Af.length:Int)))&&allN (fun j=>wireB (gt b.Aj j) (snkN b.Ab (j:Int))) b.Aj.length
theorem qov {b:qi} (h:qcu b):Ev (fun n=>qiY n b) (blockB b):=by
 have hwl:=h.Aj.len
 unfold qiY blockB
 refine Ev.guardB (Ev.or (qqL h.Ai h.Ab) fun _=>.done) fun hb=>?_
 rw [ji,beq_iff_eq] at hb
 obtain ⟨hd,hw⟩:=hb
 have hs:=qu hd
 have hl:=qX hs
 have hn:=hs.nn
 rw [qlJ (m:=b.Aj.length) (by omega)]
 simp only [je]
 have hL1:Ev (fun n=>qcJ (places b.Ab) n (vecC (fun _=>0) b.Aj.length) 0) (vecC (fun k=>snkN b.Ab (k:Int)) b.Aj.length,((places b.Ab).length:Int)):=by
  refine loopF (Lf:=qcJ (places b.Ab)) (S:=fun j=>vecC (fun k=>cntP (snkQ b.Ab (k:Int)) j) b.Aj.length) (len:=(places b.Ab).length) (fun n=>?_) (fun j hj X hX=>?_)
  ·simp only [qcJ,qh (jf _),cond_false];rfl
  ·simp only [qcJ,qf hj,cond_true,qS hj,je,wS j]
   obtain ⟨n0,n1⟩:=qkt hd hj
   cases h1:(gt (places b.Ab) j).drives
   ·have hc:cntP (snkQ b.Ab (((gt (places b.Ab) j).net.toNat:Nat):Int)) j≤j:=qeC
    obtain ⟨e1,e2⟩:=qka (c:=fun k=>cntP (snkQ b.Ab (k:Int)) j) (c':=fun k=>cntP (snkQ b.Ab (k:Int)) (j+1)) (x:=(gt (places b.Ab) j).net) (m:=b.Aj.length) n0 (by omega) (by show cntP _ _<_;omega) (fun k _=>by
     show cntP _ j+(bif snkQ b.Ab (k:Int) j then 1 else 0)=_
     unfold snkQ
     rw [h1,Bool.not_false,Bool.and_true])
    simp only [Bool.not_false,cond_true,je,e1,e2]
    exact hX
   ·have:vecC (fun k=>cntP (snkQ b.Ab (k:Int)) (j+1)) b.Aj.length=vecC (fun k=>cntP (snkQ b.Ab (k:Int)) j) b.Aj.length:=by
     refine qja (fun k _=>?_)
     show cntP _ j+(bif snkQ b.Ab (k:Int) j then 1 else 0)=_
     unfold snkQ
     rw [h1,Jg,Bool.and_false];rfl
    rw [this] at hX
    exact hX
 have hL2:Ev (fun n=>qeq b (vecC (fun k=>snkN b.Ab (k:Int)) b.Aj.length) n 0) (bif allN (fun j=>wireB (gt b.Aj j) (snkN b.Ab (j:Int))) b.Aj.length then .nxt (b.Aj.length:Int) else .ret false):=by
  refine qeL ?_ (fun j hj X hX=>Ev.succ ?_)
  ·exact Ev.succ (by simp only [qeq,qh (jf _),cond_false];exact .done)
  ·simp only [qeq,qf hj,cond_true,qS hj,qjr hj,je,wS j]
   exact Ev.chk1 (qs5 (qiv h.Aj hj)) fun _=>hX
 refine Ev.bind (qlH hs) (Ev.bind hL1 (Ev.bind hL2 ?_))
 cases allN (fun j=>wireB (gt b.Aj j) (snkN b.Ab (j:Int))) b.Aj.length<;>exact .done
theorem qnA {b:qi} (h:qcu b):Ev (fun n=>qg8 n b) (blockB b):=by
 have hwl:=h.Aj.len
 unfold qg8 blockB
 refine Ev.guardB (Ev.or (qmJ h.Ai h.Ab) fun _=>.done) fun hb=>?_
 rw [ji] at hb
 have hs:=qu hb.1
 have hL:Ev (fun n=>qem b n 0) (bif allN (fun j=>wireB (gt b.Aj j) (snkN b.Ab (j:Int))) b.Aj.length then .nxt (b.Aj.length:Int) else .ret false):=by
  refine qeL ?_ (fun j hj X hX=>Ev.succ ?_)
  ·exact Ev.succ (by simp only [qem,qh (jf _),cond_false];exact .done)
  ·simp only [qem,qf hj,cond_true,qS hj,je,wS j]
   refine Ev.bind (qny hs) ?_
   rw [qfC]
   exact Ev.chk1 (qsf (qiv h.Aj hj)) fun _=>hX
 refine Ev.bind hL ?_
 cases allN (fun j=>wireB (gt b.Aj j) (snkN b.Ab (j:Int))) b.Aj.length<;>exact .done
end Go.Fw
