/- By a program of mine (gen.py): for each function a plain function and the proof that the code computes it. -/
import Derived.Test.YtmkldekhhkijdaaGreatDoorB9
import Derived.Test.YtmkldekhhkijdaaGreatDoorA2
import Derived.Lib.IndexBytes
import Derived.Lib.ParseIntBTie
open Option renaming bind_some → jd, map_some → jL
open Nat renaming le_refl → je, mul_le_mul_right → jo, le_of_ble_eq_true → jq, lt_of_lt_of_le → jr, succ_mul → jF, zero_le → jP, zero_add → jQ
open Go.Result renaming andThen_ok → jf
open Bool renaming and_eq_true → jg, eq_iff_iff → jl, true_and → jB, not_eq_true' → jJ
open List renaming getElem?_eq_getElem → jh, length_append → ji, length_singleton → jm, mem_cons_of_mem → jn, mem_cons_self → jp, length_cons → js, getElem?_append_left → jt, getElem_mem → ju, getD_eq_getElem?_getD → jv, getElem?_take → jw, drop_eq_getElem_cons → jx, getElem?_append_right → jy, getElem?_toArray → jz, mem_of_getElem? → jA, eq_nil_of_length_eq_zero → jD, append_assoc → jE, size_toArray → jG, length_map → jH, getElem_of_mem → jI, all_eq_true → jK, map_append → jM, not_mem_nil → jN, take_length → jO, map_cons → jR
open Go.Sem renaming run_bind → jj, run_pure → jk
open Int renaming toNat_natCast → jC

namespace Go.Fw
open Go Go.Proofs
open Go.RowKit (Below)
set_option maxRecDepth 100000
set_option maxHeartbeats 6400000
variable {n:Nat} {w:World} {cs1 cs2 cs3 cs4 cs5 cs6 cs7 cs8 cs9:List Value}
def qgG (n:Nat) (b:qm):Option Int :=
 (qdj n (⟨b.Ab.Aa,b.Ab.Af,b.Ab.Ac⟩:qc)).bind fun r1 =>
 some (r1.length:Int)
theorem qk6 {b:qm} (ha1:GoT.R w (old w) b cs1) {r:Int} (hF:qgG n b=some r):RetV Tryz.prog 91 [GoT.v qm cs1] w r:=by
 obtain ⟨p1,k1,p2,k2,p3,k3,p4,k4,p5,k5,rfl,s1,s2,s3,s4,s5⟩:=qaa ha1
 exact zV 7 Tryz.func91 rfl fun h=>zSR (qr h rfl rfl fun w1 bb1 h=>X1 6 0 h rfl (zcL h hF (qeY (qai _ (h.oldS s2) (h.oldS s3) (h.oldS s4))) rfl fun r1 w2 S1 p6 k6 h hF=>X0 3 rfl (ri h hF rfl)))
def qbq (b:qm) (list:(List Int)) (sorted:Bool):Nat→Int→Option (Flow Bool Int)
 | 0,_=>none
 | n+1,i1 =>
  bif decide (i1<(list.length:Int)) then
   (idx list i1).bind fun y1 =>
   (qgG n b).bind fun r1 =>
   (qY n y1 0 (W64 (r1-1))).bind fun r2 =>
   bif (!r2) then some (.ret false) else
   bif sorted then
    bif decide (i1 > 0) then
     (idx list (W64 (i1-1))).bind fun y2 =>
     (idx list i1).bind fun y3 =>
     bif decide (y2 ≥ y3) then some (.ret false) else
     qbq b list sorted n (W64 (i1+1))
    else
     qbq b list sorted n (W64 (i1+1))
   else
    qbq b list sorted n (W64 (i1+1))
  else
   some (.nxt i1)
def qec (n:Nat) (b:qm) (list:(List Int)) (sorted:Bool):Option Bool :=
 (qbq b list sorted n 0).bind fun o=>match o with
 | .ret r=>some r
 | .nxt _ =>
  some (decide ((list.length:Int)≤4))
theorem qf5 {b:qm} {list:(List Int)} {sorted:Bool} (ha1:GoT.R w (old w) b cs1) (ha2:GoT.R w (old w) list cs2) {r:Bool} (hF:qec n b list sorted=some r):RetV Tryz.prog 46 [GoT.v qm cs1,GoT.v (List Int) cs2,.bool sorted] w r:=by
 obtain ⟨p1,k1,p2,k2,p3,k3,p4,k4,p5,k5,rfl,s1,s2,s3,s4,s5⟩:=qaa ha1
 obtain ⟨p6,k6,rfl,s6⟩:=ha2
 refine zV 45 Tryz.func46 rfl fun h=>zSR (qr h rfl rfl fun w1 bb1 h=>X0 7 rfl ?_)
 obtain ⟨o1,hF,hK1⟩:=qe hF
 refine ql (rL (fun m e w'=>∃ (i1:Int),qbq b list sorted m i1=some o1∧e=[(1,.slice p6 list.length k6),(2,.bool sorted),(3,.pointer (some ⟨bb1,0,none⟩)),(7,.int .i64 i1)]∧SH w w' [Ch.box bb1 (qaI b p1 p2 p3 p4 p5 k1 k2 k3 k4 k5) 48]) n ⟨_,hF,rfl,h⟩ rfl ?_)
 rintro m1 e1 w2 ⟨i1,hF,rfl,h⟩
 rcases m1 with _|m1
 ·cases hF
 refine X0 8 rfl (qg rfl hF ?_ ?_)<;>intro hF
 ·refine X0 4 rfl (rD (zd2 rfl ?_))
  obtain ⟨y1,hy1,hF,he1,b1,_,q1,cs3,hp1,hq1,rfl,hc2⟩:=s6.ix hF
  refine zdxe hp1 hq1 he1 rfl (zdc 0 (hc2.below h.below) rfl (Y1 1 0 h rfl ?_))
  obtain ⟨r1,hr2,hF⟩:=qe hF
  refine qbk r1 (vsI _) (cB 91 rfl) (fun _ hb=>qk6 ((h.ext hb).old ha1) hr2) rfl rfl rfl rfl (zd1 rfl ?_)
  obtain ⟨r2,hr3,hF⟩:=qe hF
  refine qbk r2 (vsB _) (cB 47 rfl) (fun _ hb=>qN  hr3) rfl rfl rfl rfl (zd2 rfl (qbm (t:=23) hF rfl ?_ ?_))<;>intro hF
  ·refine Y0 18 rfl (dN h fun w3 h=>qdp rfl rfl (X0 4 rfl ?_))
   obtain rfl:=qa hF;replace hF:=hK1
   exact rb h hF rfl
  refine Y0 4 rfl (qbm (t:=25) hF rfl ?_ ?_)<;>intro hF
  ·refine Y0 8 rfl (qbm (t:=29) hF rfl ?_ ?_)<;>intro hF
   ·refine Y0 7 rfl ?_
    obtain ⟨y2,hy2,hF,he2,b2,_,q2,cs4,hp2,hq2,rfl,hc3⟩:=s6.ix hF
    refine zdxe hp2 hq2 he2 rfl (Y0 1 rfl (zdc 0 (hc3.below h.below) rfl (Y0 5 rfl ?_)))
    obtain ⟨y3,hy3,hF,he3,b3,_,q3,cs5,hp3,hq3,rfl,hc4⟩:=s6.ix hF
    refine zdxe hp3 hq3 he3 rfl (Y0 1 rfl (zdc 0 (hc4.below h.below) rfl (Y0 5 rfl (dN h fun w4 h=>qg rfl hF ?_ ?_))))<;>intro hF
    ·refine X0 4 rfl ?_
     obtain rfl:=qa hF;replace hF:=hK1
     exact rb h hF rfl
    exact X0 7 rfl (rK ⟨_,hF,rfl,h⟩ rfl)
   exact Y0 13 rfl (dN h fun w5 h=>qfi rfl rfl (X0 7 rfl (rK ⟨_,hF,rfl,h⟩ rfl)))
  exact Y0 19 rfl (dN h fun w6 h=>qfi rfl rfl (X0 7 rfl (rK ⟨_,hF,rfl,h⟩ rfl)))
 refine qq rfl ?_
 obtain rfl:=qa hF;replace hF:=hK1
 exact X0 7 rfl (rb h hF rfl)
def qfg (n:Nat) (b:qm) (a_e:qf):Option Bool :=
 (
  (qhn n b).bind fun r4 =>
  bif (!r4) then some true else
  (qec n b a_e.Av true).bind fun r5 =>
  bif (!r5) then some true else
  (qec n b a_e.As false).bind fun r6 =>
  bif (!r6) then some true else
  (qec n b a_e.To true).bind fun r7 =>
  some (!r7)).bind fun b1 =>
 bif b1 then some false else
 bif (a_e.Ap==1) then some (a_e.Bd==0) else
 bif (a_e.Ap==2) then
  (qY n a_e.Bd 1 10).bind fun r1 =>
  some r1
 else
  bif (a_e.Ap==3) then
   bif (a_e.Ap==3) then
    (qY n a_e.Bd 0 1000000000).bind fun r2 =>
    some r2
   else
    some false
  else
   bif (a_e.Ap==4) then
    (qY n a_e.Bd 0 1000000000).bind fun r3 =>
    some r3
   else
    some false
theorem qjT {b:qm} {a_e:qf} (ha1:GoT.R w (old w) b cs1) (ha2:GoT.R w (old w) a_e cs2) {r:Bool} (hF:qfg n b a_e=some r):RetV Tryz.prog 16 [GoT.v qm cs1,GoT.v qf cs2] w r:=by
 obtain ⟨p1,k1,p2,k2,p3,k3,p4,k4,p5,k5,rfl,s1,s2,s3,s4,s5⟩:=qaa ha1
 obtain ⟨p6,k6,p7,k7,p8,k8,rfl,s6,s7,s8⟩:=qaY ha2
 refine zV 47 Tryz.func16 rfl fun h=>zSR (qr h rfl rfl fun w1 bb1 h=>qr h rfl rfl fun w2 bb2 h=>X0 4 rfl ?_)
 obtain ⟨KF1,hKF1,o1,hF,hK1⟩:=bindE hF
 refine qbx (fun e w'=>∃ (b1:Bool),KF1 b1=some r∧e=[(3,.pointer (some ⟨bb2,0,none⟩)),(28,.bool b1)]∧SH w w' [Ch.box bb2 (qT a_e p6 p7 p8 k6 k7 k8) 50]) ?_ ?_
 ·refine X1 2 1 h rfl (zcB h hF (qlA (h.old ha1)) rfl fun r4 w6 h hF=>zp2 rfl (qi (t:=8) hF rfl ?_ ?_))<;>intro hF
  ·refine X0 21 rfl ?_
   replace h:=h.pick [0] rfl
   obtain rfl:=qa hF
   exact rG ⟨_,hK1,rfl,h⟩ rfl
  refine X2 7 1 0 h rfl (zcB h hF (qf5 (h.old ha1) ⟨_,_,rfl,(h.oldS s6)⟩) rfl fun r5 w7 h hF=>X0 4 rfl (qi (t:=15) hF rfl ?_ ?_))<;>intro hF
  ·refine X0 14 rfl ?_
   replace h:=h.pick [0] rfl
   obtain rfl:=qa hF
   exact rG ⟨_,hK1,rfl,h⟩ rfl
  refine X2 7 1 0 h rfl (zcB h hF (qf5 (h.old ha1) ⟨_,_,rfl,(h.oldS s7)⟩) rfl fun r6 w8 h hF=>X0 4 rfl (qi (t:=22) hF rfl ?_ ?_))<;>intro hF
  ·refine X0 7 rfl ?_
   replace h:=h.pick [0] rfl
   obtain rfl:=qa hF
   exact rG ⟨_,hK1,rfl,h⟩ rfl
  refine X2 7 1 0 h rfl (zcB h hF (qf5 (h.old ha1) ⟨_,_,rfl,(h.oldS s8)⟩) rfl fun r7 w9 h hF=>X0 4 rfl ?_)
  replace h:=h.pick [0] rfl
  obtain rfl:=qa hF
  exact rG ⟨_,hK1,rfl,h⟩ rfl
 rintro e1 w10 ⟨b1,hF,rfl,h⟩
 subst hKF1
 refine qg rfl hF ?_ ?_<;>intro hF
 ·exact X0 4 rfl (rb h hF rfl)
 refine X1 13 0 h rfl (qg rfl hF ?_ ?_)<;>intro hF
 ·exact X1 7 0 h rfl (rb h hF rfl)
 refine X0 5 rfl (qg rfl hF ?_ ?_)<;>intro hF
 ·exact X1 4 0 h rfl (zcB h hF qN rfl fun r1 w3 h hF=>X0 2 rfl (rb h hF rfl))
 refine X0 6 rfl (qg rfl hF ?_ ?_)<;>intro hF
 ·refine qeT (qg rfl hF ?_ ?_)<;>intro hF
  ·exact X1 4 0 h rfl (zcB h hF qN rfl fun r2 w4 h hF=>X0 2 rfl (rb h hF rfl))
  exact X0 6 rfl (rb h hF rfl)
 refine X0 4 rfl (qg rfl hF ?_ ?_)<;>intro hF
 ·exact X1 4 0 h rfl (zcB h hF qN rfl fun r3 w5 h hF=>X0 2 rfl (rb h hF rfl))
 exact X0 6 rfl (rb h hF rfl)
def qdN (_:Nat) (a:qF):Option (List qD) :=
 bif (a.Ap==2) then some ([(⟨0,0⟩:qD),(⟨0,1⟩:qD)]:List qD) else
 bif (a.Ap==3) then some ([(⟨1,0⟩:qD),(⟨1,1⟩:qD)]:List qD) else
 bif (a.Ap != 1) then some [] else
 bif (a.Bf==1) then some ([(⟨0,0⟩:qD),(⟨1,1⟩:qD)]:List qD) else
 bif (a.Bf==2) then some ([(⟨0,1⟩:qD),(⟨1,0⟩:qD)]:List qD) else
 some ([(⟨0,0⟩:qD),(⟨0,1⟩:qD),(⟨1,0⟩:qD),(⟨1,1⟩:qD)]:List qD)
theorem qit {a:qF} (ha1:GoT.R w (old w) a cs1) {r:(List qD)} (hF:qdN n a=some r):RetV Tryz.prog 117 [GoT.v qF cs1] w r:=by
 obtain ⟨p1,k1,p2,k2,rfl,s1,s2⟩:=qak ha1
 refine zV 44 Tryz.func117 rfl fun h=>zSR (qr h rfl rfl fun w1 bb1 h=>X0 4 rfl (r_v (qeH qb [0,1] [.const (.int .i64 (0)),.const (.int .i64 (0))] rfl rfl rfl rfl rfl rfl rfl rfl rfl) rfl (r_v (qeH qb [0,1] [.const (.int .i64 (1)),.const (.int .i64 (1))] rfl rfl rfl rfl rfl rfl rfl rfl rfl) rfl (qR qb [.tmp 5,.tmp 6] _ ([(⟨0,0⟩:qD),(⟨1,1⟩:qD)]:List qD) h rfl rfl rfl rfl rfl rfl rfl rfl rfl ⟨(qb5 (⟨0,0⟩:qD)),(qb5 (⟨1,1⟩:qD)),trivial⟩ rfl fun w2 p3 S1 h=>X0 4 rfl (r_v (qeH qb [0,1] [.const (.int .i64 (0)),.const (.int .i64 (1))] rfl rfl rfl rfl rfl rfl rfl rfl rfl) rfl (r_v (qeH qb [0,1] [.const (.int .i64 (1)),.const (.int .i64 (0))] rfl rfl rfl rfl rfl rfl rfl rfl rfl) rfl (qR qb [.tmp 8,.tmp 9] _ ([(⟨0,1⟩:qD),(⟨1,0⟩:qD)]:List qD) h rfl rfl rfl rfl rfl rfl rfl rfl rfl ⟨(qb5 (⟨0,1⟩:qD)),(qb5 (⟨1,0⟩:qD)),trivial⟩ rfl fun w3 p4 S2 h=>X1 11 2 h rfl (qg rfl hF ?_ ?_))))))))<;>intro hF
 ·refine zSR (r_v (qeH qb [0,1] [.const (.int .i64 (0)),.const (.int .i64 (0))] rfl rfl rfl rfl rfl rfl rfl rfl rfl) rfl (r_v (qeH qb [0,1] [.const (.int .i64 (0)),.const (.int .i64 (1))] rfl rfl rfl rfl rfl rfl rfl rfl rfl) rfl (qR qb [.tmp 15,.tmp 16] _ ([(⟨0,0⟩:qD),(⟨0,1⟩:qD)]:List qD) h rfl rfl rfl rfl rfl rfl rfl rfl rfl ⟨(qb5 (⟨0,0⟩:qD)),(qb5 (⟨0,1⟩:qD)),trivial⟩ rfl fun w4 p5 S3 h=>X0 2 rfl ?_)))
  obtain rfl:=qa hF
  exact rO 0 h rfl ⟨rfl,trivial⟩
 refine X1 7 2 h rfl (qg rfl hF ?_ ?_)<;>intro hF
 ·refine zSR (r_v (qeH qb [0,1] [.const (.int .i64 (1)),.const (.int .i64 (0))] rfl rfl rfl rfl rfl rfl rfl rfl rfl) rfl (r_v (qeH qb [0,1] [.const (.int .i64 (1)),.const (.int .i64 (1))] rfl rfl rfl rfl rfl rfl rfl rfl rfl) rfl (qR qb [.tmp 22,.tmp 23] _ ([(⟨1,0⟩:qD),(⟨1,1⟩:qD)]:List qD) h rfl rfl rfl rfl rfl rfl rfl rfl rfl ⟨(qb5 (⟨1,0⟩:qD)),(qb5 (⟨1,1⟩:qD)),trivial⟩ rfl fun w5 p6 S4 h=>X0 2 rfl ?_)))
  obtain rfl:=qa hF
  exact rO 0 h rfl ⟨rfl,trivial⟩
 refine X1 7 2 h rfl (qg rfl hF ?_ ?_)<;>intro hF
 ·refine X0 4 rfl ?_
  obtain rfl:=qa hF
  exact qW qb (ρ:=(List qD)) [GoT.v (List qD) [.slice none 0 0]] h ⟨rfl,trivial⟩ (PV.done h (qaW qfe))
 refine X1 7 2 h rfl (qg rfl hF ?_ ?_)<;>intro hF
 ·refine X0 5 rfl ?_
  obtain rfl:=qa hF
  exact rO 1 h rfl ⟨rfl,trivial⟩
 refine X1 7 2 h rfl (qg rfl hF ?_ ?_)<;>intro hF
 ·refine X0 5 rfl ?_
  obtain rfl:=qa hF
  exact rO 0 h rfl ⟨rfl,trivial⟩
 refine X0 4 rfl (r_v (qeH qb [0,1] [.const (.int .i64 (0)),.const (.int .i64 (0))] rfl rfl rfl rfl rfl rfl rfl rfl rfl) rfl (r_v (qeH qb [0,1] [.const (.int .i64 (0)),.const (.int .i64 (1))] rfl rfl rfl rfl rfl rfl rfl rfl rfl) rfl (r_v (qeH qb [0,1] [.const (.int .i64 (1)),.const (.int .i64 (0))] rfl rfl rfl rfl rfl rfl rfl rfl rfl) rfl (r_v (qeH qb [0,1] [.const (.int .i64 (1)),.const (.int .i64 (1))] rfl rfl rfl rfl rfl rfl rfl rfl rfl) rfl (qR qb [.tmp 39,.tmp 40,.tmp 41,.tmp 42] _ ([(⟨0,0⟩:qD),(⟨0,1⟩:qD),(⟨1,0⟩:qD),(⟨1,1⟩:qD)]:List qD) h rfl rfl rfl rfl rfl rfl rfl rfl rfl ⟨(qb5 (⟨0,0⟩:qD)),(qb5 (⟨0,1⟩:qD)),(qb5 (⟨1,0⟩:qD)),(qb5 (⟨1,1⟩:qD)),trivial⟩ rfl fun w6 p7 S5 h=>X0 2 rfl ?_)))))
 obtain rfl:=qa hF
 exact rO 0 h rfl ⟨rfl,trivial⟩
def qba (first:Int) (i1:Int) (y2:qF) (r1:(List qD)):Nat→(List qaJ)→Int→Option ((List qaJ) × Int)
 | 0,_,_=>none
 | n+1,x2,i2 =>
  bif decide (i2<(r1.length:Int)) then
   (idx r1 i2).bind fun y3 =>
   (appS x2 ([(⟨W64 ((W64 (2*(W64 (first+y2.Av))))+y3.e0),W64 ((W64 (2*(W64 (first+y2.To))))+y3.e1),1,i1⟩:qaJ)]:List qaJ)).bind fun x3 =>
   qba first i1 y2 r1 n x3 (W64 (i2+1))
  else
   some (x2,i2)
def qa9 (first:Int) (y1:qn):Nat→(List qaJ)→Int→Option ((List qaJ) × Int)
 | 0,_,_=>none
 | n+1,x1,i1 =>
  bif decide (i1<(y1.Ar.length:Int)) then
   (idx y1.Ar i1).bind fun y2 =>
   (qdN n y2).bind fun r1 =>
   (qba first i1 y2 r1 n x1 0).bind fun o=>match o with
   | (x2,_) =>
    qa9 first y1 n x2 (W64 (i1+1))
  else
   some (x1,i1)
def qdG (n:Nat) (b:qm) (x:qd) (first:Int):Option (List qaJ) :=
 (idx b.Ah.Ai x.Bg).bind fun y1 =>
 (qa9 first y1 n ([]:List qaJ) 0).bind fun o=>match o with
 | (x1,_) =>
  some x1
theorem qiD {b:qm} {x:qd} {first:Int} (ha1:GoT.R w (old w) b cs1) (ha2:GoT.R w (old w) x cs2) {r:(List qaJ)} (hF:qdG n b x first=some r):RetV Tryz.prog 72 [GoT.v qm cs1,GoT.v qd cs2,.int .i64 first] w r:=by
 obtain ⟨p1,k1,p2,k2,p3,k3,p4,k4,p5,k5,rfl,s1,s2,s3,s4,s5⟩:=qaa ha1
 obtain ⟨p6,k6,rfl,s6⟩:=qG ha2
 refine zV 57 Tryz.func72 rfl fun h=>zSR (qr h rfl rfl fun w1 bb1 h=>qr h rfl rfl fun w2 bb2 h=>X2 14 1 0 h rfl ?_)
 obtain ⟨y1,hy1,hF,he1,b1,_,q1,cs3,hp1,hq1,hr1,hc1⟩:=s1.ix hF
 obtain ⟨p7,k7,p8,k8,p9,k9,rfl,s7,s8,s9⟩:=qL hr1
 refine zxe hp1 hq1 he1 rfl (zp1 rfl (zc 3 (hc1.below h.below) rfl (X0 3 rfl ?_)))
 replace h:=h.nil (α:=qaJ)
 obtain ⟨o1,hF,hK1⟩:=qe hF
 refine ql ?_
 replace h:=h.pick [0] rfl
 refine rL (fun m e w'=>∃ (S1:Nat→Prop) (p10:Option Addr) (ln1:Nat) (k10:Nat) (x1:(List qaJ)) (i1:Int),qa9 first y1 m x1 i1=some o1∧e=[(2,.int .i64 first),(7,.slice p10 ln1 k10),(19,.slice p8 y1.Ar.length k8),(20,.int .i64 (y1.Ar.length:Int)),(21,.int .i64 i1)]∧SH w w' [Ch.own S1 (x1:List qaJ) [.slice p10 ln1 k10]]) n ⟨_,_,_,_,_,_,hF,rfl,h⟩ rfl ?_
 rintro m1 e1 w3 ⟨S1,p10,ln1,k10,x1,i1,hF,rfl,h⟩
 obtain rfl:=(h.sl 0 rfl).2
 rcases m1 with _|m1
 ·cases hF
 refine X0 5 rfl (qg rfl hF ?_ ?_)<;>intro hF
 ·refine X0 6 rfl ?_
  obtain ⟨y2,hy2,hF,he2,b2,_,q2,cs4,hp2,hq2,hr2,hc3⟩:=s8.ix hF
  obtain ⟨p11,k11,p12,k12,rfl,s10,s11⟩:=qak hr2
  refine zxe hp2 hq2 he2 rfl (zc 0 (hc3.below h.below) rfl (qB qb h rfl rfl rfl fun w4 bb3 h=>zp1 rfl (zs 0 h rfl fun w5 h=>X1 4 0 h rfl (zcL h hF (qit (qfF y2 (h.oldS s10) (h.oldS s11))) rfl fun r1 w6 S2 p13 k13 h hF=>X0 3 rfl ?_))))
  obtain ⟨o2,hF,hK2⟩:=qe hF
  refine ql (rL (fun m e w'=>∃ (S3:Nat→Prop) (p14:Option Addr) (ln2:Nat) (k14:Nat) (x2:(List qaJ)) (i2:Int),qba first i1 y2 r1 m x2 i2=some o2∧e=[(2,.int .i64 first),(7,.slice p14 ln2 k14),(8,.int .i64 i1),(9,.pointer (some ⟨bb3,0,none⟩)),(19,.slice p8 y1.Ar.length k8),(20,.int .i64 (y1.Ar.length:Int)),(21,.int .i64 i1),(27,.slice p13 r1.length k13),(28,.int .i64 (r1.length:Int)),(29,.int .i64 i2)]∧SH w w' [Ch.own S2 (r1:List qD) [.slice p13 r1.length k13],Ch.box bb3 (qiW y2 p11 p12 k11 k12) 183,Ch.own S3 (x2:List qaJ) [.slice p14 ln2 k14]]) m1 ⟨_,_,_,_,_,_,hF,rfl,h⟩ rfl ?_)
  rintro m2 e2 w7 ⟨S3,p14,ln2,k14,x2,i2,hF,rfl,h⟩
  obtain rfl:=(h.sl 2 rfl).2
  rcases m2 with _|m2
  ·cases hF
  refine X0 5 rfl (qg rfl hF ?_ ?_)<;>intro hF
  ·refine zKSBSR ?_
   obtain ⟨y3,hy3,hF,he3,b3,_,q3,cs5,hp3,hq3,hr4,hc5⟩:=(h.sl 0 rfl).1.ix hF
   obtain rfl:=qnI hr4
   refine zx hp3 hq3 ⟨he3.1,qI he3.2.1 (h.sl 0 rfl).2⟩ rfl (zc 0 hc5 rfl (qB qb h rfl rfl rfl fun w8 bb4 h=>zs 0 h rfl fun w9 h=>X1 8 2 h rfl (r_v (qqW (iv:=0) qb rfl rfl (by decide) ⟨rfl,rfl⟩ rfl rfl) rfl (X2 7 0 2 h rfl (r_v (qqW (iv:=1) qb rfl rfl (by decide) ⟨rfl,rfl⟩ rfl rfl) rfl (X1 3 0 h rfl (r_v (qb6 qb [0,1,2,3] [.tmp 41,.tmp 49,.const (.int .i64 (1)),.tmp 50] rfl rfl rfl rfl rfl rfl rfl rfl) rfl (qR qb [.tmp 51] _ ([(⟨W64 ((W64 (2*(W64 (first+y2.Av))))+y3.e0),W64 ((W64 (2*(W64 (first+y2.To))))+y3.e1),1,i1⟩:qaJ)]:List qaJ) h rfl rfl rfl rfl rfl rfl rfl rfl rfl ⟨(qnn (⟨W64 ((W64 (2*(W64 (first+y2.Av))))+y3.e0),W64 ((W64 (2*(W64 (first+y2.To))))+y3.e1),1,i1⟩:qaJ)),trivial⟩ rfl fun w10 p15 S4 h=>?_))))))))
   obtain ⟨x3,hx1,hF⟩:=qe hF
   obtain ⟨g1,hx1⟩:=qam hx1
   refine qcG qb 4 h rfl (h.sl 0 rfl).1 (h.sl 0 rfl).2 rfl rfl rfl rfl rfl rfl rfl rfl rfl g1 hx1 rfl fun w11 p16 k15 S5 h=>X0 7 rfl ?_
   replace h:=h.pick [2,3,4] rfl
   exact rK ⟨_,_,_,_,_,_,hF,rfl,h⟩ rfl
  refine qq rfl ?_
  obtain rfl:=qa hF;replace hF:=hK2
  refine X0 5 rfl ?_
  replace h:=h.pick [2] rfl
  exact rK ⟨_,_,_,_,_,_,hF,rfl,h⟩ rfl
 refine qq rfl ?_
 obtain rfl:=qa hF;replace hF:=hK1
 refine X0 5 rfl ?_
 obtain rfl:=qa hF
 exact rO 0 h rfl ⟨rfl,trivial⟩
def qfS (_:Nat) (s:(List Int)):Option (List Int) :=
 appS ([]:List Int) s
theorem qi7 {s:(List Int)} (ha1:GoT.R w (old w) s cs1) {r:(List Int)} (hF:qfS n s=some r):RetV Tryz.prog 118 [GoT.v (List Int) cs1] w r:=by
 obtain ⟨p,k,rfl,s1⟩:=ha1
 obtain ⟨g1,hx⟩:=qam (show appS ([]:List Int) s=some r from hF)
 cases p with
 | none =>
  obtain rfl:=qoI s1
  obtain rfl:[]=r:=hx
  exact zV 8 Tryz.func118 rfl fun h=>X0 8 rfl (r_v (qoa qb rfl rfl rfl rfl rfl) rfl (qdk (qdp rfl rfl (X0 4 rfl (qW qb (ρ:=(List Int)) [GoT.v (List Int) [.slice none 0 0]] h ⟨rfl,trivial⟩ (PV.done h (qaW qfe)))))))
 | some a =>
  refine zV 8 Tryz.func118 rfl fun h=>X0 8 rfl (r_v (qoa qb rfl rfl rfl rfl rfl) rfl (qdk (qfi rfl rfl (zKSR (qR qb [] _ ([]:List Int) h rfl rfl rfl rfl rfl rfl rfl rfl rfl trivial rfl fun w1 p1 S1 h=>zp1 rfl (qsA qb 0 h rfl (h.oldS s1) rfl rfl rfl rfl rfl rfl rfl rfl rfl rfl g1 rfl fun w2 p2 k2 S2 h=>?_))))))
  rw [hx] at h
  exact X0 2 rfl (qW qb (ρ:=(List Int)) [GoT.v (List Int) [.slice p2 (([]:List Int).length+s.length) k2]] h ⟨rfl,trivial⟩ (PV.done h (qaW (qaC 0 h rfl))))
def qay (net:Int) (r1:(List Tplace)):Nat→(List Int)→Int→Option ((List Int) × Int)
 | 0,_,_=>none
 | n+1,x1,i1 =>
  bif decide (i1<(r1.length:Int)) then
   (idx r1 i1).bind fun y1 =>
   bif (y1.net==net) then
    bif (!y1.drives) then
     (appS x1 ([i1]:List Int)).bind fun x2 =>
     qay net r1 n x2 (W64 (i1+1))
    else
     qay net r1 n x1 (W64 (i1+1))
   else
    qay net r1 n x1 (W64 (i1+1))
  else
   some (x1,i1)
def qe2 (n:Nat) (d:qc) (net:Int):Option (List Int) :=
 (qbf n d).bind fun r1 =>
 (qay net r1 n ([]:List Int) 0).bind fun o=>match o with
 | (x1,_) =>
  some x1
theorem qjk {d:qc} {net:Int} (ha1:GoT.R w (old w) d cs1) {r:(List Int)} (hF:qe2 n d net=some r):RetV Tryz.prog 119 [GoT.v qc cs1,.int .i64 net] w r:=by
 obtain ⟨p1,k1,p2,k2,p3,k3,rfl,s1,s2,s3⟩:=qK ha1
 refine zV 31 Tryz.func119 rfl fun h=>zSR (qr h rfl rfl fun w1 bb1 h=>X1 10 0 h rfl (zcL h hF (qb9 (h.old ha1)) rfl fun r1 w2 S1 p4 k4 h hF=>X0 3 rfl ?_))
 replace h:=h.nil (α:=Int)
 obtain ⟨o1,hF,hK1⟩:=qe hF
 refine ql ?_
 replace h:=h.pick [0,1] rfl
 refine rL (fun m e w'=>∃ (S2:Nat→Prop) (p5:Option Addr) (ln1:Nat) (k5:Nat) (x1:(List Int)) (i1:Int),qay net r1 m x1 i1=some o1∧e=[(1,.int .i64 net),(5,.slice p5 ln1 k5),(9,.slice p4 r1.length k4),(10,.int .i64 (r1.length:Int)),(11,.int .i64 i1)]∧SH w w' [Ch.own S2 (x1:List Int) [.slice p5 ln1 k5],Ch.own S1 (r1:List Tplace) [.slice p4 r1.length k4]]) n ⟨_,_,_,_,_,_,hF,rfl,h⟩ rfl ?_
 rintro m1 e1 w3 ⟨S2,p5,ln1,k5,x1,i1,hF,rfl,h⟩
 obtain rfl:=(h.sl 0 rfl).2
 rcases m1 with _|m1
 ·cases hF
 refine X0 5 rfl (qg rfl hF ?_ ?_)<;>intro hF
 ·refine X0 6 rfl ?_
  obtain ⟨y1,hy1,hF,he1,b1,_,q1,cs2,hp1,hq1,hr2,hc2⟩:=(h.sl 1 rfl).1.ix hF
  obtain rfl:=qdI hr2
  refine zx hp1 hq1 ⟨he1.1,qI he1.2.1 (h.sl 1 rfl).2⟩ rfl (zc 0 hc2 rfl (qB qb h rfl rfl rfl fun w4 bb2 h=>zp1 rfl (zs 0 h rfl fun w5 h=>X1 8 0 h rfl (qi (t:=20) hF rfl ?_ ?_))))<;>intro hF
  ·refine X1 8 0 h rfl (qg rfl hF ?_ ?_)<;>intro hF
   ·refine X0 3 rfl (qR qb [.tmp 26] _ ([i1]:List Int) h rfl rfl rfl rfl rfl rfl rfl rfl rfl ⟨rfl,trivial⟩ rfl fun w6 p6 S3 h=>?_)
    obtain ⟨x2,hx1,hF⟩:=qe hF
    obtain ⟨g1,hx1⟩:=qam hx1
    refine qcG qb 2 h rfl (h.sl 0 rfl).1 (h.sl 0 rfl).2 rfl rfl rfl rfl rfl rfl rfl rfl rfl g1 hx1 rfl fun w7 p7 k6 S4 h=>X0 7 rfl ?_
    replace h:=h.pick [2,3] rfl
    exact rK ⟨_,_,_,_,_,_,hF,rfl,h⟩ rfl
   refine X0 6 rfl ?_
   replace h:=h.pick [1,2] rfl
   exact rK ⟨_,_,_,_,_,_,hF,rfl,h⟩ rfl
  refine X0 5 rfl (qfi rfl rfl (X0 6 rfl ?_))
  replace h:=h.pick [1,2] rfl
  exact rK ⟨_,_,_,_,_,_,hF,rfl,h⟩ rfl
 refine qq rfl ?_
 obtain rfl:=qa hF;replace hF:=hK1
 refine X0 5 rfl ?_
 obtain rfl:=qa hF
 exact rO 0 h rfl ⟨rfl,trivial⟩
def qeW (_:Nat) (d:qc) (l:qh) (p:Tplace):Option Int :=
 bif decide (p.instance_<0) then some 0 else
 (idx d.Aa p.instance_).bind fun y1 =>
 (idx l.Ai y1.Bg).bind fun y2 =>
 (idx y2.Am p.pin).bind fun y3 =>
 some y3.Bk
theorem qju {d:qc} {l:qh} {p:Tplace} (ha1:GoT.R w (old w) d cs1) (ha2:GoT.R w (old w) l cs2) (ha3:GoT.R w (old w) p cs3) {r:Int} (hF:qeW n d l p=some r):RetV Tryz.prog 120 [GoT.v qc cs1,GoT.v qh cs2,GoT.v Tplace cs3] w r:=by
 obtain ⟨p1,k1,p2,k2,p3,k3,rfl,s1,s2,s3⟩:=qK ha1
 obtain ⟨p4,k4,rfl,s4⟩:=qU ha2
 obtain rfl:=qdI ha3
 refine zV 27 Tryz.func120 rfl fun h=>zSR (qr h rfl rfl fun w1 bb1 h=>qr h rfl rfl fun w2 bb2 h=>qr h rfl rfl fun w3 bb3 h=>X1 9 0 h rfl (qg rfl hF ?_ ?_))<;>intro hF
 ·exact X0 4 rfl (ri h hF rfl)
 refine zKS (rD (Y1 2 1 h rfl ?_))
 refine Y1 2 2 h rfl ?_
 refine Y1 2 0 h rfl ?_
 obtain ⟨y1,hy1,hF,he1,b1,_,q1,cs4,hp1,hq1,hr1,hc2⟩:=s1.ix hF
 obtain ⟨p5,k5,rfl,s5⟩:=qG hr1
 refine zdxe hp1 hq1 he1 rfl (zd1 rfl (zdc 1 (hc2.below h.below) rfl ?_))
 obtain ⟨y2,hy2,hF,he2,b2,_,q2,cs5,hp2,hq2,hr2,hc3⟩:=s4.ix hF
 obtain ⟨p6,k6,p7,k7,p8,k8,rfl,s6,s7,s8⟩:=qL hr2
 refine zdxe hp2 hq2 he2 rfl (zd1 rfl (zdc 2 (hc3.below h.below) rfl (Y1 2 0 h rfl ?_)))
 obtain ⟨y3,hy3,hF,he3,b3,_,q3,cs6,hp3,hq3,hr3,hc4⟩:=s6.ix hF
 obtain rfl:=qao hr3
 exact zdxe hp3 hq3 he3 rfl (zd1 rfl (zdc 2 (hc4.below h.below) rfl (zd1 rfl (dN h fun w4 h=>ri h hF rfl))))
def qbd (y1:qw):Nat→(List Int)→Int→Option ((List Int) × Int)
 | 0,_,_=>none
 | n+1,x2,i2 =>
  bif decide (i2 > 0) then
   (idx y1.Ak i2).bind fun y7 =>
   (idx x2 y7).bind fun y8 =>
   (idx x2 i2).bind fun y9 =>
   (idx x2 y7).bind fun _ =>
   qbd y1 n (setS x2 y7 (W64 (y8+y9))) (W64 (i2-1))
  else
   some (x2,i2)
def qa8 (a_0:qm) (y1:qw) (r2:(List Tplace)) (r3:(List Int)):Nat→(List Int)→Int→Option ((List Int) × Int)
 | 0,_,_=>none
 | n+1,x1,i1 =>
  bif decide (i1<(r3.length:Int)) then
   (idx r3 i1).bind fun y2 =>
   (idx y1.Bc i1).bind fun y3 =>
   (idx x1 y3).bind fun y4 =>
   (idx r2 y2).bind fun y5 =>
   (qeW n (⟨a_0.Ab.Aa,a_0.Ab.Af,a_0.Ab.Ac⟩:qc) (⟨a_0.Ah.Ai⟩:qh) y5).bind fun r4 =>
   (idx x1 y3).bind fun _ =>
   qa8 a_0 y1 r2 r3 n (setS x1 y3 (W64 (y4+r4))) (W64 (i1+1))
  else
   some (x1,i1)
def qcs (n:Nat) (a_0:qm) (a_1:Int):Option (List Int) :=
 (idx a_0.Aj a_1).bind fun y1 =>
 (qfS n y1.Bk).bind fun r1 =>
 (qbf n (⟨a_0.Ab.Aa,a_0.Ab.Af,a_0.Ab.Ac⟩:qc)).bind fun r2 =>
 (qe2 n (⟨a_0.Ab.Aa,a_0.Ab.Af,a_0.Ab.Ac⟩:qc) a_1).bind fun r3 =>
 (qa8 a_0 y1 r2 r3 n r1 0).bind fun o=>match o with
 | (x1,_) =>
  (qbd y1 n x1 (W64 ((r1.length:Int)-1))).bind fun o=>match o with
  | (x2,_) =>
   some x2
theorem qd4 {a_0:qm} {a_1:Int} (ha1:GoT.R w (old w) a_0 cs1) {r:(List Int)} (hF:qcs n a_0 a_1=some r):RetV Tryz.prog 74 [GoT.v qm cs1,.int .i64 a_1] w r:=by
 obtain ⟨p1,k1,p2,k2,p3,k3,p4,k4,p5,k5,rfl,s1,s2,s3,s4,s5⟩:=qaa ha1
 refine zV 74 Tryz.func74 rfl fun h=>zSR (qr h rfl rfl fun w1 bb1 h=>X1 7 0 h rfl ?_)
 obtain ⟨y1,hy1,hF,he1,b1,_,q1,cs2,hp1,hq1,hr1,hc1⟩:=s5.ix hF
 obtain ⟨p6,k6,p7,k7,p8,k8,p9,k9,rfl,s6,s7,s8,s9⟩:=qaU hr1
 refine zxe hp1 hq1 he1 rfl (zc 0 (hc1.below h.below) rfl (qB qb h rfl rfl rfl fun w2 bb2 h=>zs 0 h rfl fun w3 h=>X1 5 0 h rfl (zcL h hF (qi7 ⟨_,_,rfl,(h.oldS s8)⟩) rfl fun r1 w4 S1 p10 k10 h hF=>X1 6 2 h rfl (zcL h hF (qb9 (qai _ (h.oldS s2) (h.oldS s3) (h.oldS s4))) rfl fun r2 w5 S2 p11 k11 h hF=>X1 8 3 h rfl (zcL h hF (qjk (qai _ (h.oldS s2) (h.oldS s3) (h.oldS s4))) rfl fun r3 w6 S3 p12 k12 h hF=>X0 3 rfl ?_)))))
 obtain ⟨o1,hF,hK1⟩:=qe hF
 refine ql (rL (fun m e w'=>∃ (x1:(List Int)) (i1:Int),qa8 a_0 y1 r2 r3 m x1 i1=some o1∧e=[(2,.pointer (some ⟨bb1,0,none⟩)),(5,.pointer (some ⟨bb2,0,none⟩)),(6,.slice p10 r1.length k10),(7,.slice p11 r2.length k11),(25,.slice p12 r3.length k12),(26,.int .i64 (r3.length:Int)),(27,.int .i64 i1)]∧SH w w' [Ch.own S3 (r3:List Int) [.slice p12 r3.length k12],Ch.own S2 (r2:List Tplace) [.slice p11 r2.length k11],Ch.own S1 (x1:List Int) [.slice p10 r1.length k10],Ch.box bb2 (qgi y1 p6 p7 p8 p9 k6 k7 k8 k9) 109,Ch.box bb1 (qaI a_0 p1 p2 p3 p4 p5 k1 k2 k3 k4 k5) 48]) n ⟨_,_,hF,rfl,h⟩ rfl ?_)
 rintro m1 e1 w7 ⟨x1,i1,hF,rfl,h⟩
 rcases m1 with _|m1
 ·cases hF
 refine X0 5 rfl (qg rfl hF ?_ ?_)<;>intro hF
 ·refine X0 6 rfl ?_
  obtain ⟨y2,hy2,hF,he2,b2,_,q2,cs3,hp2,hq2,rfl,hc3⟩:=(h.sl 0 rfl).1.ix hF
  refine zx hp2 hq2 ⟨he2.1,qI he2.2.1 (h.sl 0 rfl).2⟩ rfl (zc 0 hc3 rfl (X0 3 rfl (rA [19] [1,2,3,4] h rfl fun w8 h=>M1 15 [0,1,2,3] 2 (h.pick [1,2,3,4] rfl) rfl ?_)))
  obtain ⟨y3,hy3,hF,he3,b3,_,q3,cs4,hp3,hq3,rfl,hc4⟩:=s9.ix hF
  refine Ae 4 31 hp3 hq3 he3 (h.pick [1,2,3,4] rfl) rfl (Al 5 63 0 hc4 (h.pick [1,2,3,4] rfl) rfl ?_)
  obtain ⟨y4,hy4,hF,he4,b4,_,q4,cs5,hp4,hq4,rfl,hc5⟩:=(h.sl 2 rfl).1.ix hF
  refine Ax 6 127 hp4 hq4 ⟨he4.1,qI he4.2.1 (h.sl 2 rfl).2⟩ (h.pick [1,2,3,4] rfl) rfl (Aw 7 255 (fun w' hw=>qiV qb (qeb (w1:=w) (S1:=fun _=>False) hw 1 rfl hy4 hp4 hq4 rfl) (j:=0) rfl rfl rfl) (h.pick [1,2,3,4] rfl) rfl ?_)
  refine M2 16383 [8,9,10,11,12,13] 3 3 (h.pick [1,2,3,4] rfl) rfl ?_
  obtain ⟨y5,hy5,hF,he5,b5,_,q5,cs6,hp5,hq5,hr8,hc6⟩:=(h.sl 1 rfl).1.ix hF
  obtain rfl:=qdI hr8
  refine Ax 14 32767 hp5 hq5 ⟨he5.1,qI he5.2.1 (h.sl 1 rfl).2⟩ (h.pick [1,2,3,4] rfl) rfl (Aw 15 65535 (fun w' hw=>qiV qb (qeb hw 0 rfl hy5 hp5 hq5 (qfb (w:=w) (S:=fun _=>False) y5)) (j:=0) rfl rfl rfl) (h.pick [1,2,3,4] rfl) rfl ?_)
  refine Ao 16 131071 rfl (zcI h hF (qju (qai _ (h.oldS s2) (h.oldS s3) (h.oldS s4)) (qaV _ (h.oldS s1)) (qfb y5)) rfl fun r4 w9 h hF=>G0 262143 [17] (h.pick [1,2,3,4] rfl) rfl ?_)
  obtain ⟨y6,hy6,hF,he6,b6,_,q6,cs7,hp6,hq6,rfl,hc7⟩:=(h.sl 2 rfl).1.ix hF
  exact Ax 18 524287 hp6 hq6 ⟨he6.1,qI he6.2.1 (h.sl 2 rfl).2⟩ (h.pick [1,2,3,4] rfl) rfl (Ao 19 1048575 rfl (qbK qb 2 0 (W64 (y4+r4)) h rfl hy6 hp6 hq6 rfl hc7 rfl rfl rfl rfl rfl rfl rfl fun w10 h=>qgl (fun hs=>absurd (hs 19 (by decide)) (by decide)) (Ad (X0 5 rfl (rK ⟨_,_,hF,rfl,h⟩ rfl)))))
 refine qq rfl ?_
 obtain rfl:=qa hF;replace hF:=hK1
 refine X0 8 rfl ?_
 obtain ⟨o2,hF,hK2⟩:=qe hF
 refine ql ?_
 replace h:=h.pick [2,3] rfl
 refine rL (fun m e w'=>∃ (x2:(List Int)) (i2:Int),qbd y1 m x2 i2=some o2∧e=[(5,.pointer (some ⟨bb2,0,none⟩)),(6,.slice p10 r1.length k10),(10,.int .i64 i2)]∧SH w w' [Ch.own S1 (x2:List Int) [.slice p10 r1.length k10],Ch.box bb2 (qgi y1 p6 p7 p8 p9 k6 k7 k8 k9) 109]) n ⟨_,_,hF,rfl,h⟩ rfl ?_
 rintro m2 e2 w11 ⟨x2,i2,hF,rfl,h⟩
 rcases m2 with _|m2
 ·cases hF
 refine X0 6 rfl (qg rfl hF ?_ ?_)<;>intro hF
 ·refine zKSB (rA [14] [0,1] h rfl fun w12 h=>M1 15 [0,1,2,3] 1 (h.pick [0,1] rfl) rfl ?_)
  obtain ⟨y7,hy7,hF,he7,b7,_,q7,cs8,hp7,hq7,rfl,hc9⟩:=s6.ix hF
  refine Ae 4 31 hp7 hq7 he7 (h.pick [0,1] rfl) rfl (Al 5 63 0 hc9 (h.pick [0,1] rfl) rfl ?_)
  obtain ⟨y8,hy8,hF,he8,b8,_,q8,cs9,hp8,hq8,rfl,hc10⟩:=(h.sl 0 rfl).1.ix hF
  refine Ax 6 127 hp8 hq8 ⟨he8.1,qI he8.2.1 (h.sl 0 rfl).2⟩ (h.pick [0,1] rfl) rfl (Aw 7 255 (fun w' hw=>qiV qb (qeb (w1:=w) (S1:=fun _=>False) hw 0 rfl hy8 hp8 hq8 rfl) (j:=0) rfl rfl rfl) (h.pick [0,1] rfl) rfl ?_)
  refine M0 1023 [8,9] (h.pick [0,1] rfl) rfl ?_
  obtain ⟨y9,hy9,hF,he9,b9,_,q9,cs10,hp9,hq9,rfl,hc11⟩:=(h.sl 0 rfl).1.ix hF
  refine Ax 10 2047 hp9 hq9 ⟨he9.1,qI he9.2.1 (h.sl 0 rfl).2⟩ (h.pick [0,1] rfl) rfl (Aw 11 4095 (fun w' hw=>qiV qb (qeb (w1:=w) (S1:=fun _=>False) hw 0 rfl hy9 hp9 hq9 rfl) (j:=0) rfl rfl rfl) (h.pick [0,1] rfl) rfl ?_)
  refine M0 8191 [12] (h.pick [0,1] rfl) rfl ?_
  obtain ⟨y10,hy10,hF,he10,b10,_,q10,cs11,hp10,hq10,rfl,hc12⟩:=(h.sl 0 rfl).1.ix hF
  exact Ax 13 16383 hp10 hq10 ⟨he10.1,qI he10.2.1 (h.sl 0 rfl).2⟩ (h.pick [0,1] rfl) rfl (Ao 14 32767 rfl (qbK qb 0 0 (W64 (y8+y9)) h rfl hy10 hp10 hq10 rfl hc12 rfl rfl rfl rfl rfl rfl rfl fun w13 h=>qgl (fun hs=>absurd (hs 14 (by decide)) (by decide)) (Ad (X0 6 rfl (rK ⟨_,_,hF,rfl,h⟩ rfl)))))
 refine qq rfl ?_
 obtain rfl:=qa hF;replace hF:=hK2
 refine X0 5 rfl ?_
 obtain rfl:=qa hF
 exact rO 0 h rfl ⟨rfl,trivial⟩
def qa0 (y1:qw) (r1:(List Int)) (x1:(List Int)):Nat→(List Int)→Int→Option ((List Int) × Int)
 | 0,_,_=>none
 | n+1,x2,i1 =>
  bif decide (i1<(x1.length:Int)) then
   (idx y1.Ak i1).bind fun y2 =>
   (idx x2 y2).bind fun y3 =>
   (idx y1.Bm i1).bind fun y4 =>
   (idx r1 i1).bind fun y5 =>
   (idx x2 i1).bind fun _ =>
   qa0 y1 r1 x1 n (setS x2 i1 (W64 (y3+(W64 (y4*y5))))) (W64 (i1+1))
  else
   some (x2,i1)
def qeV (n:Nat) (b:qm) (net:Int):Option (List Int) :=
 (idx b.Aj net).bind fun y1 =>
 (qcs n b net).bind fun r1 =>
 (mkS (r1.length:Int) (0:Int)).bind fun x1 =>
 (qa0 y1 r1 x1 n x1 1).bind fun o=>match o with
 | (x2,_) =>
  some x2
theorem qij {b:qm} {net:Int} (ha1:GoT.R w (old w) b cs1) {r:(List Int)} (hF:qeV n b net=some r):RetV Tryz.prog 121 [GoT.v qm cs1,.int .i64 net] w r:=by
 obtain ⟨p1,k1,p2,k2,p3,k3,p4,k4,p5,k5,rfl,s1,s2,s3,s4,s5⟩:=qaa ha1
 refine zV 49 Tryz.func121 rfl fun h=>zSR (qr h rfl rfl fun w1 bb1 h=>X0 3 rfl (rA [] [0] h rfl fun w2 h=>M1 7 [0,1,2] 0 (h.pick [0] rfl) rfl ?_))
 obtain ⟨y1,hy1,hF,he1,b1,_,q1,cs2,hp1,hq1,hr1,hc1⟩:=s5.ix hF
 obtain ⟨p6,k6,p7,k7,p8,k8,p9,k9,rfl,s6,s7,s8,s9⟩:=qaU hr1
 refine Ae 3 15 hp1 hq1 he1 (h.pick [0] rfl) rfl (Al 4 31 0 hc1 (h.pick [0] rfl) rfl (M1 127 [5,6] 0 (h.pick [0] rfl) rfl ?_))
 obtain ⟨r1,hr2,hF⟩:=qe hF
 refine qpB (fun e w'=>∃ (bb6:Nat) (S5:Nat→Prop) (p14:Option Addr) (k14:Nat),e=[(5,.pointer (some ⟨bb6,0,none⟩)),(6,.slice p14 r1.length k14)]∧SH w w' [Ch.box bb6 (qgi y1 p6 p7 p8 p9 k6 k7 k8 k9) 109,Ch.own S5 (r1:List Int) [.slice p14 r1.length k14],Ch.box bb1 (qaI b p1 p2 p3 p4 p5 k1 k2 k3 k4 k5) 48]) 0 (bits 11 2047) ?_ ?_
 ·intro K
  refine At 7 8 255 383 rfl ?_ ?_
  ·exact qnT r1 h (cB 74 rfl) (qd4 (h.old ha1) hr2) rfl rfl rfl rfl fun w10 S4 p13 k13 h=>Ag (h.pick [1] rfl) (Ao 8 511 rfl (qB qb h rfl rfl rfl fun w11 bb5 h=>Ag (h.pick [2] rfl) (Ao 9 1023 rfl (zs 0 h rfl fun w12 h=>G0 2047 [10] (h.pick [2] rfl) rfl (qpN [(5,_),(6,_)] ⟨rfl,rfl,trivial⟩ (K _ _ ⟨_,_,_,_,rfl,h⟩))))))
  refine qB qb h rfl rfl rfl fun w10 bb5 h=>Ag (h.pick [1] rfl) (Ao 7 511 rfl (qnT r1 h (cB 74 rfl) (qd4 (h.old ha1) hr2) rfl rfl rfl rfl fun w11 S4 p13 k13 h=>Ag (h.pick [2] rfl) (Ao 9 1023 rfl (zs 1 h rfl fun w12 h=>G0 2047 [10] (h.pick [2] rfl) rfl ?_))))
  replace h:=h.pick [1,0,2] rfl
  exact qpN [(5,_),(6,_)] ⟨rfl,rfl,trivial⟩ (K _ _ ⟨_,_,_,_,rfl,h⟩)
 rintro e2 w13 ⟨bb6,S5,p14,k14,rfl,h⟩
 refine Ad (X0 4 rfl ?_)
 obtain ⟨x1,hx1,hF⟩:=qe hF
 obtain ⟨g1,g2,hx1⟩:=qcM hx1
 refine qdY qb Int h rfl rfl rfl rfl rfl rfl rfl rfl rfl g1 g2 hx1 rfl fun w14 S6 p15 h=>X0 7 rfl ?_
 obtain ⟨o1,hF,hK1⟩:=qe hF
 refine ql ?_
 replace h:=h.pick [0,1,2] rfl
 refine rL (fun m e w'=>∃ (x2:(List Int)) (i1:Int),qa0 y1 r1 x1 m x2 i1=some o1∧e=[(5,.pointer (some ⟨bb6,0,none⟩)),(6,.slice p14 r1.length k14),(7,.slice p15 x1.length x1.length),(8,.int .i64 i1)]∧SH w w' [Ch.own S6 (x2:List Int) [.slice p15 x1.length x1.length],Ch.box bb6 (qgi y1 p6 p7 p8 p9 k6 k7 k8 k9) 109,Ch.own S5 (r1:List Int) [.slice p14 r1.length k14]]) n ⟨_,_,hF,rfl,h⟩ rfl ?_
 rintro m1 e3 w15 ⟨x2,i1,hF,rfl,h⟩
 rcases m1 with _|m1
 ·cases hF
 refine X0 8 rfl (qg rfl hF ?_ ?_)<;>intro hF
 ·refine zKSB (rA [22] [0,1,2] h rfl fun w16 h=>M1 63 [0,1,2,3,4,5] 1 (h.pick [0,1,2] rfl) rfl ?_)
  obtain ⟨y2,hy2,hF,he2,b2,_,q2,cs3,hp2,hq2,rfl,hc3⟩:=s6.ix hF
  refine Ae 6 127 hp2 hq2 he2 (h.pick [0,1,2] rfl) rfl (Al 7 255 0 hc3 (h.pick [0,1,2] rfl) rfl ?_)
  obtain ⟨y3,hy3,hF,he3,b3,_,q3,cs4,hp3,hq3,rfl,hc4⟩:=(h.sl 0 rfl).1.ix hF
  refine Ax 8 511 hp3 hq3 ⟨he3.1,qI he3.2.1 (h.sl 0 rfl).2⟩ (h.pick [0,1,2] rfl) rfl (Aw 9 1023 (fun w' hw=>qiV qb (qeb (w1:=w) (S1:=fun _=>False) hw 0 rfl hy3 hp3 hq3 rfl) (j:=0) rfl rfl rfl) (h.pick [0,1,2] rfl) rfl ?_)
  refine M1 8191 [10,11,12] 1 (h.pick [0,1,2] rfl) rfl ?_
  obtain ⟨y4,hy4,hF,he4,b4,_,q4,cs5,hp4,hq4,rfl,hc5⟩:=s7.ix hF
  refine Ae 13 16383 hp4 hq4 he4 (h.pick [0,1,2] rfl) rfl (Al 14 32767 0 hc5 (h.pick [0,1,2] rfl) rfl (M0 131071 [15,16] (h.pick [0,1,2] rfl) rfl ?_))
  obtain ⟨y5,hy5,hF,he5,b5,_,q5,cs6,hp5,hq5,rfl,hc6⟩:=(h.sl 2 rfl).1.ix hF
  refine Ax 17 262143 hp5 hq5 ⟨he5.1,qI he5.2.1 (h.sl 2 rfl).2⟩ (h.pick [0,1,2] rfl) rfl (Aw 18 524287 (fun w' hw=>qiV qb (qeb (w1:=w) (S1:=fun _=>False) hw 2 rfl hy5 hp5 hq5 rfl) (j:=0) rfl rfl rfl) (h.pick [0,1,2] rfl) rfl ?_)
  refine M0 2097151 [19,20] (h.pick [0,1,2] rfl) rfl ?_
  obtain ⟨y6,hy6,hF,he6,b6,_,q6,cs7,hp6,hq6,rfl,hc7⟩:=(h.sl 0 rfl).1.ix hF
  exact Ax 21 4194303 hp6 hq6 ⟨he6.1,qI he6.2.1 (h.sl 0 rfl).2⟩ (h.pick [0,1,2] rfl) rfl (Ao 22 8388607 rfl (qbK qb 0 0 (W64 (y3+(W64 (y4*y5)))) h rfl hy6 hp6 hq6 rfl hc7 rfl rfl rfl rfl rfl rfl rfl fun w17 h=>qgl (fun hs=>absurd (hs 22 (by decide)) (by decide)) (Ad (X0 6 rfl (rK ⟨_,_,hF,rfl,h⟩ rfl)))))
 refine qq rfl ?_
 obtain rfl:=qa hF;replace hF:=hK1
 refine X0 5 rfl ?_
 obtain rfl:=qa hF
 exact rO 0 h rfl ⟨rfl,trivial⟩
def qaR (r1:(List Int)) (y1:qw):Nat→(List Int)→Int→Option ((List Int) × Int)
 | 0,_,_=>none
 | n+1,x1,i1 =>
  bif decide (i1<(y1.Bc.length:Int)) then
   (idx y1.Bc i1).bind fun y2 =>
   (idx r1 y2).bind fun y3 =>
   (appS x1 ([y3]:List Int)).bind fun x2 =>
   qaR r1 y1 n x2 (W64 (i1+1))
  else
   some (x1,i1)
def qcW (n:Nat) (b:qm) (net:Int):Option (List Int) :=
 (qeV n b net).bind fun r1 =>
 (idx b.Aj net).bind fun y1 =>
 (qaR r1 y1 n ([]:List Int) 0).bind fun o=>match o with
 | (x1,_) =>
  some x1
theorem qh3 {b:qm} {net:Int} (ha1:GoT.R w (old w) b cs1) {r:(List Int)} (hF:qcW n b net=some r):RetV Tryz.prog 75 [GoT.v qm cs1,.int .i64 net] w r:=by
 obtain ⟨p1,k1,p2,k2,p3,k3,p4,k4,p5,k5,rfl,s1,s2,s3,s4,s5⟩:=qaa ha1
 refine zV 32 Tryz.func75 rfl fun h=>zSR (qr h rfl rfl fun w1 bb1 h=>X1 6 0 h rfl (zcL h hF (qij (h.old ha1)) rfl fun r1 w2 S1 p6 k6 h hF=>X1 12 1 h rfl ?_))
 obtain ⟨y1,hy1,hF,he1,b1,_,q1,cs2,hp1,hq1,hr2,hc1⟩:=s5.ix hF
 obtain ⟨p7,k7,p8,k8,p9,k9,p10,k10,rfl,s6,s7,s8,s9⟩:=qaU hr2
 refine zxe hp1 hq1 he1 rfl (zp1 rfl (zc 3 (hc1.below h.below) rfl (X0 3 rfl ?_)))
 replace h:=h.nil (α:=Int)
 obtain ⟨o1,hF,hK1⟩:=qe hF
 refine ql ?_
 replace h:=h.pick [0,1] rfl
 refine rL (fun m e w'=>∃ (S2:Nat→Prop) (p11:Option Addr) (ln1:Nat) (k11:Nat) (x1:(List Int)) (i1:Int),qaR r1 y1 m x1 i1=some o1∧e=[(5,.slice p6 r1.length k6),(6,.slice p11 ln1 k11),(17,.slice p10 y1.Bc.length k10),(18,.int .i64 (y1.Bc.length:Int)),(19,.int .i64 i1)]∧SH w w' [Ch.own S2 (x1:List Int) [.slice p11 ln1 k11],Ch.own S1 (r1:List Int) [.slice p6 r1.length k6]]) n ⟨_,_,_,_,_,_,hF,rfl,h⟩ rfl ?_
 rintro m1 e1 w3 ⟨S2,p11,ln1,k11,x1,i1,hF,rfl,h⟩
 obtain rfl:=(h.sl 0 rfl).2
 rcases m1 with _|m1
 ·cases hF
 refine X0 5 rfl (qg rfl hF ?_ ?_)<;>intro hF
 ·refine zKSBSR ?_
  obtain ⟨y2,hy2,hF,he2,b2,_,q2,cs3,hp2,hq2,rfl,hc3⟩:=s9.ix hF
  refine zxe hp2 hq2 he2 rfl (zc 0 (hc3.below h.below) rfl (X0 6 rfl ?_))
  obtain ⟨y3,hy3,hF,he3,b3,_,q3,cs4,hp3,hq3,rfl,hc4⟩:=(h.sl 1 rfl).1.ix hF
  refine zx hp3 hq3 ⟨he3.1,qI he3.2.1 (h.sl 1 rfl).2⟩ rfl (zc 0 hc4 rfl (qR qb [.tmp 27] _ ([y3]:List Int) h rfl rfl rfl rfl rfl rfl rfl rfl rfl ⟨rfl,trivial⟩ rfl fun w4 p12 S3 h=>?_))
  obtain ⟨x2,hx1,hF⟩:=qe hF
  obtain ⟨g1,hx1⟩:=qam hx1
  refine qcG qb 1 h rfl (h.sl 0 rfl).1 (h.sl 0 rfl).2 rfl rfl rfl rfl rfl rfl rfl rfl rfl g1 hx1 rfl fun w5 p13 k12 S4 h=>X0 7 rfl ?_
  replace h:=h.pick [1,2] rfl
  exact rK ⟨_,_,_,_,_,_,hF,rfl,h⟩ rfl
 refine qq rfl ?_
 obtain rfl:=qa hF;replace hF:=hK1
 refine X0 5 rfl ?_
 obtain rfl:=qa hF
 exact rO 0 h rfl ⟨rfl,trivial⟩
def qcH (x6:(List Int)) (i4:Int) (i5:Int) (y7:Int):Nat→(List qaJ)→Int→Option ((List qaJ) × Int)
 | 0,_,_=>none
 | n+1,x14,i6 =>
  bif decide (i6<2) then
   (idx x6 i4).bind fun y8 =>
   (appS x14 ([(⟨W64 ((W64 (2*y8))+i6),W64 ((W64 (2*y7))+i6),2,i5⟩:qaJ)]:List qaJ)).bind fun x15 =>
   qcH x6 i4 i5 y7 n x15 (W64 (i6+1))
  else
   some (x14,i6)
def qcI (x6:(List Int)) (i4:Int) (y6:(List Int)):Nat→(List qaJ)→Int→Option ((List qaJ) × Int)
 | 0,_,_=>none
 | n+1,x13,i5 =>
  bif decide (i5<(y6.length:Int)) then
   (idx y6 i5).bind fun y7 =>
   (qcH x6 i4 i5 y7 n x13 0).bind fun o=>match o with
   | (x14,_) =>
    qcI x6 i4 y6 n x14 (W64 (i5+1))
  else
   some (x13,i5)
def qdD (a_0:qm) (x5:(List (List Int))) (x6:(List Int)):Nat→(List (List Int))→(List Int)→(List qaJ)→Int→Option ((List (List Int)) × (List Int) × (List qaJ) × Int)
 | 0,_,_,_,_=>none
 | n+1,x8,x9,x10,i4 =>
  bif decide (i4<(a_0.Aj.length:Int)) then
   (qcs n a_0 i4).bind fun r4 =>
   (idx r4 0).bind fun y5 =>
   (appS x9 ([y5]:List Int)).bind fun x11 =>
   (qcW n a_0 i4).bind fun r5 =>
   (appS x8 ([r5]:List (List Int))).bind fun x12 =>
   (idx x5 i4).bind fun y6 =>
   (qcI x6 i4 y6 n x10 0).bind fun o=>match o with
   | (x13,_) =>
    qdD a_0 x5 x6 n x12 x11 x13 (W64 (i4+1))
  else
   some (x8,x9,x10,i4)
def qb2 (r1:(List Tplace)):Nat→(List (List Int))→(List Int)→Int→Option ((List (List Int)) × (List Int) × Int)
 | 0,_,_,_=>none
 | n+1,x5,x6,i3 =>
  bif decide (i3<(r1.length:Int)) then
   (idx r1 i3).bind fun y2 =>
   bif y2.drives then
    (idx x6 y2.net).bind fun _ =>
    qb2 r1 n x5 (setS x6 y2.net i3) (W64 (i3+1))
   else
    (idx x5 y2.net).bind fun y4 =>
    (appS y4 ([i3]:List Int)).bind fun x7 =>
    qb2 r1 n (setS x5 y2.net x7) x6 (W64 (i3+1))
  else
   some (x5,x6,i3)
def qdx (a_0:qm):Nat→(List qaJ)→Int→Int→Option ((List qaJ) × Int × Int)
 | 0,_,_,_=>none
 | n+1,x1,i1,i2 =>
  bif decide (i2<(a_0.Ab.Aa.length:Int)) then
   (idx a_0.Ab.Aa i2).bind fun y1 =>
   (qdG n a_0 y1 i1).bind fun r2 =>
   (appS x1 r2).bind fun x2 =>
   (qaN n y1.Af).bind fun r3 =>
   qdx a_0 n x2 (W64 (i1+r3)) (W64 (i2+1))
  else
   some (x1,i1,i2)
def qhy (n:Nat) (a_0:qm):Option (Option Tview) :=
 (qbf n (⟨a_0.Ab.Aa,a_0.Ab.Af,a_0.Ab.Ac⟩:qc)).bind fun r1 =>
 (qdx a_0 n ([]:List qaJ) 0 0).bind fun o=>match o with
 | (x1,_,_) =>
  (mkS (a_0.Aj.length:Int) (0:Int)).bind fun x3 =>
  (mkS (a_0.Aj.length:Int) ([]:(List Int))).bind fun x4 =>
  (qb2 r1 n x4 x3 0).bind fun o=>match o with
  | (x5,x6,_) =>
   (qdD a_0 x5 x6 n ([]:List (List Int)) ([]:List Int) x1 0).bind fun o=>match o with
   | (x8,x9,x10,_) =>
    some (some (⟨(⟨(⟨a_0.Ah.Ai⟩:qh),(⟨a_0.Ab.Aa,a_0.Ab.Af,a_0.Ab.Ac⟩:qc),a_0.Aj⟩:qm),r1,x10,x9,x8,[]⟩:Tview))
theorem qlB {A:Nat→Prop} (hA:∀ b,A b→old w b) {a_0:qm} (ha1:GoT.R w A a_0 cs1) {r:(Option Tview)} (hF:qhy n a_0=some r):RetG Tryz.prog 37 [GoT.v qm cs1] w A r:=by
 obtain ⟨p1,k1,p2,k2,p3,k3,p4,k4,p5,k5,rfl,s1,s2,s3,s4,s5⟩:=qaa ha1
 have hg:=Rg.start hA
 refine qoc Tryz.func37 rfl (m:=156) rfl rfl (fun h=>?_)
 refine zSR (qr h rfl rfl fun w1 bb1 h=>X0 3 rfl (rA [] [0] h rfl fun w2 h=>M2 7 [0,1,2] 0 0 (h.pick [0] rfl) rfl (Ao 3 15 rfl (zcL h hF (qb9 (qai _ (h.oldS (s2.mono hg.old)) (h.oldS (s3.mono hg.old)) (h.oldS (s4.mono hg.old)))) rfl fun r1 w3 S1 p6 k6 h hF=>Ag (h.pick [1] rfl) (Aw 4 31 (fun w' hw=>qb6 qb [0,1] [.tmp 15,.tmp 18] rfl rfl rfl rfl rfl rfl rfl rfl) (h.pick [1] rfl) rfl ?_)))))
 refine Ao 5 63 rfl (qr h rfl rfl fun w4 bb2 h=>G0 127 [6] (h.pick [2] rfl) rfl (Ad (X1 13 2 h rfl ?_)))
 replace h:=h.nil (α:=qaJ)
 obtain ⟨o1,hF,hK1⟩:=qe hF
 refine ql (rL (fun m e w'=>∃ (S2:Nat→Prop) (p7:Option Addr) (ln1:Nat) (k7:Nat) (x1:(List qaJ)) (i1:Int) (i2:Int),qdx a_0 m x1 i1 i2=some o1∧e=[(1,.pointer (some ⟨bb1,0,none⟩)),(3,.pointer (some ⟨bb2,0,none⟩)),(4,.int .i64 i1),(23,.slice p2 a_0.Ab.Aa.length k2),(24,.int .i64 (a_0.Ab.Aa.length:Int)),(25,.int .i64 i2)]∧SH w w' [Ch.own S2 (x1:List qaJ) [.slice p7 ln1 k7],Ch.box bb2 [.slice p1 a_0.Ah.Ai.length k1,.slice p2 a_0.Ab.Aa.length k2,.slice p3 a_0.Ab.Af.length k3,.slice p4 a_0.Ab.Ac.length k4,.slice p5 a_0.Aj.length k5,.slice p6 r1.length k6,.slice p7 ln1 k7,.slice none 0 0,.slice none 0 0,.slice none 0 0] 119,Ch.own S1 (r1:List Tplace) [.slice p6 r1.length k6],Ch.box bb1 (qaI a_0 p1 p2 p3 p4 p5 k1 k2 k3 k4 k5) 48]) n ⟨_,_,_,_,_,_,_,hF,rfl,h⟩ rfl ?_)
 rintro m1 e1 w5 ⟨S2,p7,ln1,k7,x1,i1,i2,hF,rfl,h⟩
 obtain rfl:=(h.sl 0 rfl).2
 rcases m1 with _|m1
 ·cases hF
 refine X0 5 rfl (qg rfl hF ?_ ?_)<;>intro hF
 ·refine zKSBSR ?_
  obtain ⟨y1,hy1,hF,he1,b1,_,q1,cs2,hp1,hq1,hr2,hc2⟩:=s2.ix hF
  obtain ⟨p8,k8,rfl,s6⟩:=qG hr2
  refine zxe hp1 hq1 he1 rfl (zc 0 (hc2.below h.below) rfl (qB qb h rfl rfl rfl fun w6 bb3 h=>zs 0 h rfl fun w7 h=>zNS (rA [12] [0,2,4] h rfl fun w8 h=>M3 255 [0,1,2,3,4,5,6,7] 1 2 0 (h.pick [0,2,4] rfl) rfl (Ao 8 511 rfl (zcL h hF (qiD (h.old (GoT.mono ha1 hg.old)) (qeP y1 (h.oldS (s6.mono hg.old)))) rfl fun r2 w9 S3 p9 k9 h hF=>Ag (h.pick [1,3,5] rfl) (Ao 9 1023 rfl ?_))))))
  obtain ⟨x2,hx1,hF⟩:=qe hF
  obtain ⟨g1,hx1⟩:=qam hx1
  refine qcG qb 2 h rfl (h.sl 0 rfl).1 (h.sl 0 rfl).2 rfl rfl rfl rfl rfl rfl rfl rfl rfl g1 hx1 rfl fun w10 p10 k10 S4 h=>Ag (h.pick [1,3,5] rfl) (Ao 10 2047 rfl (zp1 rfl (G0 4095 [11] (h.pick [1,3,5] rfl) rfl (Ao 12 8191 rfl (zs 3 h rfl fun w11 h=>qgl (fun hs=>absurd (hs 12 (by decide)) (by decide)) (Ad (X1 4 1 h rfl (zcI h hF (qbH ⟨_,_,rfl,(h.oldS (s6.mono hg.old))⟩) rfl fun r3 w12 h hF=>X0 8 rfl ?_))))))))
  replace h:=h.pick [2,3,4,5] rfl
  exact rK ⟨_,_,_,_,_,_,_,hF,rfl,h⟩ rfl
 refine qq rfl ?_
 obtain rfl:=qa hF;replace hF:=hK1
 refine X1 5 3 h rfl ?_
 obtain ⟨x3,hx2,hF⟩:=qe hF
 obtain ⟨g2,g3,hx2⟩:=qcM hx2
 refine qdY qb Int h rfl rfl rfl rfl rfl rfl rfl rfl rfl g2 g3 hx2 rfl fun w13 S5 p11 h=>X1 7 4 h rfl ?_
 obtain ⟨x4,hx3,hF⟩:=qe hF
 obtain ⟨g4,g5,hx3⟩:=qcM hx3
 refine qdY qb (List Int) h rfl rfl rfl rfl rfl rfl rfl rfl rfl g4 g5 hx3 rfl fun w14 S6 p12 h=>X1 12 3 h rfl ?_
 obtain ⟨o2,hF,hK2⟩:=qe hF
 refine ql (rL (fun m e w'=>∃ (S7:Nat→Prop) (x5:(List (List Int))) (x6:(List Int)) (i3:Int),qb2 r1 m x5 x6 i3=some o2∧e=[(1,.pointer (some ⟨bb1,0,none⟩)),(3,.pointer (some ⟨bb2,0,none⟩)),(7,.slice p11 x3.length x3.length),(8,.slice p12 x4.length x4.length),(58,.slice p6 r1.length k6),(59,.int .i64 (r1.length:Int)),(60,.int .i64 i3)]∧SH w w' [Ch.own S7 (x5:List (List Int)) [.slice p12 x4.length x4.length],Ch.own S5 (x6:List Int) [.slice p11 x3.length x3.length],Ch.own S2 (x1:List qaJ) [.slice p7 x1.length k7],Ch.box bb2 [.slice p1 a_0.Ah.Ai.length k1,.slice p2 a_0.Ab.Aa.length k2,.slice p3 a_0.Ab.Af.length k3,.slice p4 a_0.Ab.Ac.length k4,.slice p5 a_0.Aj.length k5,.slice p6 r1.length k6,.slice p7 x1.length k7,.slice none 0 0,.slice none 0 0,.slice none 0 0] 119,Ch.own S1 (r1:List Tplace) [.slice p6 r1.length k6],Ch.box bb1 (qaI a_0 p1 p2 p3 p4 p5 k1 k2 k3 k4 k5) 48]) n ⟨_,_,_,_,hF,rfl,h⟩ rfl ?_)
 rintro m2 e2 w15 ⟨S7,x5,x6,i3,hF,rfl,h⟩
 rcases m2 with _|m2
 ·cases hF
 refine X0 5 rfl (qg rfl hF ?_ ?_)<;>intro hF
 ·refine X0 6 rfl ?_
  obtain ⟨y2,hy2,hF,he2,b2,_,q2,cs3,hp2,hq2,hr5,hc4⟩:=(h.sl 4 rfl).1.ix hF
  obtain rfl:=qdI hr5
  refine zx hp2 hq2 ⟨he2.1,qI he2.2.1 (h.sl 4 rfl).2⟩ rfl (zc 0 hc4 rfl (qB qb h rfl rfl rfl fun w16 bb4 h=>zp1 rfl (zs 0 h rfl fun w17 h=>X1 6 0 h rfl (qg rfl hF ?_ ?_))))<;>intro hF
  ·refine X1 5 0 h rfl ?_
   obtain ⟨y3,hy3,hF,he3,b3,_,q3,cs4,hp3,hq3,rfl,hc6⟩:=(h.sl 2 rfl).1.ix hF
   refine zx hp3 hq3 ⟨he3.1,qI he3.2.1 (h.sl 2 rfl).2⟩ rfl (qbK qb 2 0 i3 h rfl hy3 hp3 hq3 rfl hc6 rfl rfl rfl rfl rfl rfl rfl fun w18 h=>X0 6 rfl ?_)
   replace h:=h.pick [1,2,3,4,5,6] rfl
   exact rK ⟨_,_,_,_,hF,rfl,h⟩ rfl
  obtain ⟨y4,hy4,hF⟩:=qe hF
  have he4:=qaX hy4
  replace h:=h.pick [1,0,2,3,4,5,6] rfl
  obtain ⟨S8,S9,cs5,h⟩:=h.take hy4
  obtain ⟨p13,k11,rfl,-⟩:=h.own 0 rfl
  refine rA [12] [1,2] h rfl fun w19 h=>M2 63 [0,1,2,3,4,5] 1 1 (h.pick [1,2] rfl) rfl ?_
  obtain ⟨b4,hp4,-,-,hl2⟩:=h.holeAt 1 rfl
  obtain ⟨q4,hq4⟩:∃ q,q=0+(y2.net).toNat*GoT.k (List Int):=⟨_,rfl⟩
  refine Ax 6 127 hp4 hq4 ⟨he4.1,qI he4.2.1 hl2⟩ (h.pick [1,2] rfl) rfl (Aw 7 255 (fun w' hw=>qiV qb (qbL hw 0 rfl hp4 hq4) (j:=0) rfl rfl rfl) (h.pick [1,2] rfl) rfl ?_)
  refine M0 511 [8] (h.pick [1,2] rfl) rfl (Ao 9 1023 rfl (qR qb [.tmp 80] _ ([i3]:List Int) h rfl rfl rfl rfl rfl rfl rfl rfl rfl ⟨rfl,trivial⟩ rfl fun w20 p14 S10 h=>Ag (h.pick [2,3] rfl) (Ao 10 2047 rfl ?_)))
  obtain ⟨x7,hx4,hF⟩:=qe hF
  obtain ⟨g6,hx4⟩:=qam hx4
  refine qcG qb 1 h rfl (h.sl 0 rfl).1 (h.sl 0 rfl).2 rfl rfl rfl rfl rfl rfl rfl rfl rfl g6 hx4 rfl fun w21 p15 k12 S11 h=>Ag (h.pick [2,3] rfl) ?_
  obtain ⟨b5,hp5,-,-,hl4⟩:=h.holeAt 2 rfl
  obtain ⟨q5,hq5⟩:∃ q,q=0+(y2.net).toNat*GoT.k (List Int):=⟨_,rfl⟩
  refine Ax 11 4095 hp5 hq5 ⟨he4.1,qI he4.2.1 hl4⟩ (h.pick [2,3] rfl) rfl (Ao 12 8191 rfl (qe9 qb 2 0 h rfl hp5 hq5 rfl rfl rfl rfl rfl rfl fun w22 h=>?_))
  replace h:SH _ _ [Ch.own S10 (([i3]:List Int):List Int) [.slice p14 1 1],Ch.own S11 (x7:List Int) [.slice p15 x7.length k12],Ch.hole S9 (x5:List (List Int)) p12 x4.length x4.length (y2.net).toNat [.slice p15 x7.length k12],Ch.box bb4 (qmi y2) 115,Ch.own S5 (x6:List Int) [.slice p11 x3.length x3.length],Ch.own S2 (x1:List qaJ) [.slice p7 x1.length k7],Ch.box bb2 [.slice p1 a_0.Ah.Ai.length k1,.slice p2 a_0.Ab.Aa.length k2,.slice p3 a_0.Ab.Af.length k3,.slice p4 a_0.Ab.Ac.length k4,.slice p5 a_0.Aj.length k5,.slice p6 r1.length k6,.slice p7 x1.length k7,.slice none 0 0,.slice none 0 0,.slice none 0 0] 119,Ch.own S1 (r1:List Tplace) [.slice p6 r1.length k6],Ch.box bb1 (qaI a_0 p1 p2 p3 p4 p5 k1 k2 k3 k4 k5) 48]:=h
  refine qgl (fun hs=>absurd (hs 12 (by decide)) (by decide)) (Ad (X0 5 rfl ?_))
  replace h:=h.pick [1,2,0,3,4,5,6,7,8] rfl
  replace h:=h.put
  obtain ⟨S12,h⟩:=qkT (S:=_) h
  replace h:=h.pick [0,3,4,5,6,7] rfl
  exact rK ⟨_,_,_,_,hF,rfl,h⟩ rfl
 refine qq rfl ?_
 obtain rfl:=qa hF;replace hF:=hK2
 refine X1 8 5 h rfl ?_
 replace h:=h.nil (α:=Int)
 replace h:=h.nil (α:=(List Int))
 obtain ⟨o3,hF,hK3⟩:=qe hF
 refine ql (rL (fun m e w'=>∃ (S13:Nat→Prop) (p16:Option Addr) (ln2:Nat) (k13:Nat) (x8:(List (List Int))) (S14:Nat→Prop) (p17:Option Addr) (ln3:Nat) (k14:Nat) (x9:(List Int)) (S15:Nat→Prop) (p18:Option Addr) (ln4:Nat) (k15:Nat) (x10:(List qaJ)) (i4:Int),qdD a_0 x5 x6 m x8 x9 x10 i4=some o3∧e=[(1,.pointer (some ⟨bb1,0,none⟩)),(3,.pointer (some ⟨bb2,0,none⟩)),(7,.slice p11 x3.length x3.length),(8,.slice p12 x4.length x4.length),(87,.int .i64 (a_0.Aj.length:Int)),(88,.int .i64 i4)]∧SH w w' [Ch.own S13 (x8:List (List Int)) [.slice p16 ln2 k13],Ch.own S14 (x9:List Int) [.slice p17 ln3 k14],Ch.own S7 (x5:List (List Int)) [.slice p12 x4.length x4.length],Ch.own S5 (x6:List Int) [.slice p11 x3.length x3.length],Ch.own S15 (x10:List qaJ) [.slice p18 ln4 k15],Ch.box bb2 [.slice p1 a_0.Ah.Ai.length k1,.slice p2 a_0.Ab.Aa.length k2,.slice p3 a_0.Ab.Af.length k3,.slice p4 a_0.Ab.Ac.length k4,.slice p5 a_0.Aj.length k5,.slice p6 r1.length k6,.slice p18 ln4 k15,.slice p17 ln3 k14,.slice p16 ln2 k13,.slice none 0 0] 119,Ch.own S1 (r1:List Tplace) [.slice p6 r1.length k6],Ch.box bb1 (qaI a_0 p1 p2 p3 p4 p5 k1 k2 k3 k4 k5) 48]) n ⟨_,_,_,_,_,_,_,_,_,_,_,_,_,_,_,_,hF,rfl,h⟩ rfl ?_)
 rintro m3 e3 w23 ⟨S13,p16,ln2,k13,x8,S14,p17,ln3,k14,x9,S15,p18,ln4,k15,x10,i4,hF,rfl,h⟩
 obtain rfl:=(h.sl 0 rfl).2
 obtain rfl:=(h.sl 1 rfl).2
 obtain rfl:=(h.sl 4 rfl).2
 rcases m3 with _|m3
 ·cases hF
 refine X0 5 rfl (qg rfl hF ?_ ?_)<;>intro hF
 ·refine X0 9 rfl (rA [14] [5,7] h rfl fun w24 h=>M2 127 [0,1,2,3,4,5,6] 0 1 (h.pick [5,7] rfl) rfl (Ao 7 255 rfl (zcL h hF (qd4 (h.old (GoT.mono ha1 hg.old))) rfl fun r4 w25 S16 p19 k16 h hF=>Ag (h.pick [6,8] rfl) ?_)))
  obtain ⟨y5,hy5,hF,he5,b6,_,q6,cs6,hp6,hq6,rfl,hc8⟩:=(h.sl 0 rfl).1.ix hF
  refine Ax 8 511 hp6 hq6 ⟨he5.1,qI he5.2.1 (h.sl 0 rfl).2⟩ (h.pick [6,8] rfl) rfl (Ao 9 1023 rfl (zc 0 hc8 rfl (Ag (h.pick [6,8] rfl) (Ao 10 2047 rfl (qR qb [.tmp 100] _ ([y5]:List Int) h rfl rfl rfl rfl rfl rfl rfl rfl rfl ⟨rfl,trivial⟩ rfl fun w26 p20 S17 h=>Ag (h.pick [7,9] rfl) (Ao 11 4095 rfl ?_))))))
  obtain ⟨x11,hx5,hF⟩:=qe hF
  obtain ⟨g7,hx5⟩:=qam hx5
  refine qcG qb 3 h rfl (h.sl 0 rfl).1 (h.sl 0 rfl).2 rfl rfl rfl rfl rfl rfl rfl rfl rfl g7 hx5 rfl fun w27 p21 k17 S18 h=>Ag (h.pick [7,9] rfl) (Ao 12 8191 rfl (zp1 rfl (G0 16383 [13] (h.pick [7,9] rfl) rfl (Ao 14 32767 rfl (zs 7 h rfl fun w28 h=>qgl (fun hs=>absurd (hs 14 (by decide)) (by decide)) (Ad (qfc (rA [12] [7,9] h rfl fun w29 h=>M2 127 [0,1,2,3,4,5,6] 0 1 (h.pick [7,9] rfl) rfl (Ao 7 255 rfl (zcL h hF (qh3 (h.old (GoT.mono ha1 hg.old))) rfl fun r5 w30 S19 p22 k18 h hF=>Ag (h.pick [8,10] rfl) (Ao 8 511 rfl (qqD qb [.tmp 112] _ ([r5]:List (List Int)) [1,2,3,4,5,6,7,8,9,10] h rfl rfl rfl rfl rfl rfl rfl rfl rfl (qrA (qaC 0 h rfl) qrO rfl) rfl rfl fun w31 p23 S20 h=>Ag (h.pick [8,10] rfl) (Ao 9 1023 rfl ?_)))))))))))))
  obtain ⟨x12,hx6,hF⟩:=qe hF
  obtain ⟨g8,hx6⟩:=qam hx6
  replace h:=h.pick [0,3,1,2,4,5,6,7,8,9,10] rfl
  refine qrM qb h rfl rfl rfl rfl rfl rfl rfl rfl rfl g8 hx6 rfl fun w32 p24 k19 S21 h=>Ag (h.pick [7,9] rfl) (Ao 10 2047 rfl (zp1 rfl (G0 4095 [11] (h.pick [7,9] rfl) rfl (Ao 12 8191 rfl (zs 7 h rfl fun w33 h=>qgl (fun hs=>absurd (hs 12 (by decide)) (by decide)) (Ad (X0 4 rfl ?_)))))))
  obtain ⟨y6,hy6,hF⟩:=qe hF
  have he6:=qaX hy6
  replace h:=h.lrn0 4 rfl
  obtain ⟨b7,o_5,q7,cs7,hp7,hq7,-,hr10,hc9⟩:=(qie (h.lrnO 4 rfl)).1.at hy6
  have hr11:=hr10
  obtain ⟨p25,k20,rfl,s7⟩:=hr10
  replace h:=h.lrnAdd 4 rfl hr11
  refine zx hp7 hq7 ⟨he6.1,qI he6.2.1 (qie (h.lrnO 4 rfl)).2⟩ rfl (zc 0 hc9 rfl (X0 3 rfl ?_))
  obtain ⟨o4,hF,hK4⟩:=qe hF
  refine ql ?_
  replace h:=h.pick [0,3,4,5,6,7,8,9] rfl
  refine rL (fun m e w'=>∃ (S22:Nat→Prop) (p26:Option Addr) (ln5:Nat) (k21:Nat) (x13:(List qaJ)) (i5:Int),qcI x6 i4 y6 m x13 i5=some o4∧e=[(1,.pointer (some ⟨bb1,0,none⟩)),(3,.pointer (some ⟨bb2,0,none⟩)),(7,.slice p11 x3.length x3.length),(8,.slice p12 x4.length x4.length),(11,.int .i64 i4),(87,.int .i64 (a_0.Aj.length:Int)),(88,.int .i64 i4),(120,.slice p25 y6.length k20),(121,.int .i64 (y6.length:Int)),(122,.int .i64 i5)]∧SH w w' [Ch.own S21 (x12:List (List Int)) [.slice p24 x12.length k19],Ch.own S18 (x11:List Int) [.slice p21 x11.length k17],Ch.lrn S7 (x5:List (List Int)) [.slice p12 x4.length x4.length] [fct (y6:(List Int)) [.slice p25 y6.length k20]],Ch.own S5 (x6:List Int) [.slice p11 x3.length x3.length],Ch.own S22 (x13:List qaJ) [.slice p26 ln5 k21],Ch.box bb2 [.slice p1 a_0.Ah.Ai.length k1,.slice p2 a_0.Ab.Aa.length k2,.slice p3 a_0.Ab.Af.length k3,.slice p4 a_0.Ab.Ac.length k4,.slice p5 a_0.Aj.length k5,.slice p6 r1.length k6,.slice p26 ln5 k21,.slice p21 x11.length k17,.slice p24 x12.length k19,.slice none 0 0] 119,Ch.own S1 (r1:List Tplace) [.slice p6 r1.length k6],Ch.box bb1 (qaI a_0 p1 p2 p3 p4 p5 k1 k2 k3 k4 k5) 48]) m3 ⟨_,_,_,_,_,_,hF,rfl,h⟩ rfl ?_
  rintro m4 e4 w34 ⟨S22,p26,ln5,k21,x13,i5,hF,rfl,h⟩
  obtain rfl:=(h.sl 4 rfl).2
  rcases m4 with _|m4
  ·cases hF
  refine X0 5 rfl (qg rfl hF ?_ ?_)<;>intro hF
  ·refine X0 6 rfl ?_
   obtain ⟨y7,hy7,hF,he7,b8,_,q8,cs8,hp8,hq8,rfl,hc11⟩:=(qie (GoT.mono (h.lrnS 2 0 rfl rfl) (h.lrnB 2 rfl))).1.ix hF
   refine zx hp8 hq8 ⟨he7.1,qI he7.2.1 (qie (GoT.mono (h.lrnS 2 0 rfl rfl) (h.lrnB 2 rfl))).2⟩ rfl (zc 0 hc11 rfl (X0 7 rfl ?_))
   obtain ⟨o5,hF,hK5⟩:=qe hF
   refine ql (rL (fun m e w'=>∃ (S23:Nat→Prop) (p27:Option Addr) (ln6:Nat) (k22:Nat) (x14:(List qaJ)) (i6:Int),qcH x6 i4 i5 y7 m x14 i6=some o5∧e=[(1,.pointer (some ⟨bb1,0,none⟩)),(3,.pointer (some ⟨bb2,0,none⟩)),(7,.slice p11 x3.length x3.length),(8,.slice p12 x4.length x4.length),(11,.int .i64 i4),(12,.int .i64 i5),(13,.int .i64 y7),(87,.int .i64 (a_0.Aj.length:Int)),(88,.int .i64 i4),(120,.slice p25 y6.length k20),(121,.int .i64 (y6.length:Int)),(122,.int .i64 i5),(127,.int .i64 i6)]∧SH w w' [Ch.own S21 (x12:List (List Int)) [.slice p24 x12.length k19],Ch.own S18 (x11:List Int) [.slice p21 x11.length k17],Ch.lrn S7 (x5:List (List Int)) [.slice p12 x4.length x4.length] [fct (y6:(List Int)) [.slice p25 y6.length k20]],Ch.own S5 (x6:List Int) [.slice p11 x3.length x3.length],Ch.own S23 (x14:List qaJ) [.slice p27 ln6 k22],Ch.box bb2 [.slice p1 a_0.Ah.Ai.length k1,.slice p2 a_0.Ab.Aa.length k2,.slice p3 a_0.Ab.Af.length k3,.slice p4 a_0.Ab.Ac.length k4,.slice p5 a_0.Aj.length k5,.slice p6 r1.length k6,.slice p27 ln6 k22,.slice p21 x11.length k17,.slice p24 x12.length k19,.slice none 0 0] 119,Ch.own S1 (r1:List Tplace) [.slice p6 r1.length k6],Ch.box bb1 (qaI a_0 p1 p2 p3 p4 p5 k1 k2 k3 k4 k5) 48]) m4 ⟨_,_,_,_,_,_,hF,rfl,h⟩ rfl ?_)
   rintro m5 e5 w35 ⟨S23,p27,ln6,k22,x14,i6,hF,rfl,h⟩
   obtain rfl:=(h.sl 4 rfl).2
   rcases m5 with _|m5
   ·cases hF
   refine X0 5 rfl (qg rfl hF ?_ ?_)<;>intro hF
   ·refine X0 8 rfl (rA [22] [3,5] h rfl fun w36 h=>M1 127 [0,1,2,3,4,5,6] 1 (h.pick [3,5] rfl) rfl ?_)
    obtain ⟨y8,hy8,hF,he8,b9,_,q9,cs9,hp9,hq9,rfl,hc13⟩:=(h.sl 3 rfl).1.ix hF
    refine Ax 7 255 hp9 hq9 ⟨he8.1,qI he8.2.1 (h.sl 3 rfl).2⟩ (h.pick [3,5] rfl) rfl (Aw 8 511 (fun w' hw=>qiV qb (qeb (w1:=w) (S1:=fun _=>False) hw 0 rfl hy8 hp9 hq9 rfl) (j:=0) rfl rfl rfl) (h.pick [3,5] rfl) rfl ?_)
    refine M0 131071 [9,10,11,12,13,14,15,16] (h.pick [3,5] rfl) rfl (Aw 17 262143 (fun w' hw=>qb6 qb [0,1,2,3] [.tmp 141,.tmp 145,.const (.int .i64 (2)),.tmp 146] rfl rfl rfl rfl rfl rfl rfl rfl) (h.pick [3,5] rfl) rfl ?_)
    refine Ao 18 524287 rfl (qR qb [.tmp 147] _ ([(⟨W64 ((W64 (2*y8))+i6),W64 ((W64 (2*y7))+i6),2,i5⟩:qaJ)]:List qaJ) h rfl rfl rfl rfl rfl rfl rfl rfl rfl ⟨(qnn (⟨W64 ((W64 (2*y8))+i6),W64 ((W64 (2*y7))+i6),2,i5⟩:qaJ)),trivial⟩ rfl fun w37 p28 S24 h=>Ag (h.pick [4,6] rfl) (Ao 19 1048575 rfl ?_))
    obtain ⟨x15,hx7,hF⟩:=qe hF
    obtain ⟨g9,hx7⟩:=qam hx7
    refine qcG qb 5 h rfl (h.sl 0 rfl).1 (h.sl 0 rfl).2 rfl rfl rfl rfl rfl rfl rfl rfl rfl g9 hx7 rfl fun w38 p29 k23 S25 h=>Ag (h.pick [4,6] rfl) (Ao 20 2097151 rfl (zp1 rfl (G0 4194303 [21] (h.pick [4,6] rfl) rfl (Ao 22 8388607 rfl (zs 6 h rfl fun w39 h=>qgl (fun hs=>absurd (hs 22 (by decide)) (by decide)) (Ad (X0 5 rfl ?_)))))))
    replace h:=h.pick [1,2,3,4,5,6,7,8] rfl
    exact rK ⟨_,_,_,_,_,_,hF,rfl,h⟩ rfl
   refine qq rfl ?_
   obtain rfl:=qa hF;replace hF:=hK5
   exact X0 5 rfl (rK ⟨_,_,_,_,_,_,hF,rfl,h⟩ rfl)
  refine qq rfl ?_
  obtain rfl:=qa hF;replace hF:=hK4
  refine X0 5 rfl ?_
  replace h:=h.unlrn 2 rfl
  exact rK ⟨_,_,_,_,_,_,_,_,_,_,_,_,_,_,_,_,hF,rfl,h⟩ rfl
 refine qq rfl ?_
 obtain rfl:=qa hF;replace hF:=hK3
 refine X0 5 rfl ?_
 obtain rfl:=qa hF
 have hv1:GoRs.Rs (ρ:=(Option Tview)) h.wc (reg A w h.wc) (some (⟨(⟨(⟨a_0.Ah.Ai⟩:qh),(⟨a_0.Ab.Aa,a_0.Ab.Af,a_0.Ab.Ac⟩:qc),a_0.Aj⟩:qm),r1,x10,x9,x8,[]⟩:Tview)) [GoT.v (Option Tview) [.pointer (some ⟨bb2,0,none⟩)]]:=⟨_,rfl,(hg.outR h (Rg.boxR (x:=(⟨(⟨(⟨a_0.Ah.Ai⟩:qh),(⟨a_0.Ab.Aa,a_0.Ab.Af,a_0.Ab.Ac⟩:qc),a_0.Aj⟩:qm),r1,x10,x9,x8,[]⟩:Tview)) 5 h rfl (show GoT.R _ _ ((⟨(⟨(⟨a_0.Ah.Ai⟩:qh),(⟨a_0.Ab.Aa,a_0.Ab.Af,a_0.Ab.Ac⟩:qc),a_0.Aj⟩:qm),r1,x10,x9,x8,[]⟩:Tview):Tview) _ from ⟨[.slice p1 a_0.Ah.Ai.length k1,.slice p2 a_0.Ab.Aa.length k2,.slice p3 a_0.Ab.Af.length k3,.slice p4 a_0.Ab.Ac.length k4,.slice p5 a_0.Aj.length k5],[.slice p6 r1.length k6,.slice p18 x10.length k15,.slice p17 x9.length k14,.slice p16 x8.length k13,.slice none 0 0],rfl,⟨[.slice p1 a_0.Ah.Ai.length k1],[.slice p2 a_0.Ab.Aa.length k2,.slice p3 a_0.Ab.Af.length k3,.slice p4 a_0.Ab.Ac.length k4,.slice p5 a_0.Aj.length k5],rfl,⟨_,_,rfl,(hg.inS h s1)⟩,⟨[.slice p2 a_0.Ab.Aa.length k2,.slice p3 a_0.Ab.Af.length k3,.slice p4 a_0.Ab.Ac.length k4],[.slice p5 a_0.Aj.length k5],rfl,⟨[.slice p2 a_0.Ab.Aa.length k2],[.slice p3 a_0.Ab.Af.length k3,.slice p4 a_0.Ab.Ac.length k4],rfl,⟨_,_,rfl,(hg.inS h s2)⟩,⟨[.slice p3 a_0.Ab.Af.length k3],[.slice p4 a_0.Ab.Ac.length k4],rfl,⟨_,_,rfl,(hg.inS h s3)⟩,⟨_,_,rfl,(hg.inS h s4)⟩⟩⟩,⟨_,_,rfl,(hg.inS h s5)⟩⟩⟩,⟨[.slice p6 r1.length k6],[.slice p18 x10.length k15,.slice p17 x9.length k14,.slice p16 x8.length k13,.slice none 0 0],rfl,(Rg.ownR 6 h rfl),⟨[.slice p18 x10.length k15],[.slice p17 x9.length k14,.slice p16 x8.length k13,.slice none 0 0],rfl,(Rg.ownR 4 h rfl),⟨[.slice p17 x9.length k14],[.slice p16 x8.length k13,.slice none 0 0],rfl,(Rg.ownR 1 h rfl),⟨[.slice p16 x8.length k13],[.slice none 0 0],rfl,(Rg.ownR 0 h rfl),⟨_,_,rfl,qlI⟩⟩⟩⟩⟩⟩)))⟩
 exact qsW qb (ρ:=(Option Tview)) (r:=(some (⟨(⟨(⟨a_0.Ah.Ai⟩:qh),(⟨a_0.Ab.Aa,a_0.Ab.Af,a_0.Ab.Ac⟩:qc),a_0.Aj⟩:qm),r1,x10,x9,x8,[]⟩:Tview))) [GoT.v (Option Tview) [.pointer (some ⟨bb2,0,none⟩)]] h ⟨rfl,trivial⟩ hv1
def qbU (_:Nat) (list:(List Tplace)):Option Int :=
 some (list.length:Int)
theorem qh1 {list:(List Tplace)} (ha1:GoT.R w (old w) list cs1) {r:Int} (hF:qbU n list=some r):RetV Tryz.prog 77 [GoT.v (List Tplace) cs1] w r:=by
 obtain ⟨p1,k1,rfl,s1⟩:=ha1
 exact zV 5 Tryz.func77 rfl fun h=>X0 10 rfl (ri h hF rfl)
def qhh (n:Nat) (kind:Int) (value:Int):Option Bool :=
 bif (kind==1) then some (value==0) else
 bif (kind==2) then
  (qar n value 1 10).bind fun r1 =>
  some r1
 else
  bif (kind==3) then
   bif (kind==3) then
    (qar n value 0 1000000000).bind fun r2 =>
    some r2
   else
    some false
  else
   bif (kind==4) then
    (qar n value 0 1000000000).bind fun r3 =>
    some r3
   else
    some false
theorem qli {kind:Int} {value:Int}  {r:Bool} (hF:qhh n kind value=some r):RetV Tryz.prog 78 [.int .i64 kind,.int .i64 value] w r:=by
 refine zV 19 Tryz.func78 rfl fun h=>X0 15 rfl (qg rfl hF ?_ ?_)<;>intro hF
 ·exact X0 6 rfl (rb h hF rfl)
 refine X0 5 rfl (qg rfl hF ?_ ?_)<;>intro hF
 ·exact X0 3 rfl (zcB h hF qae rfl fun r1 w1 h hF=>X0 2 rfl (rb h hF rfl))
 refine X0 6 rfl (qg rfl hF ?_ ?_)<;>intro hF
 ·refine qeT (qg rfl hF ?_ ?_)<;>intro hF
  ·exact X0 3 rfl (zcB h hF qae rfl fun r2 w2 h hF=>X0 2 rfl (rb h hF rfl))
  exact X0 6 rfl (rb h hF rfl)
 refine X0 4 rfl (qg rfl hF ?_ ?_)<;>intro hF
 ·exact X0 3 rfl (zcB h hF qae rfl fun r3 w3 h hF=>X0 2 rfl (rb h hF rfl))
 exact X0 6 rfl (rb h hF rfl)
def qS (v:(Option Tview)) (a_e:qf):Nat→Int→Option (Flow Bool Int)
 | 0,_=>none
 | n+1,i1 =>
  bif decide (i1<((3:Nat):Int)) then
   (idx ([a_e.Av,a_e.As,a_e.To]:List (List Int)) i1).bind fun y1 =>
   bif decide ((y1.length:Int) > 4) then some (.ret false) else
   (v).bind fun y2 =>
   (qbU n y2.places).bind fun r1 =>
   (qbe n y1 0 (W64 (r1-1))).bind fun r2 =>
   bif (!r2) then some (.ret false) else
   qS v a_e n (W64 (i1+1))
  else
   some (.nxt i1)
def qbt (n:Nat) (v:(Option Tview)) (a_e:qf):Option Bool :=
 (qS v a_e n 0).bind fun o=>match o with
 | .ret r=>some r
 | .nxt _ =>
  (qhh n a_e.Ap a_e.Bd).bind fun r3 =>
  bif r3 then
   (qcv n a_e.Av).bind fun r4 =>
   bif r4 then
    (qcv n a_e.To).bind fun r5 =>
    some r5
   else
    some false
  else
   some false
theorem qih {v:(Option Tview)} {a_e:qf} (ha1:GoT.R w (old w) v cs1) (ha2:GoT.R w (old w) a_e cs2) {r:Bool} (hF:qbt n v a_e=some r):RetV Tryz.prog 38 [GoT.v (Option Tview) cs1,GoT.v qf cs2] w r:=by
 obtain ⟨p1,rfl,s1⟩:=qkD ha1
 obtain ⟨p2,k1,p3,k2,p4,k3,rfl,s2,s3,s4⟩:=qaY ha2
 refine zV 49 Tryz.func38 rfl fun h=>zSR (qr h rfl rfl fun w1 bb1 h=>X3 11 0 0 0 h rfl (qm4 qb [.tmp 8,.tmp 10,.tmp 12] _ ([a_e.Av,a_e.As,a_e.To]:List (List Int)) h rfl rfl rfl rfl rfl rfl rfl rfl rfl ⟨⟨_,_,rfl,s2⟩,⟨_,_,rfl,s3⟩,⟨_,_,rfl,s4⟩,trivial⟩ rfl fun w2 p5 S1 h=>X0 3 rfl ?_))
 obtain ⟨o1,hF,hK1⟩:=qe hF
 refine ql (rL (fun m e w'=>∃ (i1:Int),qS v a_e m i1=some o1∧e=[(0,.pointer p1),(3,.pointer (some ⟨bb1,0,none⟩)),(13,.slice p5 3 3),(14,.int .i64 ((3:Nat):Int)),(15,.int .i64 i1)]∧SH w w' [Ch.rowD w S1 (([a_e.Av,a_e.As,a_e.To]:List (List Int)):List (List Int)) p5 3,Ch.box bb1 (qT a_e p2 p3 p4 k1 k2 k3) 50]) n ⟨_,hF,rfl,h⟩ rfl ?_)
 rintro m1 e1 w3 ⟨i1,hF,rfl,h⟩
 rcases m1 with _|m1
 ·cases hF
 refine X0 5 rfl (qg rfl hF ?_ ?_)<;>intro hF
 ·refine zKSBSR ?_
  obtain ⟨y1,hy1,hF⟩:=qe hF
  have he1:=qaX hy1
  obtain ⟨b1,o_1,q1,cs3,hp1,hq1,-,hr1,hc2⟩:=h.atD 0 rfl hy1
  obtain ⟨p6,k4,rfl,s5⟩:=hr1
  refine zxe hp1 hq1 he1 rfl (zc 0 hc2 rfl (X0 8 rfl (qi (t:=22) hF rfl ?_ ?_)))<;>intro hF
  ·refine X0 11 rfl (qdp rfl rfl (X0 4 rfl ?_))
   obtain rfl:=qa hF;replace hF:=hK1
   exact rb h hF rfl
  refine X0 5 rfl ?_
  obtain ⟨y2,hy2,hF⟩:=qe hF
  obtain ⟨b2,o_2,cs4,rfl,-,hr2,hc3⟩:=PtR.get s1 hy2
  obtain ⟨p7,k5,p8,k6,p9,k7,p10,k8,p11,k9,p12,k10,p13,k11,p14,k12,p15,k13,p16,k14,rfl,s6,s7,s8,s9,s10,s11,s12,s13,s14,s15⟩:=qke hr2
  refine X0 4 rfl (zc 5 (hc3.below h.below) rfl (X0 1 rfl (zcI h hF (qh1 ⟨_,_,rfl,(h.oldS s11)⟩) rfl fun r1 w4 h hF=>X0 3 rfl (zcB h hF (qbJ ⟨_,_,rfl,(h.oldS s5)⟩) rfl fun r2 w5 h hF=>X0 4 rfl (qg rfl hF ?_ ?_)))))<;>intro hF
  ·refine X0 4 rfl ?_
   obtain rfl:=qa hF;replace hF:=hK1
   exact rb h hF rfl
  exact X0 6 rfl (rK ⟨_,hF,rfl,h⟩ rfl)
 refine qq rfl ?_
 obtain rfl:=qa hF;replace hF:=hK1
 refine X2 6 1 1 h rfl (zcB h hF qli rfl fun r3 w6 h hF=>zp1 rfl (qi (t:=39) hF rfl ?_ ?_))<;>intro hF
 ·refine X1 5 1 h rfl (zcB h hF (qfa ⟨_,_,rfl,(h.oldS s2)⟩) rfl fun r4 w7 h hF=>zp2 rfl (qi (t:=44) hF rfl ?_ ?_))<;>intro hF
  ·exact X1 5 1 h rfl (zcB h hF (qfa ⟨_,_,rfl,(h.oldS s4)⟩) rfl fun r5 w8 h hF=>X0 3 rfl (rb h hF rfl))
  exact X0 6 rfl (rb h hF rfl)
 exact X0 11 rfl (rb h hF rfl)
def qiN (n:Nat) (l:qh) (d:qc) (place:Int):Option (Tl05Place × Bool) :=
 (qeQ n l d).bind fun r1 =>
 bif (!r1) then some ((⟨0,0,0,false⟩:Tl05Place),false) else
 (qdj n d).bind fun r2 =>
 (qY n place 0 (W64 ((r2.length:Int)-1))).bind fun r3 =>
 bif (!r3) then some ((⟨0,0,0,false⟩:Tl05Place),false) else
 (idx r2 place).bind fun y1 =>
 some (y1,true)
theorem qmG {l:qh} {d:qc} {place:Int} (ha1:GoT.R w (old w) l cs1) (ha2:GoT.R w (old w) d cs2) {r:(Tl05Place × Bool)} (hF:qiN n l d place=some r):RetV Tryz.prog 105 [GoT.v qh cs1,GoT.v qc cs2,.int .i64 place] w r:=by
 obtain ⟨p1,k1,rfl,s1⟩:=qU ha1
 obtain ⟨p2,k2,p3,k3,p4,k4,rfl,s2,s3,s4⟩:=qK ha2
 refine zV 27 Tryz.func105 rfl fun h=>zSR (qr h rfl rfl fun w1 bb1 h=>qr h rfl rfl fun w2 bb2 h=>qB qb h rfl rfl rfl fun w3 bb3 h=>X2 7 2 1 h rfl (zcB h hF (qgD (h.old ha1) (h.old ha2)) rfl fun r1 w4 h hF=>X0 2 rfl (qg rfl hF ?_ ?_)))<;>intro hF
 ·refine zSR (r_v (qb6 qb [] [] rfl rfl rfl rfl rfl rfl rfl rfl) rfl (zs 0 h rfl fun w5 h=>X0 2 rfl ?_))
  obtain rfl:=qa hF
  exact qW qb (ρ:=(Tl05Place × Bool)) [GoT.v Tl05Place [.int .i64 0,.int .i64 0,.int .i64 0,.bool false],GoT.v Bool [.bool false]] h ⟨⟨_,_,_,rfl,rfl,h.box 0 rfl,rfl⟩,rfl,trivial⟩ (PV.done h (qbT h (qu (S:=fun _=>False) (qeN (⟨0,0,0,false⟩:Tl05Place))) (qaW (qu (S:=fun _=>False) rfl)) (by rfl)))
 refine X1 4 1 h rfl (zcL h hF (qeY (h.old ha2)) rfl fun r2 w6 S1 p5 k5 h hF=>X0 9 rfl (zcB h hF qN rfl fun r3 w7 h hF=>X0 2 rfl (qg rfl hF ?_ ?_)))<;>intro hF
 ·refine zSR (r_v (qb6 qb [] [] rfl rfl rfl rfl rfl rfl rfl rfl) rfl (zs 1 h rfl fun w8 h=>X0 2 rfl ?_))
  obtain rfl:=qa hF
  exact qW qb (ρ:=(Tl05Place × Bool)) [GoT.v Tl05Place [.int .i64 0,.int .i64 0,.int .i64 0,.bool false],GoT.v Bool [.bool false]] h ⟨⟨_,_,_,rfl,rfl,h.box 1 rfl,rfl⟩,rfl,trivial⟩ (PV.done h (qbT h (qu (S:=fun _=>False) (qeN (⟨0,0,0,false⟩:Tl05Place))) (qaW (qu (S:=fun _=>False) rfl)) (by rfl)))
 refine X0 5 rfl ?_
 obtain ⟨y1,hy1,hF,he1,b1,_,q1,cs3,hp1,hq1,hr4,hc3⟩:=(h.sl 0 rfl).1.ix hF
 obtain rfl:=qd9 hr4
 refine zx hp1 hq1 ⟨he1.1,qI he1.2.1 (h.sl 0 rfl).2⟩ rfl (zc 0 hc3 rfl (zs 1 h rfl fun w9 h=>X0 2 rfl ?_))
 obtain rfl:=qa hF
 exact qW qb (ρ:=(Tl05Place × Bool)) [GoT.v Tl05Place (qjx y1),GoT.v Bool [.bool true]] h ⟨⟨_,_,_,rfl,rfl,h.box 1 rfl,rfl⟩,rfl,trivial⟩ (PV.done h (qbT h (qu (S:=fun _=>False) (qeN y1)) (qaW (qu (S:=fun _=>False) rfl)) (by rfl)))
end Go.Fw


namespace Go.Fw
open Go
set_option maxRecDepth 100000
theorem qqy {d:qc} {k:Int} {n i:Nat} (hi:i<(sinksL d k n).length):∃ y:Nat,y<n∧idx (sinksL d k n) (i:Int)=some (y:Int)∧snkQ d k y=true:=by
 rw [qct hi]
 have hm:(sinksL d k n)[i] ∈ sinksL d k n:=ju hi
 generalize (sinksL d k n)[i]=z at hm
 unfold sinksL at hm
 obtain ⟨y,hy,rfl⟩:=List.mem_map.1 hm
 obtain ⟨h1,h2⟩:=List.mem_filter.1 hy
 exact ⟨y,List.mem_range.1 h1,rfl,h2⟩
theorem qmT {d:qc} {k:Int} (h:smallD d):Ev (fun n=>qe2 n d k) (sinksL d k (places d).length):=by
 have hl:=qcJ h
 have hL:Ev (fun n=>qay k (places d) n ([]:List Int) 0) (sinksL d k (places d).length,((places d).length:Int)):=by
  refine loopF (Lf:=qay k (places d)) (S:=fun j=>sinksL d k j) (len:=(places d).length) (fun n=>?_) (fun j hj X hX=>?_)
  ·simp only [qay,qk (je _),cond_false]
  ·have hc:(sinksL d k j).length+[(j:Int)].length≤2147483648:=by
    rw [qgw]
    have:cntP (snkQ d k) j≤j:=qe0
    simp;omega
   simp only [qay,qj hj,cond_true,qX hj,jd,wS j]
   rw [qjg] at hX
   unfold snkQ at hX
   cases h1:((gt (places d) j).net==k)
   ·rw [h1] at hX
    simp only [Bool.false_and,cond_false,List.append_nil] at hX ⊢
    exact hX
   ·cases h2:(gt (places d) j).drives
    ·rw [h1,h2] at hX
     simp only [Bool.not_false,Bool.and_self,cond_true,qcR hc,jd] at hX ⊢
     exact hX
    ·rw [h1,h2] at hX
     simp only [Bool.not_true,Bool.and_false,cond_false,List.append_nil,cond_true] at hX ⊢
     exact hX
 unfold qe2
 exact Ev.bind (qiw h) (Ev.bind hL .done)
structure wireOk (b:qm) (i:Nat):Prop where
 lo:1≤(gt b.Aj i).Ak.length
 hi:(gt b.Aj i).Ak.length≤8
 res:(gt b.Aj i).Bm.length=(gt b.Aj i).Ak.length
 cap:(gt b.Aj i).Bk.length=(gt b.Aj i).Ak.length
 par:∀ j,0<j→j<(gt b.Aj i).Ak.length→0≤at0 (gt b.Aj i).Ak j∧at0 (gt b.Aj i).Ak j<j
 snk:(gt b.Aj i).Bc.length=(sinksL b.Ab (i:Int) (places b.Ab).length).length
 sin:∀ j,j<(gt b.Aj i).Bc.length→0≤at0 (gt b.Aj i).Bc j∧at0 (gt b.Aj i).Bc j<(gt b.Aj i).Ak.length
theorem qjq {b:qm} (h:blockB b=true) {i:Nat} (hi:i<b.Aj.length):wireOk b i:=by
 unfold blockB at h
 rw [jg,qap] at h
 have:=h.2 i hi
 unfold wireB lenB at this
 simp only [jg,decide_eq_true_eq,beq_iff_eq] at this
 obtain ⟨⟨h1,h2⟩,h3,h4,h5,_,_,h6,h7⟩:=this
 refine ⟨h1,h2,by omega,by omega,fun j hj0 hj=>?_,?_,fun j hj=>?_⟩
 ·have:=qap.1 h5 j hj
  unfold treeB at this
  rw [show decide (j=0)=false by simp;omega] at this
  simp only [cond_false,qbN] at this
  omega
 ·rw [qgw]
  unfold snkN at h6
  omega
 ·rw [qge (d:=0),qap] at h7
  have:=h7 j hj
  rw [qbN] at this
  unfold at0
  omega
theorem qo1 {b:qm} (h:blockB b=true):b.Aj.length=b.Ab.Af.length:=by
 unfold blockB at h
 simp only [jg,beq_iff_eq] at h
 omega
theorem qrf {b:qm} (h:blockB b=true) {j:Nat} (hj:j<(places b.Ab).length):∃ c,∀ n,qeW n b.Ab b.Ah (gt (places b.Ab) j)=some c:=by
 have hd:=qch h
 rcases qla hj with ⟨i,k,hi,hk,_,e⟩|⟨i,hi,_,e⟩
 ·rw [e]
  obtain ⟨⟨c0,c1⟩,hn,_⟩:=qkY hd hi
  refine ⟨(gt (gt b.Ah.Ai (gt b.Ab.Aa i).Bg.toNat).Am k).Bk,fun n=>?_⟩
  unfold place1
  simp only [qeW,show decide ((i:Int)<0)=false by simp,cond_false,qX hi,jd,qfR c0 c1,qX (show k<(gt b.Ah.Ai (gt b.Ab.Aa i).Bg.toNat).Am.length by omega)]
 ·rw [e]
  exact ⟨0,fun n=>rfl⟩
theorem qkA {b:qm} (h:blockB b=true) {i:Nat} (hi:i<b.Aj.length):∃ r:List Int,r.length=(gt b.Aj i).Ak.length∧Ev (fun n=>qcs n b (i:Int)) r:=by
 have hw:=qjq h hi
 have hs:=qaM (qch h)
 have hlo:=hw.lo
 have hhi:=hw.hi
 have hcap:=hw.cap
 have hl:=qcJ hs
 obtain ⟨x1,i1,e1⟩:=loopE (Lf:=qa8 b (gt b.Aj i) (places b.Ab) (sinksL b.Ab (i:Int) (places b.Ab).length)) (fin:=fun t=>(t,((sinksL b.Ab (i:Int) (places b.Ab).length).length:Int))) (fun _ t=>t.length=(gt b.Aj i).Ak.length) (len:=(sinksL b.Ab (i:Int) (places b.Ab).length).length)
  (fun n t=>by simp only [qa8,qk (je _),cond_false])
  (fun j t hj ht=>by
   obtain ⟨y,hy,ey,_⟩:=qqy hj
   obtain ⟨c,hc⟩:=qrf h hy
   have hjs:j<(gt b.Aj i).Bc.length:=by rw [hw.snk];exact hj
   have hsn:=hw.sin j hjs
   have hb:j<9223372036854775807:=by
    rw [qgw] at hj
    have:cntP (snkQ b.Ab (i:Int)) (places b.Ab).length≤(places b.Ab).length:=qe0
    omega
   refine ⟨setS t (at0 (gt b.Aj i).Bc j) (W64 (gt t (at0 (gt b.Aj i).Bc j).toNat+c)),by rw [qgU];exact ht,fun X hX=>?_⟩
   simp only [qa8,qj hj,cond_true,ey,jd,qbI hjs,qfR hsn.1 (show at0 (gt b.Aj i).Bc j<(t.length:Int) by omega),qX hy,qb8 hb]
   exact Ev.bind ⟨0,fun n _=>hc n⟩ hX) 0 (jP _) (gt b.Aj i).Bk hcap
 obtain ⟨x2,i2,e2⟩:=loopDn (Lf:=qbd (gt b.Aj i)) (fin:=fun t=>(t,(0:Int))) (fun t=>t.length=(gt b.Aj i).Ak.length) ((gt b.Aj i).Ak.length-1)
  (fun n t=>by simp only [qbd,show decide ((0:Int) > 0)=false from rfl,cond_false])
  (fun j t h0 hj ht=>by
   have hp:=hw.par j h0 (by omega)
   refine ⟨setS t (at0 (gt b.Aj i).Ak j) (W64 (gt t (at0 (gt b.Aj i).Ak j).toNat+gt t j)),by rw [qgU];exact ht,fun X hX=>?_⟩
   simp only [qbd,show decide ((j:Int) > 0)=true by simp;omega,cond_true,qbI (show j<(gt b.Aj i).Ak.length by omega),jd,qfR hp.1 (show at0 (gt b.Aj i).Ak j<(t.length:Int) by omega),qX (show j<t.length by omega),show (j:Int)-1=((j-1:Nat):Int) by omega,qaw (show -9223372036854775808≤((j-1:Nat):Int) by omega) (by omega)]
   exact hX) x1 i1
 refine ⟨x2,i2,?_⟩
 unfold qcs qfS
 rw [qX hi]
 simp only [jd,qcR (show ([]:List Int).length+(gt b.Aj i).Bk.length≤2147483648 by simp;omega),List.nil_append]
 refine Ev.bind (qiw hs) (Ev.bind (qmT hs) (Ev.bind e1 ?_))
 rw [qcr (show (gt b.Aj i).Bk.length≤9223372036854775807 by omega),show ((gt b.Aj i).Bk.length:Int)-1=(((gt b.Aj i).Ak.length-1:Nat):Int) by omega]
 exact Ev.bind e2 .done
theorem qmu {b:qm} (h:blockB b=true) {i:Nat} (hi:i<b.Aj.length):∃ r:List Int,r.length=(gt b.Aj i).Bc.length∧Ev (fun n=>qcW n b (i:Int)) r:=by
 have hw:=qjq h hi
 have hs:=qaM (qch h)
 have hlo:=hw.lo
 have hhi:=hw.hi
 have hres:=hw.res
 have hl:=qcJ hs
 have hsl:(gt b.Aj i).Bc.length≤78:=by
  rw [hw.snk,qgw]
  have:cntP (snkQ b.Ab (i:Int)) (places b.Ab).length≤(places b.Ab).length:=qe0
  omega
 obtain ⟨r1,l1,e1⟩:=qkA h hi
 have hmk:mkS (r1.length:Int) (0:Int)=some (List.replicate r1.length 0):=qgL (by omega)
 obtain ⟨x2,i2,e2⟩:=loopE (Lf:=qa0 (gt b.Aj i) r1 (List.replicate r1.length 0)) (fin:=fun t=>(t,(r1.length:Int))) (fun j t=>1≤j∧t.length=(gt b.Aj i).Ak.length) (len:=r1.length)
  (fun n t=>by simp only [qa0,List.length_replicate,qk (je _),cond_false])
  (fun j t hj ht=>by
   obtain ⟨h1,ht⟩:=ht
   have hp:=hw.par j (by omega) (by omega)
   refine ⟨setS t (j:Int) (W64 (gt t (at0 (gt b.Aj i).Ak j).toNat+W64 (at0 (gt b.Aj i).Bm j*gt r1 j))),⟨by omega,by rw [qgU];exact ht⟩,fun X hX=>?_⟩
   simp only [qa0,List.length_replicate,qj hj,cond_true,qbI (show j<(gt b.Aj i).Ak.length by omega),jd,qfR hp.1 (show at0 (gt b.Aj i).Ak j<(t.length:Int) by omega),qbI (show j<(gt b.Aj i).Bm.length by omega),qX hj,qX (show j<t.length by omega),wS j]
   exact hX) 1 (by omega) (List.replicate r1.length 0) ⟨je _,by rw [List.length_replicate];exact l1⟩
 obtain ⟨x3,i3,e3⟩:=loopE (Lf:=qaR x2 (gt b.Aj i)) (fin:=fun t=>(t,((gt b.Aj i).Bc.length:Int))) (fun j t=>t.length=j) (len:=(gt b.Aj i).Bc.length)
  (fun n t=>by simp only [qaR,qk (je _),cond_false])
  (fun j t hj ht=>by
   have hsn:=hw.sin j hj
   have hx2:=i2.2
   refine ⟨t++[gt x2 (at0 (gt b.Aj i).Bc j).toNat],by simp [ht],fun X hX=>?_⟩
   simp only [qaR,qj hj,cond_true,qbI hj,jd,qfR hsn.1 (show at0 (gt b.Aj i).Bc j<(x2.length:Int) by omega),qcR (show t.length+[gt x2 (at0 (gt b.Aj i).Bc j).toNat].length≤2147483648 by simp;omega),wS j]
   exact hX) 0 (jP _) [] rfl
 refine ⟨x3,i3,?_⟩
 unfold qcW qeV
 rw [qX hi]
 simp only [jd]
 refine Ev.bind (b:=x2) (Ev.bind e1 ?_) (Ev.bind e3 .done)
 rw [hmk]
 simp only [jd]
 exact Ev.bind e2 .done
end Go.Fw


namespace Go.Fw
open Go
set_option maxRecDepth 100000
instance:Inhabited qaJ:=⟨⟨0,0,0,0⟩⟩
instance:Inhabited qD:=⟨⟨0,0⟩⟩
theorem qpC {α:Type} {m:Nat} {z:α} (h:m≤2147483648):mkS (m:Int) z=some (List.replicate m z):=by
 unfold mkS big
 rw [if_pos ⟨by omega,by omega⟩,jC]
theorem qp9 {α:Type} [Inhabited α] {xs:List α} {a k:Nat} {y:α} (h:k ≠ a):gt (xs.set a y) k=gt xs k:=by
 unfold gt
 rw [jv,List.getElem?_set_ne (by omega),←jv]
theorem qob {α:Type} [Inhabited α] {xs:List α} {a:Nat} {y:α} (h:a<xs.length):gt (xs.set a y) a=y:=by
 rw [qi1 (by rw [List.length_set];exact h),List.getElem_set_self]
theorem qrs {a:qF}:∃ r:List qD,r.length≤4∧∀ n,qdN n a=some r:=by
 unfold qdN
 simp only [bne,qbo]
 cases (a.Ap==2)
 ·cases (a.Ap==3)
  ·cases (a.Ap==1)
   ·exact ⟨_,by decide,fun _=>rfl⟩
   ·cases (a.Bf==1)
    ·cases (a.Bf==2)
     ·exact ⟨[⟨0,0⟩,⟨0,1⟩,⟨1,0⟩,⟨1,1⟩],by decide,fun _=>rfl⟩
     ·exact ⟨[⟨0,1⟩,⟨1,0⟩],by decide,fun _=>rfl⟩
    ·exact ⟨[⟨0,0⟩,⟨1,1⟩],by decide,fun _=>rfl⟩
  ·exact ⟨[⟨1,0⟩,⟨1,1⟩],by decide,fun _=>rfl⟩
 ·exact ⟨[⟨0,0⟩,⟨0,1⟩],by decide,fun _=>rfl⟩
theorem qny {b:qm} {first:Int} (h:blockB b=true) {i:Nat} (hi:i<b.Ab.Aa.length):∃ r:List qaJ,r.length≤32∧Ev (fun n=>qdG n b (gt b.Ab.Aa i) first) r:=by
 obtain ⟨⟨c0,c1⟩,_,hcb⟩:=qkY (qch h) hi
 have ha:=qo3 hcb
 obtain ⟨x1,i1,e1⟩:=loopE (Lf:=qa9 first (gt b.Ah.Ai (gt b.Ab.Aa i).Bg.toNat)) (fin:=fun t=>(t,((gt b.Ah.Ai (gt b.Ab.Aa i).Bg.toNat).Ar.length:Int))) (fun j t=>t.length≤4*j) (len:=(gt b.Ah.Ai (gt b.Ab.Aa i).Bg.toNat).Ar.length)
  (fun n t=>by simp only [qa9,qk (je _),cond_false])
  (fun j t hj ht=>by
   obtain ⟨r,hr,er⟩:=qrs (a:=gt (gt b.Ah.Ai (gt b.Ab.Aa i).Bg.toNat).Ar j)
   obtain ⟨x2,i2,e2⟩:=loopE (Lf:=qba first (j:Int) (gt (gt b.Ah.Ai (gt b.Ab.Aa i).Bg.toNat).Ar j) r) (fin:=fun t=>(t,(r.length:Int))) (fun k t'=>t'.length=t.length+k) (len:=r.length)
    (fun n t=>by simp only [qba,qk (je _),cond_false])
    (fun k t' hk ht'=>⟨t'++[_],by rw [ji,ht',jm];omega,fun X hX=>by
     simp only [qba,qj hk,cond_true,qX hk,jd,wS k]
     rw [qcR (by rw [jm];omega)]
     exact hX⟩) 0 (jP _) t rfl
   refine ⟨x2,by omega,fun X hX=>?_⟩
   simp only [qa9,qj hj,cond_true,qX hj,jd,er,wS j]
   exact Ev.bind e2 hX) 0 (jP _) [] (je _)
 refine ⟨x1,by omega,?_⟩
 unfold qdG
 rw [qfR c0 c1]
 simp only [jd]
 exact Ev.bind e1 .done
theorem qpv {b:qm} (h:blockB b=true):∃ ls lo de,Ev (fun n=>qhy n b) (some ⟨b,places b.Ab,ls,lo,de,[]⟩):=by
 have hd:=qch h
 have hs:=qaM hd
 have hl:=qcJ hs
 have hni:=hs.ni
 have hnn:=hs.nn
 have hwl:=qo1 h
 obtain ⟨⟨x1,z1⟩,i1,e1⟩:=loopE (τ:=List qaJ × Int) (Lf:=fun n t j=>qdx b n t.1 t.2 j) (fin:=fun t=>(t.1,t.2,(b.Ab.Aa.length:Int))) (fun j t=>t.1.length≤32*j) (len:=b.Ab.Aa.length)
  (fun n t=>by simp only [qdx,qk (je _),cond_false])
  (fun j t hj ht=>by
   obtain ⟨r,hr,er⟩:=qny (first:=t.2) h hj
   refine ⟨(t.1++r,W64 (t.2+((gt b.Ab.Aa j).Af.length:Int))),by rw [ji];omega,fun X hX=>?_⟩
   simp only [qdx,qj hj,cond_true,qX hj,jd,qaN,wS j]
   have ht':t.1.length≤32*j:=ht
   refine Ev.bind er ?_
   rw [qcR (show t.1.length+r.length≤2147483648 by omega)]
   exact hX) 0 (jP _) ([],0) (je _)
 have hm1:mkS (b.Aj.length:Int) (0:Int)=some (List.replicate b.Aj.length 0):=qpC (by omega)
 have hm2:mkS (b.Aj.length:Int) ([]:List Int)=some (List.replicate b.Aj.length []):=qpC (by omega)
 obtain ⟨⟨x5,x6⟩,⟨i5,i6,i56⟩,e2⟩:=loopE (τ:=List (List Int) × List Int) (Lf:=fun n t j=>qb2 (places b.Ab) n t.1 t.2 j) (fin:=fun t=>(t.1,t.2,((places b.Ab).length:Int))) (fun j t=>t.1.length=b.Aj.length∧t.2.length=b.Aj.length∧∀ k,(gt t.1 k).length≤j) (len:=(places b.Ab).length)
  (fun n t=>by simp only [qb2,qk (je _),cond_false])
  (fun j t hj ht=>by
   obtain ⟨h1,h2,h3⟩:=ht
   obtain ⟨n0,n1⟩:=qlP hd hj
   cases hdr:(gt (places b.Ab) j).drives
   ·refine ⟨(setS t.1 (gt (places b.Ab) j).net (gt t.1 (gt (places b.Ab) j).net.toNat++[(j:Int)]),t.2),⟨by rw [qgU];exact h1,h2,fun k=>?_⟩,fun X hX=>?_⟩
    ·show (gt (t.1.set _ _) k).length≤j+1
     by_cases hk:k=(gt (places b.Ab) j).net.toNat
     ·subst hk
      rw [qob (by omega),ji,jm]
      have:=h3 (gt (places b.Ab) j).net.toNat
      omega
     ·rw [qp9 hk]
      have:=h3 k
      omega
    ·have:=h3 (gt (places b.Ab) j).net.toNat
     simp only [qb2,qj hj,cond_true,qX hj,jd,hdr,cond_false,qfR n0 (show (gt (places b.Ab) j).net<(t.1.length:Int) by omega),wS j]
     rw [qcR (by rw [jm];omega)]
     exact hX
   ·refine ⟨(t.1,setS t.2 (gt (places b.Ab) j).net (j:Int)),⟨h1,by rw [qgU];exact h2,fun k=>Nat.le_succ_of_le (h3 k)⟩,fun X hX=>?_⟩
    simp only [qb2,qj hj,cond_true,qX hj,jd,hdr,qfR n0 (show (gt (places b.Ab) j).net<(t.2.length:Int) by omega),wS j]
    exact hX) 0 (jP _) (List.replicate b.Aj.length [],List.replicate b.Aj.length 0) ⟨by simp,by simp,fun k=>by
   have:gt (List.replicate b.Aj.length ([]:List Int)) k=[]:=by
    unfold gt
    rw [jv,List.getElem?_replicate]
    by_cases hk:k<b.Aj.length<;>simp [hk]<;>rfl
   rw [this];exact je _⟩
 have i5:x5.length=b.Aj.length:=i5
 have i6:x6.length=b.Aj.length:=i6
 have i56:∀ k,(gt x5 k).length≤(places b.Ab).length:=i56
 have hL5:∀ (i4 i5 y7:Int) (y8:Int) (t:List qaJ),idx x6 i4=some y8→t.length≤1000000→∃ t',t'.length=t.length+2∧Ev (fun n=>qcH x6 i4 i5 y7 n t 0) (t',2):=by
  intro i4 i5 y7 y8 t hy ht
  obtain ⟨t',h1,h2⟩:=loopE (Lf:=qcH x6 i4 i5 y7) (fin:=fun t=>(t,(2:Int))) (fun k t'=>t'.length=t.length+k) (len:=2)
   (fun n t=>by simp only [qcH];rfl)
   (fun k t' hk ht'=>⟨t'++[_],by rw [ji,ht',jm];omega,fun X hX=>by
    simp only [qcH,show decide ((k:Int)<2)=true by simp;omega,cond_true,hy,jd,wS k]
    rw [qcR (by rw [jm];omega)]
    exact hX⟩) 0 (jP _) t rfl
  exact ⟨t',h1,h2⟩
 have hL4:∀ (i4 y8:Int) (y6:List Int) (t:List qaJ),idx x6 i4=some y8→y6.length≤78→t.length≤900000→∃ t',t'.length=t.length+2*y6.length∧Ev (fun n=>qcI x6 i4 y6 n t 0) (t',(y6.length:Int)):=by
  intro i4 y8 y6 t hy hy6 ht
  obtain ⟨t',h1,h2⟩:=loopE (Lf:=qcI x6 i4 y6) (fin:=fun t=>(t,(y6.length:Int))) (fun k t'=>t'.length=t.length+2*k) (len:=y6.length)
   (fun n t=>by simp only [qcI,qk (je _),cond_false])
   (fun k t' hk ht'=>by
    obtain ⟨t2,q1,q2⟩:=hL5 i4 (k:Int) (gt y6 k) y8 t' hy (by omega)
    refine ⟨t2,by omega,fun X hX=>?_⟩
    simp only [qcI,qj hk,cond_true,qX hk,jd,wS k]
    exact Ev.bind q2 hX) 0 (jP _) t rfl
  exact ⟨t',h1,h2⟩
 obtain ⟨⟨x8,x9,x10⟩,_,e3⟩:=loopE (τ:=List (List Int) × List Int × List qaJ) (Lf:=fun n t j=>qdD b x5 x6 n t.1 t.2.1 t.2.2 j) (fin:=fun t=>(t.1,t.2.1,t.2.2,(b.Aj.length:Int))) (fun j t=>t.1.length=j∧t.2.1.length=j∧t.2.2.length≤448+156*j) (len:=b.Aj.length)
  (fun n t=>by simp only [qdD,qk (je _),cond_false])
  (fun j t hj ht=>by
   obtain ⟨h1,h2,h3⟩:=ht
   have h1:t.1.length=j:=h1
   have h2:t.2.1.length=j:=h2
   have h3:t.2.2.length≤448+156*j:=h3
   have hw:=qjq h hj
   have hlo:=hw.lo
   obtain ⟨r4,l4,e4⟩:=qkA h hj
   obtain ⟨r5,l5,e5⟩:=qmu h hj
   have h6:=i56 j
   have hy8:idx x6 (j:Int)=some (gt x6 j):=qX (by omega)
   obtain ⟨t',q1,q2⟩:=hL4 (j:Int) (gt x6 j) (gt x5 j) t.2.2 hy8 (by omega) (by omega)
   refine ⟨(t.1++[r5],t.2.1++[gt r4 0],t'),⟨by simp [h1],by simp [h2],?_⟩,fun X hX=>?_⟩
   ·show t'.length≤_
    omega
   ·simp only [qdD,qj hj,cond_true,wS j]
    refine Ev.bind e4 ?_
    rw [show idx r4 (0:Int)=some (gt r4 0) from qX (j:=0) (by omega)]
    simp only [jd]
    rw [qcR (by rw [jm];omega)]
    simp only [jd]
    refine Ev.bind e5 ?_
    rw [qcR (by rw [jm];omega),qX (show j<x5.length by omega)]
    simp only [jd]
    exact Ev.bind q2 hX) 0 (jP _) ([],[],x1) ⟨rfl,rfl,by show x1.length≤_;have:x1.length≤32*b.Ab.Aa.length:=i1;omega⟩
 refine ⟨x10,x9,x8,?_⟩
 unfold qhy
 refine Ev.bind (qiw hs) (Ev.bind e1 ?_)
 rw [hm1,hm2]
 simp only [jd]
 exact Ev.bind e2 (Ev.bind e3 .done)
end Go.Fw


namespace Go.Fw
open Go Go.Proofs
open Go.RowKit (Below)
set_option maxRecDepth 100000
set_option maxHeartbeats 6400000
variable {n:Nat} {w:World} {cs1 cs2 cs3 cs4 cs5 cs6 cs7 cs8 cs9:List Value}
def qc9 (n:Nat) (a:qf) (b:qf):Option Bool :=
 bif (a.Ap != b.Ap) then some false else
 bif (a.Bd != b.Bd) then some false else
 (qaB n a.Av b.Av).bind fun r1 =>
 bif (!r1) then some false else
 (qaB n a.As b.As).bind fun r2 =>
 bif (!r2) then some false else
 (qaB n a.To b.To).bind fun r3 =>
 bif (!r3) then some false else
 some true
theorem qfx {a:qf} {b:qf} (ha1:GoT.R w (old w) a cs1) (ha2:GoT.R w (old w) b cs2) {r:Bool} (hF:qc9 n a b=some r):RetV Tryz.prog 13 [GoT.v qf cs1,GoT.v qf cs2] w r:=by
 obtain ⟨p1,k1,p2,k2,p3,k3,rfl,s1,s2,s3⟩:=qaY ha1
 obtain ⟨p4,k4,p5,k5,p6,k6,rfl,s4,s5,s6⟩:=qaY ha2
 refine zV 33 Tryz.func13 rfl fun h=>zSR (qr h rfl rfl fun w1 bb1 h=>qr h rfl rfl fun w2 bb2 h=>X2 11 1 0 h rfl (qg rfl hF ?_ ?_))<;>intro hF
 ·exact X0 4 rfl (rb h hF rfl)
 refine X2 10 1 0 h rfl (qg rfl hF ?_ ?_)<;>intro hF
 ·exact X0 4 rfl (rb h hF rfl)
 refine X2 8 1 0 h rfl (zcB h hF (qat ⟨_,_,rfl,(h.oldS s1)⟩ ⟨_,_,rfl,(h.oldS s4)⟩) rfl fun r1 w3 h hF=>X0 2 rfl (qg rfl hF ?_ ?_))<;>intro hF
 ·exact X0 4 rfl (rb h hF rfl)
 refine X2 8 1 0 h rfl (zcB h hF (qat ⟨_,_,rfl,(h.oldS s2)⟩ ⟨_,_,rfl,(h.oldS s5)⟩) rfl fun r2 w4 h hF=>X0 2 rfl (qg rfl hF ?_ ?_))<;>intro hF
 ·exact X0 4 rfl (rb h hF rfl)
 refine X2 8 1 0 h rfl (zcB h hF (qat ⟨_,_,rfl,(h.oldS s3)⟩ ⟨_,_,rfl,(h.oldS s6)⟩) rfl fun r3 w5 h hF=>X0 2 rfl (qg rfl hF ?_ ?_))<;>intro hF
 ·exact X0 4 rfl (rb h hF rfl)
 exact X0 5 rfl (rb h hF rfl)
end Go.Fw


namespace Go.Fw
open Go Go.Proofs
open Go.RowKit (Below)
set_option maxRecDepth 100000
set_option maxHeartbeats 6400000
variable {n:Nat} {w:World} {cs1 cs2 cs3 cs4 cs5 cs6 cs7 cs8 cs9:List Value}
def qaj:Nat→Int→Option ByteArray
 | 0,_=>none
 | n+1,a_n =>
  bif decide (a_n<0) then
   ((qaj n) (W64 (0-a_n))).bind fun r1 =>
   (catB (⟨#[45]⟩:ByteArray) r1).bind fun z1 =>
   some z1
  else
   bif decide (a_n<10) then some (strOf ([(⟨IntKind.wrap .u8 (W64 (48+a_n))⟩:IntK .u8)]:List (IntK .u8))) else
   ((qaj n) (W64 (a_n.tdiv 10))).bind fun r2 =>
   (catB r2 (strOf ([(⟨IntKind.wrap .u8 (W64 (48+(a_n.tmod 10)))⟩:IntK .u8)]:List (IntK .u8)))).bind fun z2 =>
   some z2
theorem qgb {n:Nat}:∀ {w:World} {a_n:Int}  {r:ByteArray} (_:qaj n a_n=some r),RetV Tryz.prog 30 [.int .i64 a_n] w r:=by
 induction n with
 | zero=>intro w a_n r hF;rw [qaj] at hF;cases hF
 | succ n ih =>
  intro w a_n r hF
  obtain ⟨rc,hrc⟩:∃ rc,rc=qaj n:=⟨_,rfl⟩
  rw [←hrc] at ih
  refine zV 26 Tryz.func30 rfl fun h=>?_
  unfold qaj at hF
  rw [←hrc] at hF
  refine X0 10 rfl (qg rfl hF ?_ ?_)<;>intro hF
  ·refine X0 4 rfl (zcS h hF ih rfl fun r1 w1 h hF=>?_)
   obtain ⟨z1,hx1,hF⟩:=qe hF
   obtain ⟨g1,hx1⟩:=qan hx1
   refine r_v (qd6 g1 rfl rfl) rfl ?_
   rw [hx1]
   refine X0 2 rfl ?_
   obtain rfl:=qa hF
   exact qW qb (ρ:=ByteArray) [_] h ⟨rfl,trivial⟩ (qeU _ _)
  ·refine X0 7 rfl (qg rfl hF ?_ ?_)<;>intro hF
   ·refine X0 5 rfl (qR qb [.tmp 13] _ ([(⟨IntKind.wrap .u8 (W64 (48+a_n))⟩:IntK .u8)]:List (IntK .u8)) h rfl rfl rfl rfl rfl rfl rfl rfl rfl ⟨rfl,trivial⟩ rfl fun w2 p1 S1 h=>r_v (qkm qb (h.sl 0 rfl).1 (h.sl 0 rfl).2 rfl ⟨rfl,rfl⟩ ⟨rfl,rfl⟩ rfl rfl) rfl (X0 2 rfl ?_))
    obtain rfl:=qa hF
    exact qW qb (ρ:=ByteArray) [_] h ⟨rfl,trivial⟩ (qeU _ _)
   ·refine zKS ?_
    obtain ⟨r2,hr2,hF⟩:=qe hF
    obtain ⟨z2,hx2,hF⟩:=qe hF
    refine qbx (fun e w'=>e=[(2,.string z2)]∧SH w w' []) ?_ ?_
    ·refine rA [] [] h rfl fun w5 h=>M0 123 [0,1,3,4,5,6] (h.pick [] rfl) rfl (At 2 7 127 251 rfl ?_ ?_)
     ·refine qiQ r2 h (cB 30 rfl) (ih hr2) rfl rfl rfl rfl fun w11 h=>Ag (h.pick [] rfl) (Ao 7 255 rfl (qR qb [.tmp 22] _ ([(⟨IntKind.wrap .u8 (W64 (48+(a_n.tmod 10)))⟩:IntK .u8)]:List (IntK .u8)) h rfl rfl rfl rfl rfl rfl rfl rfl rfl ⟨rfl,trivial⟩ rfl fun w12 p5 S5 h=>Ag (h.pick [] rfl) (Ao 8 511 rfl (r_v (qkm qb (h.sl 0 rfl).1 (h.sl 0 rfl).2 rfl ⟨rfl,rfl⟩ ⟨rfl,rfl⟩ rfl rfl) rfl (Ag (h.pick [] rfl) ?_)))))
      obtain ⟨g6,hx2⟩:=qan hx2
      refine Aw 9 1023 (fun w' hw=>qd6 g6 rfl rfl) (h.pick [] rfl) rfl ?_
      rw [hx2]
      refine M0 2047 [10] (h.pick [] rfl) rfl (Ad ?_)
      replace h:=h.pick [] rfl
      exact rG ⟨rfl,h⟩ rfl
     ·refine qR qb [.tmp 22] _ ([(⟨IntKind.wrap .u8 (W64 (48+(a_n.tmod 10)))⟩:IntK .u8)]:List (IntK .u8)) h rfl rfl rfl rfl rfl rfl rfl rfl rfl ⟨rfl,trivial⟩ rfl fun w13 p6 S6 h=>Ag (h.pick [] rfl) (At 2 8 255 507 rfl ?_ ?_)
      ·refine qiQ r2 h (cB 30 rfl) (ih hr2) rfl rfl rfl rfl fun w14 h=>Ag (h.pick [] rfl) (Ao 8 511 rfl (r_v (qkm qb (h.sl 0 rfl).1 (h.sl 0 rfl).2 rfl ⟨rfl,rfl⟩ ⟨rfl,rfl⟩ rfl rfl) rfl (Ag (h.pick [] rfl) ?_)))
       obtain ⟨g7,hx2⟩:=qan hx2
       refine Aw 9 1023 (fun w' hw=>qd6 g7 rfl rfl) (h.pick [] rfl) rfl ?_
       rw [hx2]
       refine M0 2047 [10] (h.pick [] rfl) rfl (Ad ?_)
       replace h:=h.pick [] rfl
       exact rG ⟨rfl,h⟩ rfl
      ·refine r_v (qkm qb (h.sl 0 rfl).1 (h.sl 0 rfl).2 rfl ⟨rfl,rfl⟩ ⟨rfl,rfl⟩ rfl rfl) rfl (Ag (h.pick [] rfl) (Ao 2 511 rfl (qiQ r2 h (cB 30 rfl) (ih hr2) rfl rfl rfl rfl fun w15 h=>Ag (h.pick [] rfl) ?_)))
       obtain ⟨g8,hx2⟩:=qan hx2
       refine Aw 9 1023 (fun w' hw=>qd6 g8 rfl rfl) (h.pick [] rfl) rfl ?_
       rw [hx2]
       refine M0 2047 [10] (h.pick [] rfl) rfl (Ad ?_)
       replace h:=h.pick [] rfl
       exact rG ⟨rfl,h⟩ rfl
    ·rintro e1 w16 ⟨rfl,h⟩
     obtain rfl:=qa hF
     exact qW qb (ρ:=ByteArray) [_] h ⟨rfl,trivial⟩ (qeU _ _)
def qcS (_:Nat) (l:qh) (d:qc) (p:Tl05Place):Option ByteArray :=
 bif decide (p.instance_<0) then
  (idx d.Ac p.pin).bind fun y1 =>
  some y1.Aq
 else
  (idx d.Aa p.instance_).bind fun y2 =>
  (catB y2.Aq (⟨#[47]⟩:ByteArray)).bind fun z1 =>
  (idx l.Ai y2.Bg).bind fun y3 =>
  (idx y3.Am p.pin).bind fun y4 =>
  (catB z1 y4.Aq).bind fun z2 =>
  some z2
theorem qi3 {l:qh} {d:qc} {p:Tl05Place} (ha1:GoT.R w (old w) l cs1) (ha2:GoT.R w (old w) d cs2) (ha3:GoT.R w (old w) p cs3) {r:ByteArray} (hF:qcS n l d p=some r):RetV Tryz.prog 97 [GoT.v qh cs1,GoT.v qc cs2,GoT.v Tl05Place cs3] w r:=by
 obtain ⟨p1,k1,rfl,s1⟩:=qU ha1
 obtain ⟨p2,k2,p3,k3,p4,k4,rfl,s2,s3,s4⟩:=qK ha2
 obtain rfl:=qd9 ha3
 refine zV 40 Tryz.func97 rfl fun h=>zSR (qr h rfl rfl fun w1 bb1 h=>qr h rfl rfl fun w2 bb2 h=>qr h rfl rfl fun w3 bb3 h=>X1 9 0 h rfl (qg rfl hF ?_ ?_))<;>intro hF
 ·refine X2 6 1 0 h rfl ?_
  obtain ⟨y1,hy1,hF,he1,b1,_,q1,cs4,hp1,hq1,hr1,hc2⟩:=s4.ix hF
  obtain rfl:=qah hr1
  refine zxe hp1 hq1 he1 rfl (zp1 rfl (zc 0 (hc2.below h.below) rfl (X0 2 rfl ?_)))
  obtain rfl:=qa hF
  exact qW qb (ρ:=ByteArray) [_] h ⟨rfl,trivial⟩ (qeU _ _)
 refine X2 7 1 0 h rfl ?_
 obtain ⟨y2,hy2,hF,he2,b2,_,q2,cs5,hp2,hq2,hr2,hc3⟩:=s2.ix hF
 obtain ⟨p5,k5,rfl,s5⟩:=qG hr2
 refine zxe hp2 hq2 he2 rfl (zc 0 (hc3.below h.below) rfl (qB qb h rfl rfl rfl fun w4 bb4 h=>zs 0 h rfl fun w5 h=>zNS (rD (Y1 2 0 h rfl ?_))))
 obtain ⟨z1,hx1,hF⟩:=qe hF
 obtain ⟨g1,hx1⟩:=qan hx1
 refine d_v (fun _ hb=>qd6 g1 rfl rfl) rfl ?_
 rw [hx1]
 refine Y1 2 3 h rfl ?_
 refine Y1 2 0 h rfl ?_
 obtain ⟨y3,hy3,hF,he3,b3,_,q3,cs6,hp3,hq3,hr3,hc4⟩:=s1.ix hF
 obtain ⟨p6,k6,p7,k7,p8,k8,rfl,s6,s7,s8⟩:=qL hr3
 refine zdxe hp3 hq3 he3 rfl (zd1 rfl (zdc 2 (hc4.below h.below) rfl (Y1 2 1 h rfl ?_)))
 obtain ⟨y4,hy4,hF,he4,b4,_,q4,cs7,hp4,hq4,hr4,hc5⟩:=s6.ix hF
 obtain rfl:=qao hr4
 refine zdxe hp4 hq4 he4 rfl (zd1 rfl (zdc 0 (hc5.below h.below) rfl ?_))
 obtain ⟨z2,hx2,hF⟩:=qe hF
 obtain ⟨g2,hx2⟩:=qan hx2
 refine d_v (fun _ hb=>qd6 g2 rfl rfl) rfl ?_
 rw [hx2]
 refine zd1 rfl (dN h fun w6 h=>?_)
 obtain rfl:=qa hF
 exact qW qb (ρ:=ByteArray) [_] h ⟨rfl,trivial⟩ (qeU _ _)
def qf3 (n:Nat) (l:qh) (d:qc) (place:Int):Option ByteArray :=
 (qiN n l d place).bind fun o=>match o with
  | (r2,r3) =>
   bif (!r3) then some (⟨#[]⟩:ByteArray) else
   (qcS n l d r2).bind fun r4 =>
   some r4
theorem qkv {l:qh} {d:qc} {place:Int} (ha1:GoT.R w (old w) l cs1) (ha2:GoT.R w (old w) d cs2) {r:ByteArray} (hF:qf3 n l d place=some r):RetV Tryz.prog 63 [GoT.v qh cs1,GoT.v qc cs2,.int .i64 place] w r:=by
 obtain ⟨p1,k1,rfl,s1⟩:=qU ha1
 obtain ⟨p2,k2,p3,k3,p4,k4,rfl,s2,s3,s4⟩:=qK ha2
 refine zV 22 Tryz.func63 rfl fun h=>zSR (qr h rfl rfl fun w1 bb1 h=>qr h rfl rfl fun w2 bb2 h=>X2 7 1 0 h rfl ?_)
 obtain ⟨r1,hr1,hF⟩:=qe hF
 obtain ⟨r2,r3⟩:=r1
 refine qgB (r2,r3) h (cB 105 rfl) (qmG (h.old ha1) (h.old ha2) hr1) rfl rfl rfl rfl fun w3 S1 us1 hv1 hr2=>?_
 obtain ⟨S2,S3,cs3,us2,rfl,hv2,hr3⟩:=hv1.cons hr2
 obtain rfl:=qd9 (hv2.sh.own 0 rfl)
 obtain ⟨rfl,h⟩:=hv2.lastB hr3
 refine zp3 rfl (qB qb h rfl rfl rfl fun w4 bb3 h=>zs 0 h rfl fun w5 h=>X0 8 rfl (qg rfl hF ?_ ?_))<;>intro hF
 ·refine X0 4 rfl ?_
  obtain rfl:=qa hF
  exact qW qb (ρ:=ByteArray) [_] h ⟨rfl,trivial⟩ (qeU _ _)
 refine X3 6 3 2 0 h rfl (zcS h hF (qi3 (h.old ha1) (h.old ha2) (h.own 1 rfl)) rfl fun r4 w6 h hF=>X0 2 rfl ?_)
 obtain rfl:=qa hF
 exact qW qb (ρ:=ByteArray) [_] h ⟨rfl,trivial⟩ (qeU _ _)
def qca (b:qm) (word:ByteArray) (list:(List Int)):Nat→ByteArray→Int→Option (ByteArray × Int)
 | 0,_,_=>none
 | n+1,z1,i1 =>
  bif decide (i1<(list.length:Int)) then
   (catB z1 (⟨#[32]⟩:ByteArray)).bind fun z2 =>
   (catB z2 word).bind fun z3 =>
   (catB z3 (⟨#[32]⟩:ByteArray)).bind fun z4 =>
   (idx list i1).bind fun y1 =>
   (qf3 n (⟨b.Ah.Ai⟩:qh) (⟨b.Ab.Aa,b.Ab.Af,b.Ab.Ac⟩:qc) y1).bind fun r1 =>
   (catB z4 r1).bind fun z5 =>
   qca b word list n z5 (W64 (i1+1))
  else
   some (z1,i1)
def qeO (n:Nat) (b:qm) (word:ByteArray) (list:(List Int)):Option ByteArray :=
 (qca b word list n (⟨#[]⟩:ByteArray) 0).bind fun o=>match o with
 | (z1,_) =>
  some z1
theorem qgx {b:qm} {word:ByteArray} {list:(List Int)} (ha1:GoT.R w (old w) b cs1) (ha2:GoT.R w (old w) list cs2) {r:ByteArray} (hF:qeO n b word list=some r):RetV Tryz.prog 31 [GoT.v qm cs1,.string word,GoT.v (List Int) cs2] w r:=by
 obtain ⟨p1,k1,p2,k2,p3,k3,p4,k4,p5,k5,rfl,s1,s2,s3,s4,s5⟩:=qaa ha1
 obtain ⟨p6,k6,rfl,s6⟩:=ha2
 refine zV 31 Tryz.func31 rfl fun h=>zSR (qr h rfl rfl fun w1 bb1 h=>X0 11 rfl ?_)
 obtain ⟨o1,hF,hK1⟩:=qe hF
 refine ql (rL (fun m e w'=>∃ (z1:ByteArray) (i1:Int),qca b word list m z1 i1=some o1∧e=[(1,.string word),(2,.slice p6 list.length k6),(3,.pointer (some ⟨bb1,0,none⟩)),(7,.string z1),(8,.int .i64 i1)]∧SH w w' [Ch.box bb1 (qaI b p1 p2 p3 p4 p5 k1 k2 k3 k4 k5) 48]) n ⟨_,_,hF,rfl,h⟩ rfl ?_)
 rintro m1 e1 w2 ⟨z1,i1,hF,rfl,h⟩
 rcases m1 with _|m1
 ·cases hF
 refine X0 8 rfl (qg rfl hF ?_ ?_)<;>intro hF
 ·refine zKSB (rD (zd1 rfl ?_))
  obtain ⟨z2,hx1,hF⟩:=qe hF
  obtain ⟨g1,hx1⟩:=qan hx1
  refine d_v (fun _ hb=>qd6 g1 rfl rfl) rfl ?_
  rw [hx1]
  refine zd1 rfl ?_
  obtain ⟨z3,hx2,hF⟩:=qe hF
  obtain ⟨g2,hx2⟩:=qan hx2
  refine d_v (fun _ hb=>qd6 g2 rfl rfl) rfl ?_
  rw [hx2]
  obtain ⟨z4,hx3,hF⟩:=qe hF
  obtain ⟨g3,hx3⟩:=qan hx3
  refine d_v (fun _ hb=>qd6 g3 rfl rfl) rfl ?_
  rw [hx3]
  refine Y1 2 0 h rfl ?_
  refine Y1 2 0 h rfl ?_
  refine zd2 rfl ?_
  obtain ⟨y1,hy1,hF,he1,b1,_,q1,cs3,hp1,hq1,rfl,hc2⟩:=s6.ix hF
  refine zdxe hp1 hq1 he1 rfl (zdc 0 (hc2.below h.below) rfl ?_)
  obtain ⟨r1,hr2,hF⟩:=qe hF
  refine qbk r1 (vsS _) (cB 63 rfl) (fun _ hb=>qkv (qaV _ ((h.ext hb).oldS s1)) (qai _ ((h.ext hb).oldS s2) ((h.ext hb).oldS s3) ((h.ext hb).oldS s4)) hr2) rfl rfl rfl rfl ?_
  obtain ⟨z5,hx4,hF⟩:=qe hF
  obtain ⟨g4,hx4⟩:=qan hx4
  refine d_v (fun _ hb=>qd6 g4 rfl rfl) rfl ?_
  rw [hx4]
  exact zd1 rfl (dN h fun w3 h=>X0 6 rfl (rK ⟨_,_,hF,rfl,h⟩ rfl))
 refine qq rfl ?_
 obtain rfl:=qa hF;replace hF:=hK1
 refine X0 5 rfl ?_
 obtain rfl:=qa hF
 exact qW qb (ρ:=ByteArray) [_] h ⟨rfl,trivial⟩ (qeU _ _)
def qbz (n:Nat) (b:qm) (a_e:qf):Option ByteArray :=
 (qfg n b a_e).bind fun r1 =>
 bif (!r1) then some (⟨#[]⟩:ByteArray) else
 (idx ([(⟨#[102,97,108,115,101]⟩:ByteArray),(⟨#[99,121,99,108,101,115]⟩:ByteArray),(⟨#[109,97,120]⟩:ByteArray),(⟨#[109,105,110]⟩:ByteArray)]:List ByteArray) (W64 (a_e.Ap-1))).bind fun y1 =>
 (
  bif (a_e.Ap != 1) then
   (catB y1 (⟨#[32]⟩:ByteArray)).bind fun z5 =>
   (qaj n a_e.Bd).bind fun r5 =>
   (catB z5 r5).bind fun z6 =>
   some z6
  else
   some y1).bind fun z1 =>
 (qeO n b (⟨#[102,114,111,109]⟩:ByteArray) a_e.Av).bind fun r2 =>
 (catB z1 r2).bind fun z2 =>
 (qeO n b (⟨#[116,104,114,111,117,103,104]⟩:ByteArray) a_e.As).bind fun r3 =>
 (catB z2 r3).bind fun z3 =>
 (qeO n b (⟨#[116,111]⟩:ByteArray) a_e.To).bind fun r4 =>
 (catB z3 r4).bind fun z4 =>
 some z4
theorem qi6 {b:qm} {a_e:qf} (ha1:GoT.R w (old w) b cs1) (ha2:GoT.R w (old w) a_e cs2) {r:ByteArray} (hF:qbz n b a_e=some r):RetV Tryz.prog 8 [GoT.v qm cs1,GoT.v qf cs2] w r:=by
 obtain ⟨p1,k1,p2,k2,p3,k3,p4,k4,p5,k5,rfl,s1,s2,s3,s4,s5⟩:=qaa ha1
 obtain ⟨p6,k6,p7,k7,p8,k8,rfl,s6,s7,s8⟩:=qaY ha2
 refine zV 41 Tryz.func8 rfl fun h=>zSR (qr h rfl rfl fun w1 bb1 h=>qr h rfl rfl fun w2 bb2 h=>X2 7 1 0 h rfl (zcB h hF (qjT (h.old ha1) (h.old ha2)) rfl fun r1 w3 h hF=>X0 2 rfl (qg rfl hF ?_ ?_)))<;>intro hF
 ·refine X0 4 rfl ?_
  obtain rfl:=qa hF
  exact qW qb (ρ:=ByteArray) [_] h ⟨rfl,trivial⟩ (qeU _ _)
 refine zKSR (qR qb [.const (.string (⟨#[102,97,108,115,101]⟩:ByteArray)),.const (.string (⟨#[99,121,99,108,101,115]⟩:ByteArray)),.const (.string (⟨#[109,97,120]⟩:ByteArray)),.const (.string (⟨#[109,105,110]⟩:ByteArray))] _ ([(⟨#[102,97,108,115,101]⟩:ByteArray),(⟨#[99,121,99,108,101,115]⟩:ByteArray),(⟨#[109,97,120]⟩:ByteArray),(⟨#[109,105,110]⟩:ByteArray)]:List ByteArray) h rfl rfl rfl rfl rfl rfl rfl rfl rfl ⟨rfl,rfl,rfl,rfl,trivial⟩ rfl fun w4 p9 S1 h=>X1 3 1 h rfl ?_)
 obtain ⟨y1,hy1,hF,he1,b1,_,q1,cs3,hp1,hq1,rfl,hc2⟩:=(h.sl 0 rfl).1.ix hF
 refine zx hp1 hq1 ⟨he1.1,qI he1.2.1 (h.sl 0 rfl).2⟩ rfl (zc 0 hc2 rfl (X1 9 1 h rfl ?_))
 obtain ⟨KF1,hKF1,o1,hF,hK1⟩:=bindE hF
 refine qbx (fun e w'=>∃ (z1:ByteArray),KF1 z1=some r∧e=[(2,.pointer (some ⟨bb1,0,none⟩)),(3,.pointer (some ⟨bb2,0,none⟩)),(5,.string z1)]∧SH w w' [Ch.box bb2 (qT a_e p6 p7 p8 k6 k7 k8) 50,Ch.box bb1 (qaI b p1 p2 p3 p4 p5 k1 k2 k3 k4 k5) 48]) ?_ ?_
 ·refine qg rfl hF ?_ ?_<;>intro hF
  ·refine X0 2 rfl ?_
   obtain ⟨z5,hx4,hF⟩:=qe hF
   obtain ⟨g4,hx4⟩:=qan hx4
   refine r_v (qd6 g4 rfl rfl) rfl ?_
   rw [hx4]
   refine X1 2 1 h rfl (zcS h hF qgb rfl fun r5 w6 h hF=>?_)
   obtain ⟨z6,hx5,hF⟩:=qe hF
   obtain ⟨g5,hx5⟩:=qan hx5
   refine r_v (qd6 g5 rfl rfl) rfl ?_
   rw [hx5]
   refine X0 2 rfl ?_
   replace h:=h.pick [1,2] rfl
   obtain rfl:=qa hF
   exact rG ⟨_,hK1,rfl,h⟩ rfl
  refine qeT ?_
  replace h:=h.pick [1,2] rfl
  obtain rfl:=qa hF
  exact rG ⟨_,hK1,rfl,h⟩ rfl
 rintro e1 w7 ⟨z1,hF,rfl,h⟩
 subst hKF1
 refine qfc (rD (Y1 2 1 h rfl ?_))
 refine Y1 2 0 h rfl ?_
 obtain ⟨r2,hr3,hF⟩:=qe hF
 refine qbk r2 (vsS _) (cB 31 rfl) (fun _ hb=>qgx ((h.ext hb).old ha1) ⟨_,_,rfl,((h.ext hb).oldS s6)⟩ hr3) rfl rfl rfl rfl ?_
 obtain ⟨z2,hx1,hF⟩:=qe hF
 obtain ⟨g1,hx1⟩:=qan hx1
 refine d_v (fun _ hb=>qd6 g1 rfl rfl) rfl ?_
 rw [hx1]
 refine Y1 1 1 h rfl ?_
 refine Y1 2 0 h rfl ?_
 obtain ⟨r3,hr4,hF⟩:=qe hF
 refine qbk r3 (vsS _) (cB 31 rfl) (fun _ hb=>qgx ((h.ext hb).old ha1) ⟨_,_,rfl,((h.ext hb).oldS s7)⟩ hr4) rfl rfl rfl rfl ?_
 obtain ⟨z3,hx2,hF⟩:=qe hF
 obtain ⟨g2,hx2⟩:=qan hx2
 refine d_v (fun _ hb=>qd6 g2 rfl rfl) rfl ?_
 rw [hx2]
 refine Y1 1 1 h rfl ?_
 refine Y1 2 0 h rfl ?_
 obtain ⟨r4,hr5,hF⟩:=qe hF
 refine qbk r4 (vsS _) (cB 31 rfl) (fun _ hb=>qgx ((h.ext hb).old ha1) ⟨_,_,rfl,((h.ext hb).oldS s8)⟩ hr5) rfl rfl rfl rfl ?_
 obtain ⟨z4,hx3,hF⟩:=qe hF
 obtain ⟨g3,hx3⟩:=qan hx3
 refine d_v (fun _ hb=>qd6 g3 rfl rfl) rfl ?_
 rw [hx3]
 refine zd1 rfl (dN h fun w5 h=>?_)
 obtain rfl:=qa hF
 exact qW qb (ρ:=ByteArray) [_] h ⟨rfl,trivial⟩ (qeU _ _)
def qdP (_:Nat) (i base:Int):Option ByteArray :=
 if base=10∧-9223372036854775808≤i∧i≤9223372036854775807 then some ⟨(Lib.itoa i).toArray⟩ else none
theorem qjy {i base:Int} (hgv2:GV 2 (Lib.pow10Tab.map (Value.int .u64)) w (old w)) {r:ByteArray} (hF:qdP n i base=some r):RetV Tryz.prog 124 [.int .i64 i,.int .i64 base] w r:=by
 unfold qdP at hF
 split at hF
 ·rename_i hh
  obtain rfl:=qa hF
  obtain ⟨rfl,h0,h1⟩:=hh
  refine (Tryz.strconv_FormatInt_10 i h0 h1 w ((hgv2.var (by kernel_rfl)).trans rfl)).mono ?_
  rintro e w' ⟨rfl,k,os,rfl⟩
  exact ⟨_,rfl,Lib.below_grow _ w (je _) k os,[.string _],rfl,qeU _ _⟩
 cases hF
def qet (n:Nat) (a_n:Int):Option ByteArray :=
 (qdP n a_n 10).bind fun r1 =>
 some r1
theorem qi2 {a_n:Int} (hgv2:GV 2 (Lib.pow10Tab.map (Value.int .u64)) w (old w)) {r:ByteArray} (hF:qet n a_n=some r):RetV Tryz.prog 80 [.int .i64 a_n] w r:=by
 refine zV 5 Tryz.func80 rfl fun h=>X0 7 rfl (zcS h hF (qjy (h.old hgv2)) rfl fun r1 w1 h hF=>X0 2 rfl ?_)
 obtain rfl:=qa hF
 exact qW qb (ρ:=ByteArray) [_] h ⟨rfl,trivial⟩ (qeU _ _)
def qby (_:Nat) (d:qc) (l:qh) (p:Tplace):Option ByteArray :=
 bif decide (p.instance_<0) then
  (idx d.Ac p.pin).bind fun y1 =>
  some y1.Aq
 else
  (idx d.Aa p.instance_).bind fun y2 =>
  (catB y2.Aq (⟨#[47]⟩:ByteArray)).bind fun z1 =>
  (idx l.Ai y2.Bg).bind fun y3 =>
  (idx y3.Am p.pin).bind fun y4 =>
  (catB z1 y4.Aq).bind fun z2 =>
  some z2
theorem qdo {d:qc} {l:qh} {p:Tplace} (ha1:GoT.R w (old w) d cs1) (ha2:GoT.R w (old w) l cs2) (ha3:GoT.R w (old w) p cs3) {r:ByteArray} (hF:qby n d l p=some r):RetV Tryz.prog 81 [GoT.v qc cs1,GoT.v qh cs2,GoT.v Tplace cs3] w r:=by
 obtain ⟨p1,k1,p2,k2,p3,k3,rfl,s1,s2,s3⟩:=qK ha1
 obtain ⟨p4,k4,rfl,s4⟩:=qU ha2
 obtain rfl:=qdI ha3
 refine zV 40 Tryz.func81 rfl fun h=>zSR (qr h rfl rfl fun w1 bb1 h=>qr h rfl rfl fun w2 bb2 h=>qr h rfl rfl fun w3 bb3 h=>X1 9 0 h rfl (qg rfl hF ?_ ?_))<;>intro hF
 ·refine X2 6 2 0 h rfl ?_
  obtain ⟨y1,hy1,hF,he1,b1,_,q1,cs4,hp1,hq1,hr1,hc2⟩:=s3.ix hF
  obtain rfl:=qah hr1
  refine zxe hp1 hq1 he1 rfl (zp1 rfl (zc 0 (hc2.below h.below) rfl (X0 2 rfl ?_)))
  obtain rfl:=qa hF
  exact qW qb (ρ:=ByteArray) [_] h ⟨rfl,trivial⟩ (qeU _ _)
 refine X2 7 2 0 h rfl ?_
 obtain ⟨y2,hy2,hF,he2,b2,_,q2,cs5,hp2,hq2,hr2,hc3⟩:=s1.ix hF
 obtain ⟨p5,k5,rfl,s5⟩:=qG hr2
 refine zxe hp2 hq2 he2 rfl (zc 0 (hc3.below h.below) rfl (qB qb h rfl rfl rfl fun w4 bb4 h=>zs 0 h rfl fun w5 h=>zNS (rD (Y1 2 0 h rfl ?_))))
 obtain ⟨z1,hx1,hF⟩:=qe hF
 obtain ⟨g1,hx1⟩:=qan hx1
 refine d_v (fun _ hb=>qd6 g1 rfl rfl) rfl ?_
 rw [hx1]
 refine Y1 2 2 h rfl ?_
 refine Y1 2 0 h rfl ?_
 obtain ⟨y3,hy3,hF,he3,b3,_,q3,cs6,hp3,hq3,hr3,hc4⟩:=s4.ix hF
 obtain ⟨p6,k6,p7,k7,p8,k8,rfl,s6,s7,s8⟩:=qL hr3
 refine zdxe hp3 hq3 he3 rfl (zd1 rfl (zdc 2 (hc4.below h.below) rfl (Y1 2 1 h rfl ?_)))
 obtain ⟨y4,hy4,hF,he4,b4,_,q4,cs7,hp4,hq4,hr4,hc5⟩:=s6.ix hF
 obtain rfl:=qao hr4
 refine zdxe hp4 hq4 he4 rfl (zd1 rfl (zdc 0 (hc5.below h.below) rfl ?_))
 obtain ⟨z2,hx2,hF⟩:=qe hF
 obtain ⟨g2,hx2⟩:=qan hx2
 refine d_v (fun _ hb=>qd6 g2 rfl rfl) rfl ?_
 rw [hx2]
 refine zd1 rfl (dN h fun w6 h=>?_)
 obtain rfl:=qa hF
 exact qW qb (ρ:=ByteArray) [_] h ⟨rfl,trivial⟩ (qeU _ _)
def qab (a_0:(Option Tview)) (i1:Int) (y2:(List Int)):Nat→ByteArray→Int→Option (ByteArray × Int)
 | 0,_,_=>none
 | n+1,z3,i2 =>
  bif decide (i2<(y2.length:Int)) then
   (idx y2 i2).bind fun y3 =>
   (a_0).bind fun y4 =>
   (idx ([(⟨#[32,102,114,111,109,32]⟩:ByteArray),(⟨#[32,116,104,114,111,117,103,104,32]⟩:ByteArray),(⟨#[32,116,111,32]⟩:ByteArray)]:List ByteArray) i1).bind fun y5 =>
   (idx y4.places y3).bind fun y6 =>
   (qby n (⟨y4.Bh.Ab.Aa,y4.Bh.Ab.Af,y4.Bh.Ab.Ac⟩:qc) (⟨y4.Bh.Ah.Ai⟩:qh) y6).bind fun r1 =>
   (catB y5 r1).bind fun z4 =>
   (catB z3 z4).bind fun z5 =>
   qab a_0 i1 y2 n z5 (W64 (i2+1))
  else
   some (z3,i2)
def qac (a_0:(Option Tview)) (a_1:qf):Nat→ByteArray→Int→Option (ByteArray × Int)
 | 0,_,_=>none
 | n+1,z2,i1 =>
  bif decide (i1<((3:Nat):Int)) then
   (idx ([a_1.Av,a_1.As,a_1.To]:List (List Int)) i1).bind fun y2 =>
   (qab a_0 i1 y2 n z2 0).bind fun o=>match o with
   | (z3,_) =>
    qac a_0 a_1 n z3 (W64 (i1+1))
  else
   some (z2,i1)
def qbc (n:Nat) (a_0:(Option Tview)) (a_1:qf):Option ByteArray :=
 (idx exWords a_1.Ap).bind fun y1 =>
 (
  bif (a_1.Ap != 1) then
   (qet n a_1.Bd).bind fun r2 =>
   (catB (⟨#[32]⟩:ByteArray) r2).bind fun z6 =>
   (catB y1 z6).bind fun z7 =>
   some z7
  else
   some y1).bind fun z1 =>
 (qac a_0 a_1 n z1 0).bind fun o=>match o with
 | (z2,_) =>
  some z2
theorem qhR {a_0:(Option Tview)} {a_1:qf} (ha1:GoT.R w (old w) a_0 cs1) (ha2:GoT.R w (old w) a_1 cs2) (hgv0:GV 0 (exWords.map Value.string) w (old w)) (hgv2:GV 2 (Lib.pow10Tab.map (Value.int .u64)) w (old w)) {r:ByteArray} (hF:qbc n a_0 a_1=some r):RetV Tryz.prog 39 [GoT.v (Option Tview) cs1,GoT.v qf cs2] w r:=by
 obtain ⟨p1,rfl,s1⟩:=qkD ha1
 obtain ⟨p2,k1,p3,k2,p4,k3,rfl,s2,s3,s4⟩:=qaY ha2
 refine zV 70 Tryz.func39 rfl fun h=>zSR (qr h rfl rfl fun w1 bb1 h=>X1 6 0 h rfl ?_)
 obtain ⟨y1,hy1,hF⟩:=qe hF
 have he1:=qaX hy1
 refine r_v (qtb qb rfl rfl ⟨he1.1,he1.2.1⟩ ⟨rfl,rfl⟩ rfl rfl) rfl (r_v (qtd qb (h.old hgv0) (qsY hy1) rfl rfl rfl) rfl (X1 9 0 h rfl ?_))
 obtain ⟨KF1,hKF1,o3,hF,hK3⟩:=bindE hF
 refine qbx (fun e w'=>∃ (z1:ByteArray),KF1 z1=some r∧e=[(0,.pointer p1),(3,.pointer (some ⟨bb1,0,none⟩)),(5,.string z1)]∧SH w w' [Ch.box bb1 (qT a_1 p2 p3 p4 k1 k2 k3) 50]) ?_ ?_
 ·refine qg rfl hF ?_ ?_<;>intro hF
  ·refine X1 4 0 h rfl (zcS h hF (qi2 (h.old hgv2)) rfl fun r2 w19 h hF=>?_)
   obtain ⟨z6,hx3,hF⟩:=qe hF
   obtain ⟨g15,hx3⟩:=qan hx3
   refine r_v (qd6 g15 rfl rfl) rfl ?_
   rw [hx3]
   obtain ⟨z7,hx4,hF⟩:=qe hF
   obtain ⟨g16,hx4⟩:=qan hx4
   refine r_v (qd6 g16 rfl rfl) rfl ?_
   rw [hx4]
   refine X0 2 rfl ?_
   obtain rfl:=qa hF
   exact rG ⟨_,hK3,rfl,h⟩ rfl
  refine qeT ?_
  obtain rfl:=qa hF
  exact rG ⟨_,hK3,rfl,h⟩ rfl
 rintro e4 w20 ⟨z1,hF,rfl,h⟩
 subst hKF1
 refine X3 9 0 0 0 h rfl (qm4 qb [.tmp 24,.tmp 26,.tmp 28] _ ([a_1.Av,a_1.As,a_1.To]:List (List Int)) h rfl rfl rfl rfl rfl rfl rfl rfl rfl ⟨⟨_,_,rfl,s2⟩,⟨_,_,rfl,s3⟩,⟨_,_,rfl,s4⟩,trivial⟩ rfl fun w2 p5 S1 h=>X0 3 rfl ?_)
 obtain ⟨o1,hF,hK1⟩:=qe hF
 refine ql ?_
 replace h:=h.pick [0] rfl
 refine rL (fun m e w'=>∃ (z2:ByteArray) (i1:Int),qac a_0 a_1 m z2 i1=some o1∧e=[(0,.pointer p1),(5,.string z2),(29,.slice p5 3 3),(30,.int .i64 ((3:Nat):Int)),(31,.int .i64 i1)]∧SH w w' [Ch.rowD w S1 (([a_1.Av,a_1.As,a_1.To]:List (List Int)):List (List Int)) p5 3]) n ⟨_,_,hF,rfl,h⟩ rfl ?_
 rintro m1 e1 w3 ⟨z2,i1,hF,rfl,h⟩
 rcases m1 with _|m1
 ·cases hF
 refine X0 5 rfl (qg rfl hF ?_ ?_)<;>intro hF
 ·refine X0 6 rfl ?_
  obtain ⟨y2,hy2,hF⟩:=qe hF
  have he2:=qaX hy2
  obtain ⟨b1,o_1,q1,cs3,hp1,hq1,-,hr1,hc2⟩:=h.atD 0 rfl hy2
  obtain ⟨p6,k4,rfl,s5⟩:=hr1
  refine zxe hp1 hq1 he2 rfl (zc 0 hc2 rfl (X0 9 rfl ?_))
  obtain ⟨o2,hF,hK2⟩:=qe hF
  refine ql (rL (fun m e w'=>∃ (z3:ByteArray) (i2:Int),qab a_0 i1 y2 m z3 i2=some o2∧e=[(0,.pointer p1),(5,.string z3),(6,.int .i64 i1),(29,.slice p5 3 3),(30,.int .i64 ((3:Nat):Int)),(31,.int .i64 i1),(36,.slice p6 y2.length k4),(37,.int .i64 (y2.length:Int)),(38,.int .i64 i2)]∧SH w w' [Ch.rowD w S1 (([a_1.Av,a_1.As,a_1.To]:List (List Int)):List (List Int)) p5 3]) m1 ⟨_,_,hF,rfl,h⟩ rfl ?_)
  rintro m2 e2 w4 ⟨z3,i2,hF,rfl,h⟩
  rcases m2 with _|m2
  ·cases hF
  refine X0 5 rfl (qg rfl hF ?_ ?_)<;>intro hF
  ·refine zKSBSR ?_
   obtain ⟨y3,hy3,hF,he3,b2,_,q2,cs4,hp2,hq2,rfl,hc4⟩:=s5.ix hF
   refine zxe hp2 hq2 he3 rfl (zc 0 (hc4.below h.below) rfl (X0 2 rfl ?_))
   obtain ⟨y4,hy4,hF⟩:=qe hF
   obtain ⟨b3,o_3,cs5,rfl,-,hr3,hc5⟩:=PtR.get s1 hy4
   obtain ⟨p7,k5,p8,k6,p9,k7,p10,k8,p11,k9,p12,k10,p13,k11,p14,k12,p15,k13,p16,k14,rfl,s6,s7,s8,s9,s10,s11,s12,s13,s14,s15⟩:=qke hr3
   obtain ⟨y5,hy5,hF⟩:=qe hF
   obtain ⟨y6,hy6,hF⟩:=qe hF
   obtain ⟨r1,hr6,hF⟩:=qe hF
   obtain ⟨z4,hx1,hF⟩:=qe hF
   obtain ⟨z5,hx2,hF⟩:=qe hF
   refine qbx (fun e w'=>e=[(0,.pointer (some ⟨b3,o_3,none⟩)),(5,.string z5),(6,.int .i64 i1),(29,.slice p5 3 3),(30,.int .i64 ((3:Nat):Int)),(31,.int .i64 i1),(36,.slice p6 y2.length k4),(37,.int .i64 (y2.length:Int)),(38,.int .i64 i2)]∧SH w w' [Ch.rowD w S1 (([a_1.Av,a_1.As,a_1.To]:List (List Int)):List (List Int)) p5 3]) ?_ ?_
   ·refine rA [] [] h rfl fun w7 h=>M0 485 [0,2,5,6,7,8] (h.pick [] rfl) rfl (Al 9 997 1 hc5 (h.pick [] rfl) rfl (M0 16357 [10,11,12,13] (h.pick [] rfl) rfl (Al 14 32741 0 hc5 (h.pick [] rfl) rfl (M0 262117 [15,16,17] (h.pick [] rfl) rfl (Al 18 524261 5 hc5 (h.pick [] rfl) rfl (M0 1048549 [19] (h.pick [] rfl) rfl ?_))))))
    have he9:=qaX hy6
    obtain ⟨b9,o_9,q8,cs11,hp8,hq8,-,hr10,hc11⟩:=s11.at hy6
    obtain rfl:=qdI hr10
    refine Ae 20 2097125 hp8 hq8 he9 (h.pick [] rfl) rfl (Al 21 4194277 0 hc11 (h.pick [] rfl) rfl (At 1 22 4194279 8388581 rfl ?_ ?_))
    ·refine qR qb [.const (.string (⟨#[32,102,114,111,109,32]⟩:ByteArray)),.const (.string (⟨#[32,116,104,114,111,117,103,104,32]⟩:ByteArray)),.const (.string (⟨#[32,116,111,32]⟩:ByteArray))] _ ([(⟨#[32,102,114,111,109,32]⟩:ByteArray),(⟨#[32,116,104,114,111,117,103,104,32]⟩:ByteArray),(⟨#[32,116,111,32]⟩:ByteArray)]:List ByteArray) h rfl rfl rfl rfl rfl rfl rfl rfl rfl ⟨rfl,rfl,rfl,trivial⟩ rfl fun w13 p20 S5 h=>Ag (h.pick [] rfl) ?_
     have he10:=qaX hy5
     obtain ⟨b10,o_10,q9,cs12,hp9,hq9,-,hr11,hc12⟩:=(h.sl 0 rfl).1.at hy5
     obtain rfl:=hr11
     refine Ax 3 4194287 hp9 hq9 ⟨he10.1,qI he10.2.1 (h.sl 0 rfl).2⟩ (h.pick [] rfl) rfl (At 4 22 4194303 8388591 rfl ?_ ?_)
     ·refine r_v (qiV qb (qeb (w1:=w) (S1:=fun _=>False) h 0 rfl hy5 hp9 hq9 rfl) (j:=0) rfl rfl rfl) rfl (Ag (h.pick [] rfl) (Ao 22 8388607 rfl (qiQ r1 h (cB 81 rfl) (qdo (qai _ (h.oldS s7) (h.oldS s8) (h.oldS s9)) (qaV _ (h.oldS s6)) (qfb y6) hr6) rfl rfl rfl rfl fun w14 h=>Ag (h.pick [] rfl) ?_)))
      obtain ⟨g9,hx1⟩:=qan hx1
      refine Aw 23 16777215 (fun w' hw=>qd6 g9 rfl rfl) (h.pick [] rfl) rfl ?_
      rw [hx1]
      obtain ⟨g10,hx2⟩:=qan hx2
      refine Aw 24 33554431 (fun w' hw=>qd6 g10 rfl rfl) (h.pick [] rfl) rfl ?_
      rw [hx2]
      refine M0 67108863 [25] (h.pick [] rfl) rfl (Ad ?_)
      replace h:=h.pick [1] rfl
      exact rG ⟨rfl,h⟩ rfl
     refine qiQ r1 h (cB 81 rfl) (qdo (qai _ (h.oldS s7) (h.oldS s8) (h.oldS s9)) (qaV _ (h.oldS s6)) (qfb y6) hr6) rfl rfl rfl rfl fun w15 h=>Ag (h.pick [] rfl) (Ao 4 8388607 rfl (r_v (qiV qb (qeb (w1:=w) (S1:=fun _=>False) h 0 rfl hy5 hp9 hq9 rfl) (j:=0) rfl rfl rfl) rfl (Ag (h.pick [] rfl) ?_)))
     obtain ⟨g11,hx1⟩:=qan hx1
     refine Aw 23 16777215 (fun w' hw=>qd6 g11 rfl rfl) (h.pick [] rfl) rfl ?_
     rw [hx1]
     obtain ⟨g12,hx2⟩:=qan hx2
     refine Aw 24 33554431 (fun w' hw=>qd6 g12 rfl rfl) (h.pick [] rfl) rfl ?_
     rw [hx2]
     refine M0 67108863 [25] (h.pick [] rfl) rfl (Ad ?_)
     replace h:=h.pick [1] rfl
     exact rG ⟨rfl,h⟩ rfl
    refine qiQ r1 h (cB 81 rfl) (qdo (qai _ (h.oldS s7) (h.oldS s8) (h.oldS s9)) (qaV _ (h.oldS s6)) (qfb y6) hr6) rfl rfl rfl rfl fun w16 h=>Ag (h.pick [] rfl) (Ao 1 8388583 rfl (qR qb [.const (.string (⟨#[32,102,114,111,109,32]⟩:ByteArray)),.const (.string (⟨#[32,116,104,114,111,117,103,104,32]⟩:ByteArray)),.const (.string (⟨#[32,116,111,32]⟩:ByteArray))] _ ([(⟨#[32,102,114,111,109,32]⟩:ByteArray),(⟨#[32,116,104,114,111,117,103,104,32]⟩:ByteArray),(⟨#[32,116,111,32]⟩:ByteArray)]:List ByteArray) h rfl rfl rfl rfl rfl rfl rfl rfl rfl ⟨rfl,rfl,rfl,trivial⟩ rfl fun w17 p21 S6 h=>Ag (h.pick [] rfl) ?_))
    have he11:=qaX hy5
    obtain ⟨b11,o_11,q10,cs13,hp10,hq10,-,hr12,hc13⟩:=(h.sl 0 rfl).1.at hy5
    obtain rfl:=hr12
    refine Ax 3 8388591 hp10 hq10 ⟨he11.1,qI he11.2.1 (h.sl 0 rfl).2⟩ (h.pick [] rfl) rfl (Ao 4 8388607 rfl (r_v (qiV qb (qeb (w1:=w) (S1:=fun _=>False) h 0 rfl hy5 hp10 hq10 rfl) (j:=0) rfl rfl rfl) rfl (Ag (h.pick [] rfl) ?_)))
    obtain ⟨g13,hx1⟩:=qan hx1
    refine Aw 23 16777215 (fun w' hw=>qd6 g13 rfl rfl) (h.pick [] rfl) rfl ?_
    rw [hx1]
    obtain ⟨g14,hx2⟩:=qan hx2
    refine Aw 24 33554431 (fun w' hw=>qd6 g14 rfl rfl) (h.pick [] rfl) rfl ?_
    rw [hx2]
    refine M0 67108863 [25] (h.pick [] rfl) rfl (Ad ?_)
    replace h:=h.pick [1] rfl
    exact rG ⟨rfl,h⟩ rfl
   rintro e3 w18 ⟨rfl,h⟩
   exact X0 5 rfl (rK ⟨_,_,hF,rfl,h⟩ rfl)
  refine qq rfl ?_
  obtain rfl:=qa hF;replace hF:=hK2
  exact X0 5 rfl (rK ⟨_,_,hF,rfl,h⟩ rfl)
 refine qq rfl ?_
 obtain rfl:=qa hF;replace hF:=hK1
 refine X0 5 rfl ?_
 obtain rfl:=qa hF
 exact qW qb (ρ:=ByteArray) [_] h ⟨rfl,trivial⟩ (qeU _ _)
end Go.Fw


namespace Go.Fw
open Go Go.Proofs
open Go.RowKit (Below)
set_option maxRecDepth 100000
set_option maxHeartbeats 6400000
variable {n:Nat} {w:World} {cs1 cs2 cs3 cs4 cs5 cs6 cs7 cs8 cs9:List Value}
def qbj (s:ByteArray) (a_by:(IntK .u8)):Nat→(List ByteArray)→Int→Int→Option ((List ByteArray) × Int × Int)
 | 0,_,_,_=>none
 | n+1,x1,i1,i2 =>
  bif decide (i2≤(s.size:Int)) then
   (
    bif (i2==(s.size:Int)) then some true else
    (atS s i2).bind fun y1 =>
    some (y1==a_by.val)).bind fun b1 =>
   bif b1 then
    (subB s i1 i2).bind fun z1 =>
    (appS x1 ([z1]:List ByteArray)).bind fun x2 =>
    qbj s a_by n x2 (W64 (i2+1)) (W64 (i2+1))
   else
    qbj s a_by n x1 i1 (W64 (i2+1))
  else
   some (x1,i1,i2)
def qgO (n:Nat) (s:ByteArray) (a_by:(IntK .u8)):Option (List ByteArray) :=
 (qbj s a_by n ([]:List ByteArray) 0 0).bind fun o=>match o with
 | (x1,_,_) =>
  some x1
theorem qkN {s:ByteArray} {a_by:(IntK .u8)}  {r:(List ByteArray)} (hF:qgO n s a_by=some r):RetV Tryz.prog 50 [.string s,.int .u8 a_by.val] w r:=by
 refine zV 36 Tryz.func50 rfl fun h=>X0 6 rfl (qR qb [] _ ([]:List ByteArray) h rfl rfl rfl rfl rfl rfl rfl rfl rfl trivial rfl fun w1 p1 S1 h=>X0 11 rfl ?_)
 obtain ⟨o1,hF,hK1⟩:=qe hF
 refine ql (rL (fun m e w'=>∃ (S2:Nat→Prop) (p2:Option Addr) (ln1:Nat) (k1:Nat) (x1:(List ByteArray)) (i1:Int) (i2:Int),qbj s a_by m x1 i1 i2=some o1∧e=[(0,.string s),(1,.int .u8 a_by.val),(5,.slice p2 ln1 k1),(6,.int .i64 i1),(7,.int .i64 i2)]∧SH w w' [Ch.own S2 (x1:List ByteArray) [.slice p2 ln1 k1]]) n ⟨_,_,_,_,_,_,_,hF,rfl,h⟩ rfl ?_)
 rintro m1 e1 w2 ⟨S2,p2,ln1,k1,x1,i1,i2,hF,rfl,h⟩
 obtain rfl:=(h.sl 0 rfl).2
 rcases m1 with _|m1
 ·cases hF
 refine X0 8 rfl (qg rfl hF ?_ ?_)<;>intro hF
 ·refine X0 4 rfl ?_
  obtain ⟨KF1,hKF1,o2,hF,hK2⟩:=bindE hF
  refine qbx (fun e w'=>∃ (b1:Bool),KF1 b1=some o1∧e=[(0,.string s),(1,.int .u8 a_by.val),(5,.slice p2 x1.length k1),(6,.int .i64 i1),(7,.int .i64 i2),(25,.bool b1)]∧SH w w' [Ch.own S2 (x1:List ByteArray) [.slice p2 x1.length k1]]) ?_ ?_
  ·refine X0 6 rfl (qi (t:=19) hF rfl ?_ ?_)<;>intro hF
   ·refine X0 7 rfl ?_
    obtain rfl:=qa hF
    exact rG ⟨_,hK2,rfl,h⟩ rfl
   refine X0 5 rfl ?_
   obtain ⟨y1,hx3,hF⟩:=qe hF
   have g3:=qfG hx3
   refine r_v (qfH qb g3 rfl rfl rfl rfl) rfl (X0 6 rfl ?_)
   obtain rfl:=qa hF
   exact rG ⟨_,hK2,rfl,h⟩ rfl
  rintro e2 w5 ⟨b1,hF,rfl,h⟩
  subst hKF1
  refine qg rfl hF ?_ ?_<;>intro hF
  ·refine X0 6 rfl ?_
   obtain ⟨z1,hx1,hF⟩:=qe hF
   obtain ⟨g1,hx1⟩:=qng hx1
   refine r_v (qod qb g1 rfl rfl rfl rfl rfl) rfl ?_
   rw [hx1]
   refine qR qb [.tmp 30] _ ([z1]:List ByteArray) h rfl rfl rfl rfl rfl rfl rfl rfl rfl ⟨rfl,trivial⟩ rfl fun w3 p3 S3 h=>?_
   obtain ⟨x2,hx2,hF⟩:=qe hF
   obtain ⟨g2,hx2⟩:=qam hx2
   refine qcG qb 1 h rfl (h.sl 0 rfl).1 (h.sl 0 rfl).2 rfl rfl rfl rfl rfl rfl rfl rfl rfl g2 hx2 rfl fun w4 p4 k2 S4 h=>X0 13 rfl ?_
   replace h:=h.pick [1] rfl
   exact rK ⟨_,_,_,_,_,_,_,hF,rfl,h⟩ rfl
  exact X0 7 rfl (rK ⟨_,_,_,_,_,_,_,hF,rfl,h⟩ rfl)
 refine qq rfl ?_
 obtain rfl:=qa hF;replace hF:=hK1
 refine X0 5 rfl ?_
 obtain rfl:=qa hF
 exact rO 0 h rfl ⟨rfl,trivial⟩
def qbi (z1:ByteArray):Nat→Int→Int→Option (Flow (Int × Bool) (Int × Int))
 | 0,_,_=>none
 | n+1,i1,i2 =>
  bif decide (i2<(z1.size:Int)) then
   (
    (atS z1 i2).bind fun y2 =>
    bif decide (y2<48) then some true else
    (atS z1 i2).bind fun y3 =>
    some (decide (y3 > 57))).bind fun b3 =>
   bif b3 then some (.ret (0,false)) else
   (atS z1 i2).bind fun y1 =>
   qbi z1 n (W64 ((W64 (10*i1))+(W64 (IntKind.wrap .u8  (y1-48))))) (W64 (i2+1))
  else
   some (.nxt (i1,i2))
def qdU (n:Nat) (s:ByteArray):Option (Int × Bool) :=
 (
  bif decide ((s.size:Int) > 0) then
   (atS s 0).bind fun y4 =>
   some (y4==45)
  else
   some false).bind fun b1 =>
 (
  bif b1 then
   (subB s 1 (s.size:Int)).bind fun z2 =>
   some z2
  else
   some s).bind fun z1 =>
 (
  bif decide ((z1.size:Int)<1) then some true else
  some (decide ((z1.size:Int) > 12))).bind fun b2 =>
 bif b2 then some (0,false) else
 (qbi z1 n 0 0).bind fun o=>match o with
 | .ret r=>some r
 | .nxt (i1,_) =>
  bif decide ((z1.size:Int)<(s.size:Int)) then
   (qaj n (W64 (0-i1))).bind fun r1 =>
   some (W64 (0-i1),(r1.toList==s.toList))
  else
   (qaj n i1).bind fun r2 =>
   some (i1,(r2.toList==s.toList))
theorem qkI {s:ByteArray}  {r:(Int × Bool)} (hF:qdU n s=some r):RetV Tryz.prog 51 [.string s] w r:=by
 refine zV 62 Tryz.func51 rfl fun h=>X0 12 rfl ?_
 obtain ⟨KF4,hKF4,o5,hF,hK5⟩:=bindE hF
 refine qbx (fun e w'=>∃ (b1:Bool),KF4 b1=some r∧e=[(0,.string s),(4,.string s),(15,.bool b1)]∧SH w w' []) ?_ ?_
 ·refine X0 5 rfl (qi (t:=11) hF rfl ?_ ?_)<;>intro hF
  ·refine X0 3 rfl ?_
   obtain ⟨y4,hx5,hF⟩:=qe hF
   have g5:=qfG hx5
   refine r_v (qfH qb g5 rfl rfl rfl rfl) rfl (X0 4 rfl ?_)
   obtain rfl:=qa hF
   exact rG ⟨_,hK5,rfl,h⟩ rfl
  refine X0 5 rfl ?_
  obtain rfl:=qa hF
  exact rG ⟨_,hK5,rfl,h⟩ rfl
 rintro e5 w7 ⟨b1,hF,rfl,h⟩
 subst hKF4
 obtain ⟨KF3,hKF3,o4,hF,hK4⟩:=bindE hF
 refine qbx (fun e w'=>∃ (z1:ByteArray),KF3 z1=some r∧e=[(0,.string s),(4,.string z1)]∧SH w w' []) ?_ ?_
 ·refine qg rfl hF ?_ ?_<;>intro hF
  ·refine X0 2 rfl ?_
   obtain ⟨z2,hx4,hF⟩:=qe hF
   obtain ⟨g4,hx4⟩:=qng hx4
   refine r_v (qod qb g4 rfl rfl rfl rfl rfl) rfl ?_
   rw [hx4]
   refine X0 2 rfl ?_
   obtain rfl:=qa hF
   exact rG ⟨_,hK4,rfl,h⟩ rfl
  refine qeT ?_
  obtain rfl:=qa hF
  exact rG ⟨_,hK4,rfl,h⟩ rfl
 rintro e4 w6 ⟨z1,hF,rfl,h⟩
 subst hKF3
 refine zSS ?_
 obtain ⟨KF2,hKF2,o3,hF,hK3⟩:=bindE hF
 refine qbx (fun e w'=>∃ (b2:Bool),KF2 b2=some r∧e=[(0,.string s),(4,.string z1),(25,.bool b2)]∧SH w w' []) ?_ ?_
 ·refine X0 5 rfl (qi (t:=21) hF rfl ?_ ?_)<;>intro hF
  ·refine X0 5 rfl ?_
   obtain rfl:=qa hF
   exact rG ⟨_,hK3,rfl,h⟩ rfl
  refine X0 8 rfl ?_
  obtain rfl:=qa hF
  exact rG ⟨_,hK3,rfl,h⟩ rfl
 rintro e3 w5 ⟨b2,hF,rfl,h⟩
 subst hKF2
 refine qg rfl hF ?_ ?_<;>intro hF
 ·refine X0 5 rfl ?_
  obtain rfl:=qa hF
  exact qW qb (ρ:=(Int × Bool)) [GoT.v Int [.int .i64 0],GoT.v Bool [.bool false]] h ⟨rfl,rfl,trivial⟩ (PV.done h (qbT h (qu (S:=fun _=>False) rfl) (qaW (qu (S:=fun _=>False) rfl)) (by rfl)))
 refine X0 10 rfl ?_
 obtain ⟨o1,hF,hK1⟩:=qe hF
 refine ql (rL (fun m e w'=>∃ (i1:Int) (i2:Int),qbi z1 m i1 i2=some o1∧e=[(0,.string s),(4,.string z1),(5,.int .i64 i1),(6,.int .i64 i2)]∧SH w w' []) n ⟨_,_,hF,rfl,h⟩ rfl ?_)
 rintro m1 e1 w1 ⟨i1,i2,hF,rfl,h⟩
 rcases m1 with _|m1
 ·cases hF
 refine X0 8 rfl (qg rfl hF ?_ ?_)<;>intro hF
 ·refine X0 5 rfl ?_
  obtain ⟨KF1,hKF1,o2,hF,hK2⟩:=bindE hF
  refine qbx (fun e w'=>∃ (b3:Bool),KF1 b3=some o1∧e=[(0,.string s),(4,.string z1),(5,.int .i64 i1),(6,.int .i64 i2),(41,.bool b3)]∧SH w w' []) ?_ ?_
  ·refine X0 3 rfl ?_
   obtain ⟨y2,hx2,hF⟩:=qe hF
   have g2:=qfG hx2
   refine r_v (qfH qb g2 rfl rfl rfl rfl) rfl (zp2 rfl (qi (t:=36) hF rfl ?_ ?_))<;>intro hF
   ·refine X0 6 rfl ?_
    obtain rfl:=qa hF
    exact rG ⟨_,hK2,rfl,h⟩ rfl
   refine X0 5 rfl ?_
   obtain ⟨y3,hx3,hF⟩:=qe hF
   have g3:=qfG hx3
   refine r_v (qfH qb g3 rfl rfl rfl rfl) rfl (X0 4 rfl ?_)
   obtain rfl:=qa hF
   exact rG ⟨_,hK2,rfl,h⟩ rfl
  rintro e2 w2 ⟨b3,hF,rfl,h⟩
  subst hKF1
  refine qg rfl hF ?_ ?_<;>intro hF
  ·refine X0 5 rfl ?_
   obtain rfl:=qa hF;replace hF:=hK1
   obtain rfl:=qa hF
   exact qW qb (ρ:=(Int × Bool)) [GoT.v Int [.int .i64 0],GoT.v Bool [.bool false]] h ⟨rfl,rfl,trivial⟩ (PV.done h (qbT h (qu (S:=fun _=>False) rfl) (qaW (qu (S:=fun _=>False) rfl)) (by rfl)))
  refine X0 6 rfl ?_
  obtain ⟨y1,hx1,hF⟩:=qe hF
  have g1:=qfG hx1
  exact r_v (qfH qb g1 rfl rfl rfl rfl) rfl (X0 11 rfl (rK ⟨_,_,hF,rfl,h⟩ rfl))
 refine qq rfl ?_
 obtain rfl:=qa hF;replace hF:=hK1
 refine X0 9 rfl (qg rfl hF ?_ ?_)<;>intro hF
 ·refine X0 9 rfl (zcS h hF qgb rfl fun r1 w3 h hF=>X0 5 rfl ?_)
  obtain rfl:=qa hF
  exact qW qb (ρ:=(Int × Bool)) [GoT.v Int [.int .i64 (W64 (0-i1))],GoT.v Bool [.bool (r1.toList==s.toList)]] h ⟨rfl,rfl,trivial⟩ (PV.done h (qbT h (qu (S:=fun _=>False) rfl) (qaW (qu (S:=fun _=>False) rfl)) (by rfl)))
 refine X0 5 rfl (zcS h hF qgb rfl fun r2 w4 h hF=>X0 5 rfl ?_)
 obtain rfl:=qa hF
 exact qW qb (ρ:=(Int × Bool)) [GoT.v Int [.int .i64 i1],GoT.v Bool [.bool (r2.toList==s.toList)]] h ⟨rfl,rfl,trivial⟩ (PV.done h (qbT h (qu (S:=fun _=>False) rfl) (qaW (qu (S:=fun _=>False) rfl)) (by rfl)))
def qcc (l:qh) (d:qc) (name:ByteArray) (r2:(List Tl05Place)):Nat→Int→Option (Flow Int Int)
 | 0,_=>none
 | n+1,i1 =>
  bif decide (i1<(r2.length:Int)) then
   (idx r2 i1).bind fun y1 =>
   (qcS n l d y1).bind fun r3 =>
   bif (r3.toList==name.toList) then some (.ret i1) else
   qcc l d name r2 n (W64 (i1+1))
  else
   some (.nxt i1)
def qbw (n:Nat) (l:qh) (d:qc) (name:ByteArray):Option Int :=
 (qeQ n l d).bind fun r1 =>
 bif (!r1) then some (-1) else
 (qdj n d).bind fun r2 =>
 (qcc l d name r2 n 0).bind fun o=>match o with
 | .ret r=>some r
 | .nxt _ =>
  some (-1)
theorem qj8 {l:qh} {d:qc} {name:ByteArray} (ha1:GoT.R w (old w) l cs1) (ha2:GoT.R w (old w) d cs2) {r:Int} (hF:qbw n l d name=some r):RetV Tryz.prog 52 [GoT.v qh cs1,GoT.v qc cs2,.string name] w r:=by
 obtain ⟨p1,k1,rfl,s1⟩:=qU ha1
 obtain ⟨p2,k2,p3,k3,p4,k4,rfl,s2,s3,s4⟩:=qK ha2
 refine zV 31 Tryz.func52 rfl fun h=>zSR (qr h rfl rfl fun w1 bb1 h=>qr h rfl rfl fun w2 bb2 h=>X2 7 1 0 h rfl (zcB h hF (qgD (h.old ha1) (h.old ha2)) rfl fun r1 w3 h hF=>X0 2 rfl (qg rfl hF ?_ ?_)))<;>intro hF
 ·exact X0 4 rfl (ri h hF rfl)
 refine X1 4 0 h rfl (zcL h hF (qeY (h.old ha2)) rfl fun r2 w4 S1 p5 k5 h hF=>X0 7 rfl ?_)
 obtain ⟨o1,hF,hK1⟩:=qe hF
 refine ql (rL (fun m e w'=>∃ (i1:Int),qcc l d name r2 m i1=some o1∧e=[(2,.string name),(3,.pointer (some ⟨bb1,0,none⟩)),(4,.pointer (some ⟨bb2,0,none⟩)),(7,.slice p5 r2.length k5),(8,.int .i64 i1)]∧SH w w' [Ch.own S1 (r2:List Tl05Place) [.slice p5 r2.length k5],Ch.box bb2 (qaD d p2 p3 p4 k2 k3 k4) 45,Ch.box bb1 [.slice p1 l.Ai.length k1] 41]) n ⟨_,hF,rfl,h⟩ rfl ?_)
 rintro m1 e1 w5 ⟨i1,hF,rfl,h⟩
 rcases m1 with _|m1
 ·cases hF
 refine X0 8 rfl (qg rfl hF ?_ ?_)<;>intro hF
 ·refine X0 4 rfl (rD (Y1 1 2 h rfl ?_))
  refine Y1 1 1 h rfl ?_
  refine zd2 rfl ?_
  obtain ⟨y1,hy1,hF,he1,b1,_,q1,cs3,hp1,hq1,hr3,hc3⟩:=(h.sl 0 rfl).1.ix hF
  obtain rfl:=qd9 hr3
  refine zdx hp1 hq1 ⟨he1.1,qI he1.2.1 (h.sl 0 rfl).2⟩ rfl (zdc 0 hc3 rfl ?_)
  obtain ⟨r3,hr4,hF⟩:=qe hF
  refine qbk r3 (vsS _) (cB 97 rfl) (fun _ hb=>qi3 ((h.ext hb).old ha1) ((h.ext hb).old ha2) (qeN y1) hr4) rfl rfl rfl rfl (zd2 rfl (dN h fun w6 h=>qg rfl hF ?_ ?_))<;>intro hF
  ·refine X0 5 rfl ?_
   obtain rfl:=qa hF;replace hF:=hK1
   exact ri h hF rfl
  exact X0 7 rfl (rK ⟨_,hF,rfl,h⟩ rfl)
 refine qq rfl ?_
 obtain rfl:=qa hF;replace hF:=hK1
 exact X0 4 rfl (ri h hF rfl)
def qE (a_0:qm) (r1:(List ByteArray)):Nat→(List Int)→(List Int)→(List Int)→Int→Option ((List Int) × (List Int) × (List Int) × Int)
 | 0,_,_,_,_=>none
 | n+1,x1,x2,x3,i4 =>
  bif decide ((W64 (i4+1))<(r1.length:Int)) then
   (idx r1 (W64 (i4+1))).bind fun y2 =>
   (qbw n (⟨a_0.Ah.Ai⟩:qh) (⟨a_0.Ab.Aa,a_0.Ab.Af,a_0.Ab.Ac⟩:qc) y2).bind fun r2 =>
   (idx r1 i4).bind fun y3 =>
   bif (y3.toList==(⟨#[102,114,111,109]⟩:ByteArray).toList) then
    (appS x3 ([r2]:List Int)).bind fun x4 =>
    qE a_0 r1 n x1 x2 x4 (W64 (i4+2))
   else
    bif (y3.toList==(⟨#[116,104,114,111,117,103,104]⟩:ByteArray).toList) then
     (appS x2 ([r2]:List Int)).bind fun x5 =>
     qE a_0 r1 n x1 x5 x3 (W64 (i4+2))
    else
     bif (y3.toList==(⟨#[116,111]⟩:ByteArray).toList) then
      (appS x1 ([r2]:List Int)).bind fun x6 =>
      qE a_0 r1 n x6 x2 x3 (W64 (i4+2))
     else
      qE a_0 r1 n x1 x2 x3 (W64 (i4+2))
  else
   some (x1,x2,x3,i4)
def qdi (n:Nat) (a_0:qm) (a_1:ByteArray):Option (qf × Bool) :=
 (qgO n a_1 (⟨32⟩:IntK .u8)).bind fun r1 =>
 (idx r1 0).bind fun y1 =>
 (
  bif (y1.toList==(⟨#[102,97,108,115,101]⟩:ByteArray).toList) then some (1:Int) else
  bif (y1.toList==(⟨#[99,121,99,108,101,115]⟩:ByteArray).toList) then some 2 else
  bif (y1.toList==(⟨#[109,97,120]⟩:ByteArray).toList) then some 3 else
  bif (y1.toList==(⟨#[109,105,110]⟩:ByteArray).toList) then some 4 else
  some 0).bind fun i1 =>
 (
  bif (i1 != 1) then some (decide ((r1.length:Int) > 1)) else
  some false).bind fun b2 =>
 (
  bif b2 then
   (idx r1 1).bind fun y4 =>
   (qdU n y4).bind fun o=>match o with
    | (r5,_) =>
     some (r5,(2:Int))
  else
   some (0,1)).bind fun o=>match o with
  | (i2,i3) =>
   (qE a_0 r1 n ([]:List Int) ([]:List Int) ([]:List Int) i3).bind fun o=>match o with
   | (x1,x2,x3,_) =>
    bif (a_1.toList==(⟨#[]⟩:ByteArray).toList) then some ((⟨0,0,[],[],[]⟩:qf),false) else
    (qbz n a_0 (⟨i1,i2,x3,x2,x1⟩:qf)).bind fun r3 =>
    bif (r3.toList != a_1.toList) then some ((⟨0,0,[],[],[]⟩:qf),false) else
    some ((⟨i1,i2,x3,x2,x1⟩:qf),true)
theorem qi9 {a_0:qm} {a_1:ByteArray} (ha1:GoT.R w (old w) a_0 cs1) {r:(qf × Bool)} (hF:qdi n a_0 a_1=some r):RetV Tryz.prog 22 [GoT.v qm cs1,.string a_1] w r:=by
 obtain ⟨p1,k1,p2,k2,p3,k3,p4,k4,p5,k5,rfl,s1,s2,s3,s4,s5⟩:=qaa ha1
 refine zV 122 Tryz.func22 rfl fun h=>zSR (qr h rfl rfl fun w1 bb1 h=>qB qb h rfl rfl rfl fun w2 bb2 h=>X0 5 rfl (zcL h hF qkN rfl fun r1 w3 S1 p6 k6 h hF=>X0 4 rfl (r_v (qb6 qb [] [] rfl rfl rfl rfl rfl rfl rfl rfl) rfl (qB qb h rfl rfl rfl fun w4 bb3 h=>zs 0 h rfl fun w5 h=>X0 9 rfl ?_))))
 obtain ⟨y1,hy1,hF,he1,b1,_,q1,cs2,hp1,hq1,rfl,hc1⟩:=(h.sl 1 rfl).1.ix hF
 refine zx hp1 hq1 ⟨he1.1,qI he1.2.1 (h.sl 1 rfl).2⟩ rfl (zc 0 hc1 rfl (X0 7 rfl ?_))
 obtain ⟨KF3,hKF3,o4,hF,hK4⟩:=bindE hF
 refine qbx (fun e w'=>∃ (i1:Int),KF3 i1=some r∧e=[(1,.string a_1),(2,.pointer (some ⟨bb1,0,none⟩)),(4,.pointer (some ⟨bb2,0,none⟩)),(6,.slice p6 r1.length k6),(7,.pointer (some ⟨bb3,0,none⟩)),(8,.int .i64 1)]∧SH w w' [Ch.box bb3 [.int .i64 i1,.int .i64 0,.slice none 0 0,.slice none 0 0,.slice none 0 0] 50,Ch.own S1 (r1:List ByteArray) [.slice p6 r1.length k6],Ch.box bb2 [.int .i64 0,.int .i64 0,.slice none 0 0,.slice none 0 0,.slice none 0 0] 50,Ch.box bb1 (qaI a_0 p1 p2 p3 p4 p5 k1 k2 k3 k4 k5) 48]) ?_ ?_
 ·refine qg rfl hF ?_ ?_<;>intro hF
  ·refine X0 2 rfl (zs 0 h rfl fun w27 h=>qdk ?_)
   obtain rfl:=qa hF
   exact rG ⟨_,hK4,rfl,h⟩ rfl
  refine X0 5 rfl (qg rfl hF ?_ ?_)<;>intro hF
  ·refine X0 2 rfl (zs 0 h rfl fun w28 h=>qdk ?_)
   obtain rfl:=qa hF
   exact rG ⟨_,hK4,rfl,h⟩ rfl
  refine X0 5 rfl (qg rfl hF ?_ ?_)<;>intro hF
  ·refine X0 2 rfl (zs 0 h rfl fun w29 h=>qdk ?_)
   obtain rfl:=qa hF
   exact rG ⟨_,hK4,rfl,h⟩ rfl
  refine X0 5 rfl (qg rfl hF ?_ ?_)<;>intro hF
  ·refine X0 2 rfl (zs 0 h rfl fun w30 h=>qdk ?_)
   obtain rfl:=qa hF
   exact rG ⟨_,hK4,rfl,h⟩ rfl
  refine qeT ?_
  obtain rfl:=qa hF
  exact rG ⟨_,hK4,rfl,h⟩ rfl
 rintro e4 w31 ⟨i1,hF,rfl,h⟩
 subst hKF3
 refine X0 3 rfl ?_
 obtain ⟨KF2,hKF2,o3,hF,hK3⟩:=bindE hF
 refine qbx (fun e w'=>∃ (b2:Bool),KF2 b2=some r∧e=[(1,.string a_1),(2,.pointer (some ⟨bb1,0,none⟩)),(4,.pointer (some ⟨bb2,0,none⟩)),(6,.slice p6 r1.length k6),(7,.pointer (some ⟨bb3,0,none⟩)),(8,.int .i64 1),(35,.bool b2)]∧SH w w' [Ch.box bb3 [.int .i64 i1,.int .i64 0,.slice none 0 0,.slice none 0 0,.slice none 0 0] 50,Ch.own S1 (r1:List ByteArray) [.slice p6 r1.length k6],Ch.box bb2 [.int .i64 0,.int .i64 0,.slice none 0 0,.slice none 0 0,.slice none 0 0] 50,Ch.box bb1 (qaI a_0 p1 p2 p3 p4 p5 k1 k2 k3 k4 k5) 48]) ?_ ?_
 ·refine X1 5 0 h rfl (qi (t:=31) hF rfl ?_ ?_)<;>intro hF
  ·refine X0 8 rfl ?_
   obtain rfl:=qa hF
   exact rG ⟨_,hK3,rfl,h⟩ rfl
  refine X0 5 rfl ?_
  obtain rfl:=qa hF
  exact rG ⟨_,hK3,rfl,h⟩ rfl
 rintro e3 w26 ⟨b2,hF,rfl,h⟩
 subst hKF2
 obtain ⟨KF1,hKF1,o2,hF,hK2⟩:=bindE hF
 refine qbx (fun e w'=>∃ (i2:Int) (i3:Int),KF1 (i2,i3)=some r∧e=[(1,.string a_1),(2,.pointer (some ⟨bb1,0,none⟩)),(4,.pointer (some ⟨bb2,0,none⟩)),(6,.slice p6 r1.length k6),(7,.pointer (some ⟨bb3,0,none⟩)),(8,.int .i64 i3)]∧SH w w' [Ch.box bb3 [.int .i64 i1,.int .i64 i2,.slice none 0 0,.slice none 0 0,.slice none 0 0] 50,Ch.own S1 (r1:List ByteArray) [.slice p6 r1.length k6],Ch.box bb2 [.int .i64 0,.int .i64 0,.slice none 0 0,.slice none 0 0,.slice none 0 0] 50,Ch.box bb1 (qaI a_0 p1 p2 p3 p4 p5 k1 k2 k3 k4 k5) 48]) ?_ ?_
 ·refine qg rfl hF ?_ ?_<;>intro hF
  ·refine X0 3 rfl ?_
   obtain ⟨y4,hy4,hF,he4,b5,_,q4,cs5,hp4,hq4,rfl,hc10⟩:=(h.sl 1 rfl).1.ix hF
   refine zx hp4 hq4 ⟨he4.1,qI he4.2.1 (h.sl 1 rfl).2⟩ rfl (zc 0 hc10 rfl ?_)
   obtain ⟨r4,hr8,hF⟩:=qe hF
   obtain ⟨r5,r6⟩:=r4
   refine qgB (r5,r6) h (cB 51 rfl) (qkI hr8) rfl rfl rfl rfl fun w23 S9 us1 hv1 hr9=>?_
   obtain ⟨S10,us2,rfl,hv2,hr10⟩:=hv1.consI hr9
   obtain ⟨rfl,h⟩:=hv2.lastB hr10
   refine zp4 rfl (zs 0 h rfl fun w24 h=>X0 4 rfl ?_)
   obtain rfl:=qa hF
   exact rG ⟨_,_,hK2,rfl,h⟩ rfl
  refine qeT ?_
  obtain rfl:=qa hF
  exact rG ⟨_,_,hK2,rfl,h⟩ rfl
 rintro e2 w25 ⟨i2,i3,hF,rfl,h⟩
 subst hKF1
 refine qfc ?_
 replace h:=h.nil (α:=Int)
 replace h:=h.nil (α:=Int)
 replace h:=h.nil (α:=Int)
 obtain ⟨o1,hF,hK1⟩:=qe hF
 refine ql (rL (fun m e w'=>∃ (S2:Nat→Prop) (p7:Option Addr) (ln1:Nat) (k7:Nat) (x1:(List Int)) (S3:Nat→Prop) (p8:Option Addr) (ln2:Nat) (k8:Nat) (x2:(List Int)) (S4:Nat→Prop) (p9:Option Addr) (ln3:Nat) (k9:Nat) (x3:(List Int)) (i4:Int),qE a_0 r1 m x1 x2 x3 i4=some o1∧e=[(1,.string a_1),(2,.pointer (some ⟨bb1,0,none⟩)),(4,.pointer (some ⟨bb2,0,none⟩)),(6,.slice p6 r1.length k6),(7,.pointer (some ⟨bb3,0,none⟩)),(8,.int .i64 i4)]∧SH w w' [Ch.own S2 (x1:List Int) [.slice p7 ln1 k7],Ch.own S3 (x2:List Int) [.slice p8 ln2 k8],Ch.own S4 (x3:List Int) [.slice p9 ln3 k9],Ch.box bb3 [.int .i64 i1,.int .i64 i2,.slice p9 ln3 k9,.slice p8 ln2 k8,.slice p7 ln1 k7] 50,Ch.own S1 (r1:List ByteArray) [.slice p6 r1.length k6],Ch.box bb2 [.int .i64 0,.int .i64 0,.slice none 0 0,.slice none 0 0,.slice none 0 0] 50,Ch.box bb1 (qaI a_0 p1 p2 p3 p4 p5 k1 k2 k3 k4 k5) 48]) n ⟨_,_,_,_,_,_,_,_,_,_,_,_,_,_,_,_,hF,rfl,h⟩ rfl ?_)
 rintro m1 e1 w6 ⟨S2,p7,ln1,k7,x1,S3,p8,ln2,k8,x2,S4,p9,ln3,k9,x3,i4,hF,rfl,h⟩
 obtain rfl:=(h.sl 0 rfl).2
 obtain rfl:=(h.sl 1 rfl).2
 obtain rfl:=(h.sl 2 rfl).2
 rcases m1 with _|m1
 ·cases hF
 refine X0 9 rfl (qg rfl hF ?_ ?_)<;>intro hF
 ·refine X0 4 rfl (rA [] [4,6] h rfl fun w7 h=>M2 127 [0,1,2,3,4,5,6] 1 1 (h.pick [4,6] rfl) rfl ?_)
  obtain ⟨y2,hy2,hF,he2,b3,_,q2,cs3,hp2,hq2,rfl,hc3⟩:=(h.sl 4 rfl).1.ix hF
  refine Ax 7 255 hp2 hq2 ⟨he2.1,qI he2.2.1 (h.sl 4 rfl).2⟩ (h.pick [4,6] rfl) rfl (Aw 8 511 (fun w' hw=>qiV qb (qeb (w1:=w) (S1:=fun _=>False) hw 0 rfl hy2 hp2 hq2 rfl) (j:=0) rfl rfl rfl) (h.pick [4,6] rfl) rfl ?_)
  refine Ao 9 1023 rfl (zcI h hF (qj8 (qaV _ (h.oldS s1)) (qai _ (h.oldS s2) (h.oldS s3) (h.oldS s4))) rfl fun r2 w8 h hF=>Ag (h.pick [4,6] rfl) (Ao 10 2047 rfl (qR qb [.tmp 60] _ ([r2]:List Int) h rfl rfl rfl rfl rfl rfl rfl rfl rfl ⟨rfl,trivial⟩ rfl fun w9 p10 S5 h=>G0 4095 [11] (h.pick [5,7] rfl) rfl (Ad (X0 4 rfl ?_)))))
  obtain ⟨y3,hy3,hF,he3,b4,_,q3,cs4,hp3,hq3,rfl,hc4⟩:=(h.sl 5 rfl).1.ix hF
  refine zx hp3 hq3 ⟨he3.1,qI he3.2.1 (h.sl 5 rfl).2⟩ rfl (zc 0 hc4 rfl (X0 7 rfl (qg rfl hF ?_ ?_)))<;>intro hF
  ·refine rA [13] [4] h rfl fun w10 h=>M4 1919 [0,1,2,3,4,5,6,8,9,10] 0 0 0 0 (h.pick [4] rfl) rfl (M1 3967 [11] 0 (h.pick [4] rfl) rfl (Ao 7 4095 rfl ?_))
   obtain ⟨x4,hx1,hF⟩:=qe hF
   obtain ⟨g1,hx1⟩:=qam hx1
   refine qcG qb 3 h rfl (h.sl 0 rfl).1 (h.sl 0 rfl).2 rfl rfl rfl rfl rfl rfl rfl rfl rfl g1 hx1 rfl fun w11 p11 k10 S6 h=>Ag (h.pick [4] rfl) (Aw 12 8191 (fun w' hw=>qb6 qb [0,1,2,3,4] [.tmp 69,.tmp 71,.tmp 75,.tmp 77,.tmp 79] rfl rfl rfl rfl rfl rfl rfl rfl) (h.pick [4] rfl) rfl ?_)
   refine Ao 13 16383 rfl (zs 4 h rfl fun w12 h=>qgl (fun hs=>absurd (hs 13 (by decide)) (by decide)) (Ad (X0 7 rfl ?_)))
   replace h:=h.pick [1,2,3,4,5,6,7] rfl
   exact rK ⟨_,_,_,_,_,_,_,_,_,_,_,_,_,_,_,_,hF,rfl,h⟩ rfl
  refine X0 5 rfl (qg rfl hF ?_ ?_)<;>intro hF
  ·refine rA [13] [4] h rfl fun w13 h=>M4 1535 [0,1,2,3,4,5,6,7,8,10] 0 0 0 0 (h.pick [4] rfl) rfl (M1 3583 [11] 0 (h.pick [4] rfl) rfl (Ao 9 4095 rfl ?_))
   obtain ⟨x5,hx2,hF⟩:=qe hF
   obtain ⟨g2,hx2⟩:=qam hx2
   refine qcG qb 2 h rfl (h.sl 0 rfl).1 (h.sl 0 rfl).2 rfl rfl rfl rfl rfl rfl rfl rfl rfl g2 hx2 rfl fun w14 p12 k11 S7 h=>Ag (h.pick [4] rfl) (Aw 12 8191 (fun w' hw=>qb6 qb [0,1,2,3,4] [.tmp 84,.tmp 86,.tmp 88,.tmp 92,.tmp 94] rfl rfl rfl rfl rfl rfl rfl rfl) (h.pick [4] rfl) rfl ?_)
   refine Ao 13 16383 rfl (zs 4 h rfl fun w15 h=>qgl (fun hs=>absurd (hs 13 (by decide)) (by decide)) (Ad (X0 7 rfl ?_)))
   replace h:=h.pick [1,2,3,4,5,6,7] rfl
   exact rK ⟨_,_,_,_,_,_,_,_,_,_,_,_,_,_,_,_,hF,rfl,h⟩ rfl
  refine X0 5 rfl (qg rfl hF ?_ ?_)<;>intro hF
  ·refine rA [13] [4] h rfl fun w16 h=>M4 511 [0,1,2,3,4,5,6,7,8] 0 0 0 0 (h.pick [4] rfl) rfl (M1 2047 [9,10] 0 (h.pick [4] rfl) rfl (Ao 11 4095 rfl ?_))
   obtain ⟨x6,hx3,hF⟩:=qe hF
   obtain ⟨g3,hx3⟩:=qam hx3
   refine qcG qb 1 h rfl (h.sl 0 rfl).1 (h.sl 0 rfl).2 rfl rfl rfl rfl rfl rfl rfl rfl rfl g3 hx3 rfl fun w17 p13 k12 S8 h=>Ag (h.pick [4] rfl) (Aw 12 8191 (fun w' hw=>qb6 qb [0,1,2,3,4] [.tmp 99,.tmp 101,.tmp 103,.tmp 105,.tmp 109] rfl rfl rfl rfl rfl rfl rfl rfl) (h.pick [4] rfl) rfl ?_)
   refine Ao 13 16383 rfl (zs 4 h rfl fun w18 h=>qgl (fun hs=>absurd (hs 13 (by decide)) (by decide)) (Ad (X0 7 rfl ?_)))
   replace h:=h.pick [1,2,3,4,5,6,7] rfl
   exact rK ⟨_,_,_,_,_,_,_,_,_,_,_,_,_,_,_,_,hF,rfl,h⟩ rfl
  refine X0 8 rfl ?_
  replace h:=h.pick [1,2,3,4,5,6,7] rfl
  exact rK ⟨_,_,_,_,_,_,_,_,_,_,_,_,_,_,_,_,hF,rfl,h⟩ rfl
 refine qq rfl ?_
 obtain rfl:=qa hF;replace hF:=hK1
 refine X0 6 rfl (qi (t:=113) hF rfl ?_ ?_)<;>intro hF
 ·refine X0 7 rfl (qdp rfl rfl (zSR (r_v (qb6 qb [] [] rfl rfl rfl rfl rfl rfl rfl rfl) rfl (zs 5 h rfl fun w19 h=>X0 2 rfl ?_))))
  obtain rfl:=qa hF
  exact qW qb (ρ:=(qf × Bool)) [GoT.v qf [.int .i64 0,.int .i64 0,.slice none 0 0,.slice none 0 0,.slice none 0 0],GoT.v Bool [.bool false]] h ⟨⟨_,_,_,rfl,rfl,h.box 5 rfl,rfl⟩,rfl,trivial⟩ (PV.done h (qbT h (qdT (⟨0,0,[],[],[]⟩:qf) h (qu (S:=fun _=>False) rfl) (qu (S:=fun _=>False) rfl) qfe qfe qfe (by rfl) (by rfl) (by rfl) (by rfl)) (qaW (qu (S:=fun _=>False) rfl)) (by rfl)))
 refine X2 5 6 3 h rfl (zcS h hF (qi6 (h.old ha1) (show GoT.R _ _ ((⟨i1,i2,x3,x2,x1⟩:qf):qf) _ from ⟨[.int .i64 i1],[.int .i64 i2,.slice p9 x3.length k9,.slice p8 x2.length k8,.slice p7 x1.length k7],rfl,rfl,⟨[.int .i64 i2],[.slice p9 x3.length k9,.slice p8 x2.length k8,.slice p7 x1.length k7],rfl,rfl,⟨[.slice p9 x3.length k9],[.slice p8 x2.length k8,.slice p7 x1.length k7],rfl,(h.own 2 rfl),⟨[.slice p8 x2.length k8],[.slice p7 x1.length k7],rfl,(h.own 1 rfl),(h.own 0 rfl)⟩⟩⟩⟩)) rfl fun r3 w20 h hF=>X0 6 rfl (qg rfl hF ?_ ?_))<;>intro hF
 ·refine zSR (r_v (qb6 qb [] [] rfl rfl rfl rfl rfl rfl rfl rfl) rfl (zs 5 h rfl fun w21 h=>X0 2 rfl ?_))
  obtain rfl:=qa hF
  exact qW qb (ρ:=(qf × Bool)) [GoT.v qf [.int .i64 0,.int .i64 0,.slice none 0 0,.slice none 0 0,.slice none 0 0],GoT.v Bool [.bool false]] h ⟨⟨_,_,_,rfl,rfl,h.box 5 rfl,rfl⟩,rfl,trivial⟩ (PV.done h (qbT h (qdT (⟨0,0,[],[],[]⟩:qf) h (qu (S:=fun _=>False) rfl) (qu (S:=fun _=>False) rfl) qfe qfe qfe (by rfl) (by rfl) (by rfl) (by rfl)) (qaW (qu (S:=fun _=>False) rfl)) (by rfl)))
 refine X1 4 3 h rfl (zs 5 h rfl fun w22 h=>X0 2 rfl ?_)
 obtain rfl:=qa hF
 exact qW qb (ρ:=(qf × Bool)) [GoT.v qf [.int .i64 i1,.int .i64 i2,.slice p9 x3.length k9,.slice p8 x2.length k8,.slice p7 x1.length k7],GoT.v Bool [.bool true]] h ⟨⟨_,_,_,rfl,rfl,h.box 5 rfl,rfl⟩,rfl,trivial⟩ (PV.done h (qbT h (qdT (⟨i1,i2,x3,x2,x1⟩:qf) h (qu (S:=fun _=>False) rfl) (qu (S:=fun _=>False) rfl) (qaC 2 h rfl) (qaC 1 h rfl) (qaC 0 h rfl) (by rfl) (by rfl) (by rfl) (by rfl)) (qaW (qu (S:=fun _=>False) rfl)) (by rfl)))
def qcE (n:Nat) (s:ByteArray):Option (Int × Bool) :=
 (parseN s).bind fun y1 =>
 bif y1.2 then
  (qet n y1.1).bind fun r1 =>
  some (y1.1,(r1.toList==s.toList))
 else
  some (y1.1,false)
theorem qkc {s:ByteArray} (hgv2:GV 2 (Lib.pow10Tab.map (Value.int .u64)) w (old w)) (hgv3:GVE 3 isErrC w (old w)) (hgv4:GVE 4 isErrC w (old w)) {r:(Int × Bool)} (hF:qcE n s=some r):RetV Tryz.prog 93 [.string s] w r:=by
 refine zV 20 Tryz.func93 rfl fun h=>X0 8 rfl ?_
 obtain ⟨y1,hy1,hF⟩:=qe hF
 refine qrS (cB 136 rfl) (qpy (h.old hgv3) (h.old hgv4) hy1) rfl rfl rfl rfl ?_
 rintro w1 _ ⟨ev1,rfl,hb1,hv1⟩
 replace h:=h.ext hb1
 refine X0 10 rfl (r_v (qs5 Tryz.underlying203 rfl hv1) rfl (zp1 rfl (qi (t:=14) hF rfl ?_ ?_)))<;>intro hF
 ·refine X0 3 rfl (zcS h hF (qi2 (h.old hgv2)) rfl fun r1 w2 h hF=>X0 8 rfl ?_)
  obtain rfl:=qa hF
  exact qW qb (ρ:=(Int × Bool)) [GoT.v Int [.int .i64 y1.1],GoT.v Bool [.bool (r1.toList==s.toList)]] h ⟨rfl,rfl,trivial⟩ (PV.done h (qbT h (qu (S:=fun _=>False) rfl) (qaW (qu (S:=fun _=>False) rfl)) (by rfl)))
 refine X0 8 rfl ?_
 obtain rfl:=qa hF
 exact qW qb (ρ:=(Int × Bool)) [GoT.v Int [.int .i64 y1.1],GoT.v Bool [.bool false]] h ⟨rfl,rfl,trivial⟩ (PV.done h (qbT h (qu (S:=fun _=>False) rfl) (qaW (qu (S:=fun _=>False) rfl)) (by rfl)))
def qcl (n:Nat) (p:Tplace) (v0:qc) (v1:qh) (v2:ByteArray):Option Bool :=
 (qby n v0 v1 p).bind fun r1 =>
 some (r1.toList==v2.toList)
theorem qhg {p:Tplace} {v0:qc} {v1:qh} {v2:ByteArray} (ha1:GoT.R w (old w) p cs1) {p1:Option Addr} (ha2:GoT.R w (old w) (some v0) [.pointer p1]) {p5:Option Addr} (ha3:GoT.R w (old w) (some v1) [.pointer p5]) {p7:Option Addr} (ha4:GoT.R w (old w) (some v2) [.pointer p7]) {r:Bool} (hF:qcl n p v0 v1 v2=some r):RetV Tryz.prog 138 [GoT.v Tplace cs1,.pointer p1,.pointer p5,.pointer p7] w r:=by
 obtain rfl:=qdI ha1
 obtain ⟨b1,o_1,cs2,rfl,-,hr1,hc1⟩:=PtR.get ha2 rfl
 obtain ⟨p2,k1,p3,k2,p4,k3,rfl,s1,s2,s3⟩:=qK hr1
 obtain ⟨b2,o_2,cs3,rfl,-,hr2,hc2⟩:=PtR.get ha3 rfl
 obtain ⟨p6,k4,rfl,s4⟩:=qU hr2
 obtain ⟨b3,o_3,cs4,rfl,-,hr3,hc3⟩:=PtR.get ha4 rfl
 obtain rfl:=hr3
 refine zV 12 Tryz.func138 rfl fun h=>zSR (qr h rfl rfl fun w1 bb1 h=>X0 3 rfl (rD (zdc 0 (hc1.below h.below) rfl (zdc 0 (hc2.below h.below) rfl (Y1 1 0 h rfl ?_)))))
 obtain ⟨r1,hr4,hF⟩:=qe hF
 exact qbk r1 (vsS _) (cB 81 rfl) (fun _ hb=>qdo (qai v0 ((h.ext hb).oldS s1) ((h.ext hb).oldS s2) ((h.ext hb).oldS s3)) (qaV v1 ((h.ext hb).oldS s4)) ((h.ext hb).old ha1) hr4) rfl rfl rfl rfl (zdc 0 (hc3.below h.below) rfl (zd2 rfl (dN h fun w2 h=>rb h hF rfl)))
def qv (s:(List Tplace)) (f_0:qc) (f_1:qh) (f_2:ByteArray):Nat→Int→Option (Flow Int Int)
 | 0,_=>none
 | n+1,i1 =>
  bif decide (i1<(s.length:Int)) then
   (idx s i1).bind fun y1 =>
   (qcl n y1 f_0 f_1 f_2).bind fun r1 =>
   bif r1 then some (.ret i1) else
   qv s f_0 f_1 f_2 n (W64 (i1+1))
  else
   some (.nxt i1)
def qal (n:Nat) (s:(List Tplace)) (f_0:qc) (f_1:qh) (f_2:ByteArray):Option Int :=
 (qv s f_0 f_1 f_2 n 0).bind fun o=>match o with
 | .ret r=>some r
 | .nxt _ =>
  some (-1)
theorem qcu {s:(List Tplace)} {f_0:qc} {f_1:qh} {f_2:ByteArray} (ha1:GoT.R w (old w) s cs1) {p2:Option Addr} (ha2:GoT.R w (old w) (some f_0) [.pointer p2]) {p6:Option Addr} (ha3:GoT.R w (old w) (some f_1) [.pointer p6]) {p8:Option Addr} (ha4:GoT.R w (old w) (some f_2) [.pointer p8]) {r:Int} (hF:qal n s f_0 f_1 f_2=some r):RetV Tryz.prog 137 [GoT.v (List Tplace) cs1,.func (.func 138) #[] #[.pointer p2,.pointer p6,.pointer p8]] w r:=by
 obtain ⟨p1,k1,rfl,s1⟩:=ha1
 obtain ⟨b1,o_1,cs2,rfl,-,hr1,hc1⟩:=PtR.get ha2 rfl
 obtain ⟨p3,k2,p4,k3,p5,k4,rfl,s2,s3,s4⟩:=qK hr1
 obtain ⟨b2,o_2,cs3,rfl,-,hr2,hc2⟩:=PtR.get ha3 rfl
 obtain ⟨p7,k5,rfl,s5⟩:=qU hr2
 obtain ⟨b3,o_3,cs4,rfl,-,hr3,hc3⟩:=PtR.get ha4 rfl
 obtain rfl:=hr3
 refine zV 19 Tryz.func137 rfl fun h=>X0 11 rfl ?_
 obtain ⟨o1,hF,hK1⟩:=qe hF
 refine ql (rL (fun m e w'=>∃ (i1:Int),qv s f_0 f_1 f_2 m i1=some o1∧e=[(0,.slice p1 s.length k1),(1,.func (.func 138) #[] #[.pointer (some ⟨b1,o_1,none⟩),.pointer (some ⟨b2,o_2,none⟩),.pointer (some ⟨b3,o_3,none⟩)]),(7,.int .i64 (s.length:Int)),(8,.int .i64 i1)]∧SH w w' []) n ⟨_,hF,rfl,h⟩ rfl ?_)
 rintro m1 e1 w1 ⟨i1,hF,rfl,h⟩
 rcases m1 with _|m1
 ·cases hF
 refine X0 5 rfl (qg rfl hF ?_ ?_)<;>intro hF
 ·refine X0 13 rfl ?_
  obtain ⟨y1,hy1,hF,he1,b4,_,q1,cs5,hp1,hq1,hr4,hc5⟩:=s1.ix hF
  obtain rfl:=qdI hr4
  refine zxe hp1 hq1 he1 rfl (zc 0 (hc5.below h.below) rfl (zcB h hF (qhg (qfb y1) (h.old ha2) (h.old ha3) (h.old ha4)) rfl fun r1 w2 h hF=>qdk (qg rfl hF ?_ ?_)))<;>intro hF
  ·refine X0 5 rfl ?_
   obtain rfl:=qa hF;replace hF:=hK1
   exact ri h hF rfl
  exact X0 6 rfl (rK ⟨_,hF,rfl,h⟩ rfl)
 refine qq rfl ?_
 obtain rfl:=qa hF;replace hF:=hK1
 exact X0 4 rfl (ri h hF rfl)
def qaT (n:Nat) (d:qc) (l:qh) (name:ByteArray):Option Int :=
 (qbf n d).bind fun r1 =>
 (qal n r1 d l name).bind fun r2 =>
 some r2
theorem qh0 {d:qc} {l:qh} {name:ByteArray} (ha1:GoT.R w (old w) d cs1) (ha2:GoT.R w (old w) l cs2) {r:Int} (hF:qaT n d l name=some r):RetV Tryz.prog 94 [GoT.v qc cs1,GoT.v qh cs2,.string name] w r:=by
 obtain ⟨p1,k1,p2,k2,p3,k3,rfl,s1,s2,s3⟩:=qK ha1
 obtain ⟨p4,k4,rfl,s4⟩:=qU ha2
 exact zV 11 Tryz.func94 rfl fun h=>zSR (qr h rfl rfl fun w1 bb1 h=>qr h rfl rfl fun w2 bb2 h=>qr h rfl rfl fun w3 bb3 h=>X1 5 2 h rfl (zcL h hF (qb9 (h.old ha1)) rfl fun r1 w4 S1 p5 k5 h hF=>zp1 rfl (zcI h hF (qcu (h.own 0 rfl) (qga (x:=d) 3 h rfl (h.old ha1)) (qga (x:=l) 2 h rfl (h.old ha2)) (qga (x:=name) 1 h rfl rfl)) rfl fun r2 w5 h hF=>X0 2 rfl (ri h hF rfl))))
def qt (a_0:(Option Tview)) (x2:(List ByteArray)):Nat→(List Int)→(List Int)→(List Int)→Int→Option ((List Int) × (List Int) × (List Int) × Int)
 | 0,_,_,_,_=>none
 | n+1,x3,x4,x5,i2 =>
  bif decide ((W64 (i2+1))<(x2.length:Int)) then
   (a_0).bind fun y2 =>
   (idx x2 (W64 (i2+1))).bind fun y3 =>
   (qaT n (⟨y2.Bh.Ab.Aa,y2.Bh.Ab.Af,y2.Bh.Ab.Ac⟩:qc) (⟨y2.Bh.Ah.Ai⟩:qh) y3).bind fun r2 =>
   (idx x2 i2).bind fun y4 =>
   bif (y4.toList==(⟨#[102,114,111,109]⟩:ByteArray).toList) then
    (appS x5 ([r2]:List Int)).bind fun x6 =>
    qt a_0 x2 n x3 x4 x6 (W64 (i2+2))
   else
    bif (y4.toList==(⟨#[116,104,114,111,117,103,104]⟩:ByteArray).toList) then
     (appS x4 ([r2]:List Int)).bind fun x7 =>
     qt a_0 x2 n x3 x7 x5 (W64 (i2+2))
    else
     bif (y4.toList==(⟨#[116,111]⟩:ByteArray).toList) then
      (appS x3 ([r2]:List Int)).bind fun x8 =>
      qt a_0 x2 n x8 x4 x5 (W64 (i2+2))
     else
      qt a_0 x2 n x3 x4 x5 (W64 (i2+2))
  else
   some (x3,x4,x5,i2)
def qcA (n:Nat) (a_0:(Option Tview)) (a_1:(List ByteArray)):Option qf :=
 (idx a_1 0).bind fun y1 =>
 (qa1 n exWords y1).bind fun r1 =>
 (subS a_1 1 (a_1.length:Int)).bind fun x1 =>
 (
  bif (r1 != 1) then some (decide ((x1.length:Int) > 0)) else
  some false).bind fun b2 =>
 (
  bif b2 then
   (idx x1 0).bind fun y5 =>
   (qcE n y5).bind fun o=>match o with
    | (r4,_) =>
     (subS x1 1 (x1.length:Int)).bind fun x9 =>
     some (x9,r4)
  else
   some (x1,0)).bind fun o=>match o with
  | (x2,i1) =>
   (qt a_0 x2 n ([]:List Int) ([]:List Int) ([]:List Int) 0).bind fun o=>match o with
   | (x3,x4,x5,_) =>
    some (⟨r1,i1,x5,x4,x3⟩:qf)
theorem qhN {a_0:(Option Tview)} {a_1:(List ByteArray)} (ha1:GoT.R w (old w) a_0 cs1) (ha2:GoT.R w (old w) a_1 cs2) (hgv0:GV 0 (exWords.map Value.string) w (old w)) (hgv2:GV 2 (Lib.pow10Tab.map (Value.int .u64)) w (old w)) (hgv3:GVE 3 isErrC w (old w)) (hgv4:GVE 4 isErrC w (old w)) {r:qf} (hF:qcA n a_0 a_1=some r):RetV Tryz.prog 48 [GoT.v (Option Tview) cs1,GoT.v (List ByteArray) cs2] w r:=by
 obtain ⟨p1,rfl,s1⟩:=qkD ha1
 obtain ⟨p2,k1,rfl,s2⟩:=ha2
 refine zV 87 Tryz.func48 rfl fun h=>zSR (qB qb h rfl rfl rfl fun w1 bb1 h=>zNS (rA [] [] h rfl fun w2 h=>?_))
 have s3:=hgv0.slR (xs:=exWords) (by decide)
 refine Aw 0 1 (fun w' hw=>qq5 qb rfl ⟨rfl,rfl⟩ rfl) (h.pick [] rfl) rfl ?_
 refine M0 3 [1] (h.pick [] rfl) rfl ?_
 obtain ⟨y1,hy1,hF,he1,b1,_,q1,cs3,hp1,hq1,rfl,hc1⟩:=s2.ix hF
 refine Ae 2 7 hp1 hq1 he1 (h.pick [] rfl) rfl (Al 3 15 0 hc1 (h.pick [] rfl) rfl ?_)
 obtain ⟨r1,hr2,hF⟩:=qe hF
 refine qpB (fun e w'=>∃ (bb6:Nat),e=[(0,.pointer p1),(1,.slice p2 a_1.length k1),(4,.pointer (some ⟨bb1,0,none⟩)),(5,.pointer (some ⟨bb6,0,none⟩))]∧SH w w' [Ch.box bb6 [.int .i64 r1,.int .i64 0,.slice none 0 0,.slice none 0 0,.slice none 0 0] 50,Ch.box bb1 [.int .i64 0,.int .i64 0,.slice none 0 0,.slice none 0 0,.slice none 0 0] 50]) 0 (bits 8 255) ?_ ?_
 ·intro K
  refine At 4 6 31 79 rfl ?_ ?_
  ·refine qnE r1 h (cB 92 rfl) (qev ⟨_,_,rfl,(h.oldS s3)⟩ hr2) rfl rfl rfl rfl fun w10 h=>Ag (h.pick [] rfl) (Aw 5 63 (fun w' hw=>qb6 qb [0] [.tmp 13] rfl rfl rfl rfl rfl rfl rfl rfl) (h.pick [] rfl) rfl ?_)
   exact Ao 6 127 rfl (qB qb h rfl rfl rfl fun w11 bb5 h=>Ag (h.pick [] rfl) (Ao 7 255 rfl (zs 0 h rfl fun w12 h=>Ag (h.pick [] rfl) (qpN [(0,_),(1,_),(4,_),(5,_)] ⟨rfl,rfl,rfl,rfl,trivial⟩ (K _ _ ⟨_,rfl,h⟩)))))
  refine qB qb h rfl rfl rfl fun w10 bb5 h=>Ag (h.pick [] rfl) (Ao 4 95 rfl (qnE r1 h (cB 92 rfl) (qev ⟨_,_,rfl,(h.oldS s3)⟩ hr2) rfl rfl rfl rfl fun w11 h=>Ag (h.pick [] rfl) (Aw 5 127 (fun w' hw=>qb6 qb [0] [.tmp 13] rfl rfl rfl rfl rfl rfl rfl rfl) (h.pick [] rfl) rfl ?_)))
  exact Ao 7 255 rfl (zs 0 h rfl fun w12 h=>Ag (h.pick [] rfl) (qpN [(0,_),(1,_),(4,_),(5,_)] ⟨rfl,rfl,rfl,rfl,trivial⟩ (K _ _ ⟨_,rfl,h⟩)))
 rintro e2 w13 ⟨bb6,rfl,h⟩
 refine Ad (X0 3 rfl ?_)
 obtain ⟨x1,hx1,hF⟩:=qe hF
 obtain ⟨p3,k2,hp2,hk1,hl1,g1⟩:=qnA (h.oldS s2) hx1
 refine r_v (qkh qb rfl rfl rfl (qnF g1 rfl) hp2 hk1 hl1 rfl rfl rfl rfl) rfl ?_
 have s4:=qn1 s2 hx1 hp2 hk1
 refine zp1 rfl ?_
 replace h:=h.addSee s4
 refine zNSS ?_
 obtain ⟨KF2,hKF2,o3,hF,hK3⟩:=bindE hF
 refine qbx (fun e w'=>∃ (b2:Bool),KF2 b2=some r∧e=[(0,.pointer p1),(4,.pointer (some ⟨bb1,0,none⟩)),(5,.pointer (some ⟨bb6,0,none⟩)),(6,.slice p3 x1.length k2),(24,.bool b2)]∧SH w w' [Ch.see w (fun _=>False) (x1:List ByteArray) p3 k2,Ch.box bb6 [.int .i64 r1,.int .i64 0,.slice none 0 0,.slice none 0 0,.slice none 0 0] 50,Ch.box bb1 [.int .i64 0,.int .i64 0,.slice none 0 0,.slice none 0 0,.slice none 0 0] 50]) ?_ ?_
 ·refine X1 5 1 h rfl (qi (t:=20) hF rfl ?_ ?_)<;>intro hF
  ·refine X0 8 rfl ?_
   obtain rfl:=qa hF
   exact rG ⟨_,hK3,rfl,h⟩ rfl
  refine X0 5 rfl ?_
  obtain rfl:=qa hF
  exact rG ⟨_,hK3,rfl,h⟩ rfl
 rintro e5 w29 ⟨b2,hF,rfl,h⟩
 subst hKF2
 obtain ⟨KF1,hKF1,o2,hF,hK2⟩:=bindE hF
 refine qbx (fun e w'=>∃ (S1:Nat→Prop) (p4:Option Addr) (k3:Nat) (x2:(List ByteArray)) (i1:Int),KF1 (x2,i1)=some r∧e=[(0,.pointer p1),(4,.pointer (some ⟨bb1,0,none⟩)),(5,.pointer (some ⟨bb6,0,none⟩)),(6,.slice p4 x2.length k3)]∧SH w w' [Ch.see w S1 (x2:List ByteArray) p4 k3,Ch.box bb6 [.int .i64 r1,.int .i64 i1,.slice none 0 0,.slice none 0 0,.slice none 0 0] 50,Ch.box bb1 [.int .i64 0,.int .i64 0,.slice none 0 0,.slice none 0 0,.slice none 0 0] 50]) ?_ ?_
 ·refine qg rfl hF ?_ ?_<;>intro hF
  ·refine X0 3 rfl ?_
   obtain ⟨y5,hy5,hF,he4,b6,_,q4,cs7,hp5,hq4,rfl,hc10⟩:=(h.oldS (h.seeS 0 rfl)).ix hF
   refine zx hp5 hq4 ⟨he4.1,qI he4.2.1 rfl⟩ rfl (zc 0 hc10 rfl ?_)
   obtain ⟨r3,hr8,hF⟩:=qe hF
   obtain ⟨r4,r5⟩:=r3
   refine qgB (r4,r5) h (cB 93 rfl) (qkc (h.old hgv2) (h.old hgv3) (h.old hgv4) hr8) rfl rfl rfl rfl fun w26 S11 us1 hv1 hr9=>?_
   obtain ⟨S12,us2,rfl,hv2,hr10⟩:=hv1.consI hr9
   obtain ⟨rfl,h⟩:=hv2.lastB hr10
   refine zp4 rfl (zs 1 h rfl fun w27 h=>X0 3 rfl ?_)
   obtain ⟨x9,hx5,hF⟩:=qe hF
   obtain ⟨p24,k20,hp6,hk2,hl2,g5⟩:=qnA (h.oldS (h.seeS 0 rfl)) hx5
   refine r_v (qkh qb rfl rfl rfl (qnF g5 rfl) hp6 hk2 hl2 rfl rfl rfl rfl) rfl ?_
   have s15:=qn1 (h.seeS 0 rfl) hx5 hp6 hk2
   refine zp1 rfl ?_
   replace h:=h.addSee s15
   refine qdk ?_
   replace h:=h.pick [0,2,3] rfl
   obtain rfl:=qa hF
   exact rG ⟨_,_,_,_,_,hK2,rfl,h⟩ rfl
  refine qeT ?_
  obtain rfl:=qa hF
  exact rG ⟨_,_,_,_,_,hK2,rfl,h⟩ rfl
 rintro e4 w28 ⟨S1,p4,k3,x2,i1,hF,rfl,h⟩
 subst hKF1
 refine X0 5 rfl ?_
 replace h:=h.nil (α:=Int)
 replace h:=h.nil (α:=Int)
 replace h:=h.nil (α:=Int)
 obtain ⟨o1,hF,hK1⟩:=qe hF
 refine ql (rL (fun m e w'=>∃ (S2:Nat→Prop) (p5:Option Addr) (ln1:Nat) (k4:Nat) (x3:(List Int)) (S3:Nat→Prop) (p6:Option Addr) (ln2:Nat) (k5:Nat) (x4:(List Int)) (S4:Nat→Prop) (p7:Option Addr) (ln3:Nat) (k6:Nat) (x5:(List Int)) (i2:Int),qt a_0 x2 m x3 x4 x5 i2=some o1∧e=[(0,.pointer p1),(4,.pointer (some ⟨bb1,0,none⟩)),(5,.pointer (some ⟨bb6,0,none⟩)),(6,.slice p4 x2.length k3),(7,.int .i64 i2)]∧SH w w' [Ch.own S2 (x3:List Int) [.slice p5 ln1 k4],Ch.own S3 (x4:List Int) [.slice p6 ln2 k5],Ch.own S4 (x5:List Int) [.slice p7 ln3 k6],Ch.see w S1 (x2:List ByteArray) p4 k3,Ch.box bb6 [.int .i64 r1,.int .i64 i1,.slice p7 ln3 k6,.slice p6 ln2 k5,.slice p5 ln1 k4] 50,Ch.box bb1 [.int .i64 0,.int .i64 0,.slice none 0 0,.slice none 0 0,.slice none 0 0] 50]) n ⟨_,_,_,_,_,_,_,_,_,_,_,_,_,_,_,_,hF,rfl,h⟩ rfl ?_)
 rintro m1 e3 w14 ⟨S2,p5,ln1,k4,x3,S3,p6,ln2,k5,x4,S4,p7,ln3,k6,x5,i2,hF,rfl,h⟩
 obtain rfl:=(h.sl 0 rfl).2
 obtain rfl:=(h.sl 1 rfl).2
 obtain rfl:=(h.sl 2 rfl).2
 rcases m1 with _|m1
 ·cases hF
 refine X0 9 rfl (qg rfl hF ?_ ?_)<;>intro hF
 ·refine X0 4 rfl (rD (zd1 rfl ?_))
  obtain ⟨y2,hy2,hF⟩:=qe hF
  obtain ⟨b3,o_2,cs4,rfl,-,hr3,hc3⟩:=PtR.get s1 hy2
  obtain ⟨p8,k7,p9,k8,p10,k9,p11,k10,p12,k11,p13,k12,p14,k13,p15,k14,p16,k15,p17,k16,rfl,s5,s6,s7,s8,s9,s10,s11,s12,s13,s14⟩:=qke hr3
  refine zd3 rfl (zdc 1 (hc3.below h.below) rfl (zd4 rfl (zdc 0 (hc3.below h.below) rfl (zd3 rfl ?_))))
  obtain ⟨y3,hy3,hF,he2,b4,_,q2,cs5,hp3,hq2,rfl,hc4⟩:=(h.oldS (h.seeS 3 rfl)).ix hF
  refine zdx hp3 hq2 ⟨he2.1,qI he2.2.1 rfl⟩ rfl (zdc 0 hc4 rfl ?_)
  obtain ⟨r2,hr5,hF⟩:=qe hF
  refine qbk r2 (vsI _) (cB 94 rfl) (fun _ hb=>qh0 (qai _ ((h.ext hb).oldS s6) ((h.ext hb).oldS s7) ((h.ext hb).oldS s8)) (qaV _ ((h.ext hb).oldS s5)) hr5) rfl rfl rfl rfl (zd1 rfl (dN h fun w15 h=>X0 4 rfl ?_))
  obtain ⟨y4,hy4,hF,he3,b5,_,q3,cs6,hp4,hq3,rfl,hc5⟩:=(h.oldS (h.seeS 3 rfl)).ix hF
  refine zx hp4 hq3 ⟨he3.1,qI he3.2.1 rfl⟩ rfl (zc 0 hc5 rfl (X0 7 rfl (qg rfl hF ?_ ?_)))<;>intro hF
  ·refine X1 4 4 h rfl (qR qb [.tmp 66] _ ([r2]:List Int) h rfl rfl rfl rfl rfl rfl rfl rfl rfl ⟨rfl,trivial⟩ rfl fun w16 p18 S5 h=>?_)
   obtain ⟨x6,hx2,hF⟩:=qe hF
   obtain ⟨g2,hx2⟩:=qam hx2
   refine qcG qb 3 h rfl (h.sl 0 rfl).1 (h.sl 0 rfl).2 rfl rfl rfl rfl rfl rfl rfl rfl rfl g2 hx2 rfl fun w17 p19 k17 S6 h=>zp1 rfl (zs 5 h rfl fun w18 h=>X0 8 rfl ?_)
   replace h:=h.pick [1,2,3,4,5,6] rfl
   exact rK ⟨_,_,_,_,_,_,_,_,_,_,_,_,_,_,_,_,hF,rfl,h⟩ rfl
  refine X0 5 rfl (qg rfl hF ?_ ?_)<;>intro hF
  ·refine X1 4 4 h rfl (qR qb [.tmp 74] _ ([r2]:List Int) h rfl rfl rfl rfl rfl rfl rfl rfl rfl ⟨rfl,trivial⟩ rfl fun w19 p20 S7 h=>?_)
   obtain ⟨x7,hx3,hF⟩:=qe hF
   obtain ⟨g3,hx3⟩:=qam hx3
   refine qcG qb 2 h rfl (h.sl 0 rfl).1 (h.sl 0 rfl).2 rfl rfl rfl rfl rfl rfl rfl rfl rfl g3 hx3 rfl fun w20 p21 k18 S8 h=>zp1 rfl (zs 5 h rfl fun w21 h=>X0 8 rfl ?_)
   replace h:=h.pick [1,2,3,4,5,6] rfl
   exact rK ⟨_,_,_,_,_,_,_,_,_,_,_,_,_,_,_,_,hF,rfl,h⟩ rfl
  refine X0 5 rfl (qg rfl hF ?_ ?_)<;>intro hF
  ·refine X1 4 4 h rfl (qR qb [.tmp 82] _ ([r2]:List Int) h rfl rfl rfl rfl rfl rfl rfl rfl rfl ⟨rfl,trivial⟩ rfl fun w22 p22 S9 h=>?_)
   obtain ⟨x8,hx4,hF⟩:=qe hF
   obtain ⟨g4,hx4⟩:=qam hx4
   refine qcG qb 1 h rfl (h.sl 0 rfl).1 (h.sl 0 rfl).2 rfl rfl rfl rfl rfl rfl rfl rfl rfl g4 hx4 rfl fun w23 p23 k19 S10 h=>zp1 rfl (zs 5 h rfl fun w24 h=>X0 8 rfl ?_)
   replace h:=h.pick [1,2,3,4,5,6] rfl
   exact rK ⟨_,_,_,_,_,_,_,_,_,_,_,_,_,_,_,_,hF,rfl,h⟩ rfl
  exact X0 8 rfl (rK ⟨_,_,_,_,_,_,_,_,_,_,_,_,_,_,_,_,hF,rfl,h⟩ rfl)
 refine qq rfl ?_
 obtain rfl:=qa hF;replace hF:=hK1
 refine X1 3 4 h rfl (zs 5 h rfl fun w25 h=>qdk ?_)
 obtain rfl:=qa hF
 exact qW qb (ρ:=qf) [GoT.v qf [.int .i64 r1,.int .i64 i1,.slice p7 x5.length k6,.slice p6 x4.length k5,.slice p5 x3.length k4]] h ⟨⟨_,_,_,rfl,rfl,h.box 5 rfl,rfl⟩,trivial⟩ (PV.done h (qaW (qdT (⟨r1,i1,x5,x4,x3⟩:qf) h (qu (S:=fun _=>False) rfl) (qu (S:=fun _=>False) rfl) (qaC 2 h rfl) (qaC 1 h rfl) (qaC 0 h rfl) (by rfl) (by rfl) (by rfl) (by rfl))))
def qfC (_:Nat) (s sep:ByteArray):Option (List ByteArray) :=
 if s.size<4294967281∧1≤sep.size then some (Lib.splitB sep 0 (Lib.countB s sep) s) else none
theorem qkX {s sep:ByteArray} (hgv1:GVE 1 isIntC w (old w)) {r:List ByteArray} (hF:qfC n s sep=some r):RetV Tryz.prog 49 [.string s,.string sep] w r:=by
 unfold qfC at hF
 split at hF
 ·rename_i hh
  obtain rfl:=qa hF
  obtain ⟨m,hm⟩:=hgv1.int
  refine (Tryz.strings_Split s sep m w hh.1 hm hh.2).mono ?_
  rintro e w' ⟨rfl,rfl⟩
  have hl:=Lib.splitB_all sep hh.2 0 _ s rfl
  have hle:=Lib.countB_le sep hh.2 s.size s (je _)
  have hlt:=hh.1
  rw [←hl]
  exact ⟨_,rfl,(Below.refl _ _).alloc (je _) _,[_],rfl,qrQ (by rw [hl];simp [maxLen];omega)⟩
 cases hF
def qci (n:Nat) (b:qm) (s:ByteArray):Option (qf × Bool) :=
 (qhk n b).bind fun r1 =>
 bif (!r1) then some ((⟨0,0,[],[],[]⟩:qf),false) else
 (qhy n b).bind fun r2 =>
 (qfC n s (⟨#[32]⟩:ByteArray)).bind fun r3 =>
 (qcA n r2 r3).bind fun r4 =>
 (qbt n r2 r4).bind fun r5 =>
 bif (!r5) then some ((⟨0,0,[],[],[]⟩:qf),false) else
 (qbc n r2 r4).bind fun r6 =>
 bif (r6.toList != s.toList) then some ((⟨0,0,[],[],[]⟩:qf),false) else
 some (r4,true)
theorem qgq {b:qm} {s:ByteArray} (ha1:GoT.R w (old w) b cs1) (hgv0:GV 0 (exWords.map Value.string) w (old w)) (hgv1:GVE 1 isIntC w (old w)) (hgv2:GV 2 (Lib.pow10Tab.map (Value.int .u64)) w (old w)) (hgv3:GVE 3 isErrC w (old w)) (hgv4:GVE 4 isErrC w (old w)) {r:(qf × Bool)} (hF:qci n b s=some r):RetV Tryz.prog 18 [GoT.v qm cs1,.string s] w r:=by
 obtain ⟨p1,k1,p2,k2,p3,k3,p4,k4,p5,k5,rfl,s1,s2,s3,s4,s5⟩:=qaa ha1
 refine zV 31 Tryz.func18 rfl fun h=>zSR (qr h rfl rfl fun w1 bb1 h=>qB qb h rfl rfl rfl fun w2 bb2 h=>X1 6 1 h rfl (zcB h hF (qlz (h.old ha1)) rfl fun r1 w3 h hF=>X0 2 rfl (qg rfl hF ?_ ?_)))<;>intro hF
 ·refine zSR (r_v (qb6 qb [] [] rfl rfl rfl rfl rfl rfl rfl rfl) rfl (zs 0 h rfl fun w4 h=>X0 2 rfl ?_))
  obtain rfl:=qa hF
  exact qW qb (ρ:=(qf × Bool)) [GoT.v qf [.int .i64 0,.int .i64 0,.slice none 0 0,.slice none 0 0,.slice none 0 0],GoT.v Bool [.bool false]] h ⟨⟨_,_,_,rfl,rfl,h.box 0 rfl,rfl⟩,rfl,trivial⟩ (PV.done h (qbT h (qdT (⟨0,0,[],[],[]⟩:qf) h (qu (S:=fun _=>False) rfl) (qu (S:=fun _=>False) rfl) qfe qfe qfe (by rfl) (by rfl) (by rfl) (by rfl)) (qaW (qu (S:=fun _=>False) rfl)) (by rfl)))
 refine X1 4 1 h rfl ?_
 have hg1:Rg (old w) w (old w) w:=.start (fun _ h=>h)
 obtain ⟨r2,hr2,hF⟩:=qe hF
 refine qsh r2 hg1 h (cB 37 rfl) (qlB (hg1.regOld h) (hg1.inR h ha1) hr2) rfl rfl rfl rfl fun w5 us1 B1 hg2 hu1 hz1 hv1=>?_
 have hL1:=h.ext hu1.below
 have hc2:=Up.box 0 h hu1 rfl
 have ha2:=Up.boxP (x:=(⟨0,0,[],[],[]⟩:qf)) hg1 0 h hu1 rfl (ql9 (⟨0,0,[],[],[]⟩:qf) qlI qlI qlI)
 have s6:=Up.R hg1 h hu1 hgv0
 have s7:=Up.R hg1 h hu1 hgv1
 have s8:=Up.R hg1 h hu1 hgv2
 have s9:=Up.R hg1 h hu1 hgv3
 have s10:=Up.R hg1 h hu1 hgv4
 have hb1:=h.below.trans (hu1.below.mono h.below.size)
 replace h:=hz1
 obtain ⟨cs2,rfl,hr3⟩:=qsR hv1
 obtain ⟨p6,rfl,s11⟩:=qkD hr3
 refine X0 6 rfl (zcL h hF (qkX (h.old (GoT.mono s7 hg2.old))) rfl fun r3 w6 S1 p7 k6 h hF=>zcO h hF (qhN (h.old (GoT.mono s11 hg2.old)) (h.own 0 rfl) (h.old (GoT.mono s6 hg2.old)) (h.old (GoT.mono s8 hg2.old)) (h.old (GoT.mono s9 hg2.old)) (h.old (GoT.mono s10 hg2.old))) rfl fun r4 w7 S2 cs3 h hF=>?_)
 obtain ⟨p8,k7,p9,k8,p10,k9,rfl,-,-,-⟩:=qaY (h.own 0 rfl)
 refine qB qb h rfl rfl rfl fun w8 bb3 h=>zs 0 h rfl fun w9 h=>X1 6 0 h rfl (zcB h hF (qih (h.old (GoT.mono s11 hg2.old)) (h.own 1 rfl)) rfl fun r5 w10 h hF=>zp2 rfl (qi (t:=22) hF rfl ?_ ?_))<;>intro hF
 ·refine X0 7 rfl (qdp rfl rfl (zSR (r_v (qb6 qb [] [] rfl rfl rfl rfl rfl rfl rfl rfl) rfl ?_)))
  replace h:=SH.back hL1 h ⟨fun _ h=>h,⟨fun _ h=>h,⟨fun _ h=>h,trivial⟩⟩⟩
  refine zs 3 h rfl fun w12 h=>X0 2 rfl ?_
  replace h:=h.unbase hg1.below ⟨fun _ h=>h,⟨fun _ h=>h,⟨fun _ h=>h,⟨fun _ h=>h,⟨fun _ h=>h,trivial⟩⟩⟩⟩⟩
  obtain rfl:=qa hF
  exact qW qb (ρ:=(qf × Bool)) [GoT.v qf [.int .i64 0,.int .i64 0,.slice none 0 0,.slice none 0 0,.slice none 0 0],GoT.v Bool [.bool false]] h ⟨⟨_,_,_,rfl,rfl,h.box 3 rfl,rfl⟩,rfl,trivial⟩ (PV.done h (qbT h (qdT (⟨0,0,[],[],[]⟩:qf) h (qu (S:=fun _=>False) rfl) (qu (S:=fun _=>False) rfl) qfe qfe qfe (by rfl) (by rfl) (by rfl) (by rfl)) (qaW (qu (S:=fun _=>False) rfl)) (by rfl)))
 refine X1 5 0 h rfl (zcS h hF (qhR (h.old (GoT.mono s11 hg2.old)) (h.own 1 rfl) (h.old (GoT.mono s6 hg2.old)) (h.old (GoT.mono s8 hg2.old))) rfl fun r6 w13 h hF=>X0 6 rfl (qg rfl hF ?_ ?_))<;>intro hF
 ·refine zSR (r_v (qb6 qb [] [] rfl rfl rfl rfl rfl rfl rfl rfl) rfl ?_)
  replace h:=SH.back hL1 h ⟨fun _ h=>h,⟨fun _ h=>h,⟨fun _ h=>h,trivial⟩⟩⟩
  refine zs 3 h rfl fun w15 h=>X0 2 rfl ?_
  replace h:=h.unbase hg1.below ⟨fun _ h=>h,⟨fun _ h=>h,⟨fun _ h=>h,⟨fun _ h=>h,⟨fun _ h=>h,trivial⟩⟩⟩⟩⟩
  obtain rfl:=qa hF
  exact qW qb (ρ:=(qf × Bool)) [GoT.v qf [.int .i64 0,.int .i64 0,.slice none 0 0,.slice none 0 0,.slice none 0 0],GoT.v Bool [.bool false]] h ⟨⟨_,_,_,rfl,rfl,h.box 3 rfl,rfl⟩,rfl,trivial⟩ (PV.done h (qbT h (qdT (⟨0,0,[],[],[]⟩:qf) h (qu (S:=fun _=>False) rfl) (qu (S:=fun _=>False) rfl) qfe qfe qfe (by rfl) (by rfl) (by rfl) (by rfl)) (qaW (qu (S:=fun _=>False) rfl)) (by rfl)))
 refine X1 4 0 h rfl ?_
 replace h:=SH.back hL1 h ⟨fun _ h=>h,⟨fun _ h=>h,⟨fun _ h=>h,trivial⟩⟩⟩
 refine zs 3 h rfl fun w17 h=>X0 2 rfl ?_
 replace h:=h.unbase hg1.below ⟨fun _ h=>h,⟨fun _ h=>h,⟨fun _ h=>h,⟨fun _ h=>h,⟨fun _ h=>h,trivial⟩⟩⟩⟩⟩
 obtain rfl:=qa hF
 exact qW qb (ρ:=(qf × Bool)) [GoT.v qf (qT r4 p8 p9 p10 k7 k8 k9),GoT.v Bool [.bool true]] h ⟨⟨_,_,_,rfl,rfl,h.box 3 rfl,rfl⟩,rfl,trivial⟩ (PV.done h (qbT h (qaC 1 h rfl) (qaW (qu (S:=fun _=>False) rfl)) (by rfl)))
end Go.Fw


namespace Go.Fw
open Go Go.Proofs
open Go.RowKit (Below)
set_option maxRecDepth 100000
set_option maxHeartbeats 6400000
variable {n:Nat} {w:World} {cs1 cs2 cs3 cs4 cs5 cs6 cs7 cs8 cs9:List Value}
end Go.Fw


namespace Go.Fw
open Go Go.Proofs
open Go.RowKit (Below)
set_option maxRecDepth 100000
set_option maxHeartbeats 6400000
variable {n:Nat} {w:World} {cs1 cs2 cs3 cs4 cs5 cs6 cs7 cs8 cs9:List Value}
end Go.Fw


namespace Go.Fw
open Go
structure GCell (b q:Nat) (cs:List Value) where
 ok:Bool
instance gt_GCell {b q:Nat} {cs:List Value}:GoT (GCell b q cs) where
 k:=1
 agg:=false
 zero:=⟨false⟩
 zc:=[.pointer none]
 R w S x ds:=ds=[.pointer none]∧(x.ok=true→S b∧CellsAt w b q cs)
 O w S x ds:=ds=[.pointer none]∧(x.ok=true→S b∧CellsAt w b q cs)
 kpos:=by decide
 noagg _:=rfl
 len {w S x ds} h:=by obtain ⟨rfl,_⟩:=h;rfl
 one {w S x ds} h:=by obtain ⟨rfl,_⟩:=h;simp [Value.oneCell']
 loc {w w' S x ds} h hs:=⟨h.1,fun hx=>⟨(h.2 hx).1,(h.2 hx).2.loc (hs _ (h.2 hx).1)⟩⟩
 mono {w S S' x ds} h hs:=⟨h.1,fun hx=>⟨hs _ (h.2 hx).1,(h.2 hx).2⟩⟩
 toR h:=h
 locO {w w' S x ds} h hs:=⟨h.1,fun hx=>⟨(h.2 hx).1,(h.2 hx).2.loc (hs _ (h.2 hx).1)⟩⟩
 monoO {w S S' x ds} h hs:=⟨h.1,fun hx=>⟨hs _ (h.2 hx).1,(h.2 hx).2⟩⟩
 zO _ _:=⟨rfl,fun h=>by cases h⟩
section
variable {w:World} {S:Nat→Prop} {b q:Nat} {cs:List Value}
end
end Go.Fw


namespace Go.Fw
open Go Go.Proofs
open Go.RowKit (Below)
set_option maxRecDepth 100000
set_option maxHeartbeats 6400000
variable {n:Nat} {w:World} {cs1 cs2 cs3 cs4 cs5 cs6 cs7 cs8 cs9:List Value}
end Go.Fw


namespace Go.Fw
open Go
set_option maxRecDepth 100000
theorem qqI {b:qm} {j:Nat} (hok:qbP b) (h:blockB b=true) (hj:j<(places b.Ab).length):Ev (fun n=>qiN n b.Ah b.Ab (j:Int)) (toSp (gt (places b.Ab) j),true):=by
 have hd:=qch h
 have hs:=qaM hd
 have hl:=qcJ hs
 unfold qiN
 refine Ev.bind (qhx hok.Ah hok.Ab) (Ev.ff (by rw [hd];rfl) (Ev.bind (qiL hs) ?_))
 simp only [qdF,jd,jH,qcr (show (places b.Ab).length≤9223372036854775807 by omega)]
 rw [show inI (j:Int) 0 (((places b.Ab).length:Int)-1)=true from qbN.2 ⟨by omega,by omega⟩]
 simp only [Bool.not_true,cond_false]
 rw [qX (show j<((places b.Ab).map toSp).length by simpa using hj),qqP hj]
 exact .done
def inPl (b:qm) (x:Int):Bool:=inI x 0 (((places b.Ab).length:Int)-1)
end Go.Fw


namespace Go.Fw
open Go
def qdE (x:qf):Nat:=qad x.Av+qad x.As+qad x.To
structure qfo (x:qf):Prop where
 Ap:okI x.Ap
 Bd:okI x.Bd
 Av:(okL okI) x.Av
 As:(okL okI) x.As
 To:(okL okI) x.To
theorem qiG {a:qf} (h:qdE a≤1048576):Ev (fun n=>qc9 n a a) true:=by
 unfold qc9
 simp only [qdE] at h
 exact Ev.ff qa2 (Ev.ff qa2 (Ev.bind (qdy (a:=a.Av) (by omega)) (Ev.ff rfl (Ev.bind (qdy (a:=a.As) (by omega)) (Ev.ff rfl (Ev.bind (qdy (a:=a.To) (by omega)) (Ev.ff rfl (.done))))))))
end Go.Fw


namespace Go.Fw
open Go
set_option maxRecDepth 100000
theorem qnU {b:qm} (h:blockB b=true):Ev (fun n=>qgG n b) ((places b.Ab).length:Int):=by
 unfold qgG
 exact Ev.bind (qiL (qaM (qch h))) (Ev.now (by rw [jH]))
def plsB (b:qm) (xs:List Int):Bool:=decide (xs.length≤4)&&allN (fun j=>inPl b (at0 xs j)) xs.length
def valB (k v:Int):Bool:=bif k==1 then v==0 else bif k==2 then inI v 1 10 else bif (k==3) || (k==4) then inI v 0 1000000000 else false
def excB (b:qm) (e:qf):Bool:=(plsB b e.Av&&(plsB b e.As&&plsB b e.To))&&(valB e.Ap e.Bd&&(incB e.Av&&incB e.To))
theorem qiR {b:qm} {xs:List Int} {sorted:Bool} (h:blockB b=true) (hl:xs.length≤1048576):Ev (fun n=>qec n b xs sorted) (plsB b xs&&(!sorted || incB xs)):=by
 have hpl:=qcJ (qaM (qch h))
 have hL:Ev (fun n=>qbq b xs sorted n 0) (bif allN (fun j=>inPl b (at0 xs j)&&(!sorted || stepB xs j)) xs.length then .nxt (xs.length:Int) else .ret false):=by
  refine qd7 ?_ (fun j hj X hX=>Ev.succ ?_)
  ·exact Ev.succ (by simp only [qbq,qk (je _),cond_false];exact .done)
  ·simp only [qbq,qj hj,cond_true,qbI hj,jd,qdF,wS j]
   refine Ev.bind (qnU h) ?_
   rw [qcr (show (places b.Ab).length≤9223372036854775807 by omega)]
   simp only [qbo]
   refine Ev.okP (a:=inPl b (at0 xs j)) fun _=>?_
   cases sorted
   ·exact hX
   ·refine Ev.tt rfl ?_
    unfold stepB
    by_cases h0:j=0
    ·subst h0
     exact Ev.ff (by decide) hX
    ·refine Ev.tt (by simp;omega) ?_
     simp only [show (j:Int)-1=((j-1:Nat):Int) by omega,qaw (show -9223372036854775808≤((j-1:Nat):Int) by omega) (by omega),qbI (show j-1<xs.length by omega),jd]
     rw [show decide (at0 xs (j-1) ≥ at0 xs j) = !decide (at0 xs (j-1)<at0 xs j) by rw [jl];simp,show decide (j=0)=false by simp;omega]
     simp only [qbo,Bool.not_true,Bool.false_or]
     exact Ev.okP1 fun _=>hX
 unfold qec
 have e:(plsB b xs&&(!sorted || incB xs))=(allN (fun j=>inPl b (at0 xs j)&&(!sorted || stepB xs j)) xs.length&&decide (xs.length≤4)):=by
  unfold plsB incB
  rw [qiz]
  cases sorted
  ·simp only [Bool.not_false,Bool.true_or,Bool.and_true]
   rw [show allN (fun _=>true) xs.length=true from qap.2 (fun _ _=>rfl),Bool.and_true,Bool.and_comm]
  ·simp only [Bool.not_true,Bool.false_or]
   rw [Bool.and_assoc,Bool.and_comm]
 rw [e]
 refine Ev.bind hL ?_
 cases allN (fun j=>inPl b (at0 xs j)&&(!sorted || stepB xs j)) xs.length
 ·exact .done
 ·refine Ev.now ?_
  show some (decide ((xs.length:Int)≤((4:Nat):Int)))=some (true&&decide (xs.length≤4))
  rw [qiM,jB]
theorem qoZ {n:Nat} {k v:Int}:qhh n k v=some (valB k v):=by
 simp only [qhh,qdt,jd]
 unfold valB
 cases (k==1)<;>cases (k==2)<;>cases (k==3)<;>cases (k==4)<;>rfl
theorem qmv {b:qm} {V:Tview} {e:qf} (h:blockB b=true) (hP:V.places=places b.Ab) (he:qfo e):Ev (fun n=>qbt n (some V) e) (excB b e):=by
 have hpl:=qcJ (qaM (qch h))
 have one:∀ xs:List Int,xs.length≤1048576→∀ {F:Nat→Option (Flow Bool Int)} {X:Flow Bool Int},Ev F X →
   Ev (fun n=>bif decide ((xs.length:Int) > 4) then some (.ret false) else (qbe n xs 0 (((places b.Ab).length:Int)-1)).bind fun r2=>bif (!r2) then some (.ret false) else F n) (bif plsB b xs then X else .ret false):=by
  intro xs hx F X hX
  unfold plsB
  rw [show decide ((xs.length:Int) > 4) = !decide (xs.length≤4) from qpA (k:=4)]
  simp only [qbo]
  refine Ev.okP fun _=>Ev.ok1 ((qeq hx).cast (by rw [qge (d:=0)];rfl)) fun _=>hX
 have hL:Ev (fun n=>qS (some V) e n 0) (bif plsB b e.Av then (bif plsB b e.As then (bif plsB b e.To then .nxt 3 else .ret false) else .ret false) else .ret false):=by
  refine Ev.succ ?_
  simp only [qS,jd,qbU,hP,qcr (show (places b.Ab).length≤9223372036854775807 by omega)]
  refine one e.Av he.Av.len (F:=fun n=>qS (some V) e n 1) (Ev.succ ?_)
  simp only [qS,jd,qbU,hP,qcr (show (places b.Ab).length≤9223372036854775807 by omega)]
  refine one e.As he.As.len (F:=fun n=>qS (some V) e n 2) (Ev.succ ?_)
  simp only [qS,jd,qbU,hP,qcr (show (places b.Ab).length≤9223372036854775807 by omega)]
  refine one e.To he.To.len (F:=fun n=>qS (some V) e n 3) (Ev.succ ?_)
  exact .done
 unfold qbt excB
 refine Ev.bind hL ?_
 cases plsB b e.Av
 ·exact .done
 ·cases plsB b e.As
  ·exact .done
  ·cases plsB b e.To
   ·exact .done
   ·simp only [cond_true,qoZ,jd,Bool.and_self,jB]
    exact Ev.andP fun _=>Ev.and (qha he.Av.len) fun _=>Ev.last (qha he.To.len)
theorem qlm {b:qm} {e:qf} (hok:qbP b) (he:qfo e):Ev (fun n=>qfg n b e) (blockB b&&excB b e):=by
 have eq:(blockB b&&excB b e)=((blockB b&&((plsB b e.Av&&(!true || incB e.Av))&&((plsB b e.As&&(!false || incB e.As))&&(plsB b e.To&&(!true || incB e.To)))))&&valB e.Ap e.Bd):=by
  unfold excB
  generalize blockB b=a1
  generalize plsB b e.Av=a2
  generalize plsB b e.As=a3
  generalize plsB b e.To=a4
  generalize valB e.Ap e.Bd=a5
  generalize incB e.Av=a6
  generalize incB e.To=a7
  cases a1<;>cases a2<;>cases a3<;>cases a4<;>cases a5<;>cases a6<;>cases a7<;>rfl
 rw [eq]
 unfold qfg
 refine Ev.guardB (Ev.or (qot hok) fun h=>Ev.or (qiR h he.Av.len) fun _=>Ev.or (qiR h he.As.len) fun _=>Ev.neg (qiR h he.To.len)) fun _=>?_
 simp only [qdF,jd]
 unfold valB
 cases (e.Ap==1)<;>cases (e.Ap==2)<;>cases (e.Ap==3)<;>cases (e.Ap==4)<;>exact .done
end Go.Fw


namespace Go.Fw
open Go
set_option maxRecDepth 100000
theorem qqR:∃ F:ByteArray→ByteArray→ByteArray,∀ a b,F a b=a++b:=⟨fun a b=>a++b,fun _ _=>rfl⟩
noncomputable def apB:ByteArray→ByteArray→ByteArray:=Classical.choose qqR
theorem qnL (a b:ByteArray):apB a b=a++b:=Classical.choose_spec qqR a b
theorem qbD (a b:ByteArray):(apB a b).size=a.size+b.size:=by rw [qnL,ByteArray.size_append]
theorem qkR (a b c:ByteArray):apB (apB a b) c=apB a (apB b c):=by simp only [qnL,ByteArray.append_assoc]
theorem qjB (a b:ByteArray):(apB a b).data=a.data++b.data:=by rw [qnL,ByteArray.data_append]
theorem qsi (a:ByteArray):apB a ⟨#[]⟩=a:=by
 refine ByteArray.ext ?_
 rw [qjB]
 exact Array.append_empty
theorem catK {a b:ByteArray} (h:a.size+b.size≤1073741824):catB a b=some (apB a b):=by
 unfold catB
 rw [qnL]
 exact if_pos (by show ((a.size+b.size:Nat):Int)≤9223372036854775807;omega)
theorem bN {α β:Type} {o:Option α} {a:α} {f:α→Option β} {r:Option β} (h:o=some a) (k:f a=r):o.bind f=r:=by rw [h];exact k
theorem cF {α:Type} {c:Bool} {a b r:α} (h:c=false) (k:b=r):(bif c then a else b)=r:=by rw [h];exact k
theorem cT {α:Type} {c:Bool} {a b r:α} (h:c=true) (k:a=r):(bif c then a else b)=r:=by rw [h];exact k
def decT (n:Int):ByteArray:=⟨(Lib.itoa n).toArray⟩
theorem qjC {n:Int} (h0:0≤n) (h1:n≤1000000000):(decT n).size≤21:=by
 have:=Lib.itoa_length_le n (by omega) (by omega)
 unfold decT
 show (Lib.itoa n).toArray.size≤21
 simpa using this
theorem qk5 {u:Nat} (h:u<10):strOf ([(⟨IntKind.wrap .u8 (W64 (48+(u:Int)))⟩:IntK .u8)])=⟨#[UInt8.ofNat (48+u)]⟩:=by
 have:∀ v:Fin 10,strOf ([(⟨IntKind.wrap .u8 (W64 (48+((v.val:Nat):Int)))⟩:IntK .u8)])=⟨#[UInt8.ofNat (48+v.val)]⟩:=by decide
 exact this ⟨u,h⟩
theorem qnq:∀ (d u:Nat),u<10 ^ (d+1)→d≤15→Ev (fun n=>qaj n (u:Int)) ⟨(Lib.decDigits u).toArray⟩:=by
 intro d
 induction d with
 | zero =>
  intro u hu _
  refine Ev.succ ?_
  simp only [qaj]
  rw [Lib.decDigits,dif_pos (by omega)]
  exact Ev.ff (by simp) (Ev.tt (by simp;omega) (Ev.now (by rw [qk5 (by omega)])))
 | succ d ih =>
  intro u hu hd
  have hp:(10:Nat) ^ (d+1+1)=10*10 ^ (d+1):=by rw [Nat.pow_succ,Nat.mul_comm]
  have hb:(10:Nat) ^ (d+1+1)≤10 ^ 17:=Nat.pow_le_pow_right (by decide) (by omega)
  refine Ev.succ ?_
  simp only [qaj]
  refine Ev.ff (by simp) ?_
  by_cases h10:u<10
  ·rw [Lib.decDigits,dif_pos h10]
   exact Ev.tt (by simp;omega) (Ev.now (by rw [qk5 h10]))
  ·rw [Lib.decDigits,dif_neg h10]
   refine Ev.ff (by simp;omega) ?_
   have hq:W64 ((u:Int).tdiv 10)=((u / 10:Nat):Int):=by
    rw [Int.tdiv_eq_ediv_of_nonneg (by omega),qaw (by omega) (by omega)];omega
   have hr:(u:Int).tmod 10=((u % 10:Nat):Int):=by rw [Int.tmod_eq_emod_of_nonneg (by omega)];omega
   simp only [hq,hr,qk5 (show u % 10<10 by omega)]
   refine Ev.bind (ih (u / 10) (by omega) (by omega)) ?_
   have hl:(Lib.decDigits (u / 10)).length≤21:=by
    have:=Lib.itoa_length_le ((u / 10:Nat):Int) (by omega) (by omega)
    rwa [Lib.itoa_nonneg] at this
   have hsz:(⟨(Lib.decDigits (u / 10)).toArray⟩:ByteArray).size≤21:=by
    show (Lib.decDigits (u / 10)).toArray.size≤21
    simpa using hl
   refine Ev.bindN (catK (b:=⟨#[UInt8.ofNat (48+u % 10)]⟩) (by have:(⟨#[UInt8.ofNat (48+u % 10)]⟩:ByteArray).size=1:=rfl;omega)) (Ev.now ?_)
   refine congrArg some (ByteArray.ext ?_)
   rw [qjB]
   simp
theorem qpF {v:Int} (h0:0≤v) (h1:v≤1000000000):Ev (fun n=>qaj n v) (decT v):=by
 obtain ⟨u,rfl⟩:∃ u:Nat,v=(u:Int):=⟨v.toNat,by omega⟩
 unfold decT
 rw [Lib.itoa_nonneg]
 exact qnq 9 u (by omega) (by decide)
theorem qlT {n:Nat} {v:Int} (h0:0≤v) (h1:v≤1000000000):qet n v=some (decT v):=by
 unfold qet qdP
 rw [if_pos ⟨rfl,by omega,by omega⟩]
 rfl
noncomputable def nmP (b:qm) (p:Tplace):ByteArray :=
 bif decide (p.instance_<0) then (gt b.Ab.Ac p.pin.toNat).Aq else apB (apB (gt b.Ab.Aa p.instance_.toNat).Aq ⟨#[47]⟩) (gt (cellAt b p.instance_).Am p.pin.toNat).Aq
theorem qon {b:qm} (hok:qbP b) (hds:designB b.Ah b.Ab=true) {j n:Nat} (hj:j<(places b.Ab).length) :
  qby n b.Ab b.Ah (gt (places b.Ab) j)=some (nmP b (gt (places b.Ab) j))∧qcS n b.Ah b.Ab (toSp (gt (places b.Ab) j))=some (nmP b (gt (places b.Ab) j))∧(nmP b (gt (places b.Ab) j)).size≤2097153:=by
 rcases qla hj with ⟨i,k,hi,hk,_,e⟩|⟨i,hi,_,e⟩
 ·obtain ⟨⟨c0,c1⟩,hn,_⟩:=qkY hds hi
  have hc:(gt b.Ab.Aa i).Bg.toNat<b.Ah.Ai.length:=by omega
  have hk':k<(gt b.Ah.Ai (gt b.Ab.Aa i).Bg.toNat).Am.length:=by omega
  have s1:(gt b.Ab.Aa i).Aq.size≤1048576:=(qhQ hok.Ab.Aa hi).Aq
  have s2:(gt (gt b.Ah.Ai (gt b.Ab.Aa i).Bg.toNat).Am k).Aq.size≤1048576:=(qhQ (qhQ hok.Ah.Ai hc).Am hk').Aq
  have s3:(⟨#[47]⟩:ByteArray).size=1:=rfl
  have hneg:∀ D:Decidable ((place1 b.Ab i k).instance_<0),@decide ((place1 b.Ab i k).instance_<0) D=false:=fun D=>by
   cases D with
   | isFalse=>rfl
   | isTrue hh=>exact absurd hh (by show ¬ ((i:Int)<0);omega)
  have g1:=catK (show (gt b.Ab.Aa i).Aq.size+(⟨#[47]⟩:ByteArray).size≤1073741824 by omega)
  have g2:=catK (show (apB (gt b.Ab.Aa i).Aq ⟨#[47]⟩).size+(gt (gt b.Ah.Ai (gt b.Ab.Aa i).Bg.toNat).Am k).Aq.size≤1073741824 by rw [qbD];omega)
  have hi1:idx b.Ab.Aa (place1 b.Ab i k).instance_=some (gt b.Ab.Aa i):=qX hi
  have hk1:idx (gt b.Ah.Ai (gt b.Ab.Aa i).Bg.toNat).Am (place1 b.Ab i k).pin=some (gt (gt b.Ah.Ai (gt b.Ab.Aa i).Bg.toNat).Am k):=qX hk'
  have en:nmP b (place1 b.Ab i k)=apB (apB (gt b.Ab.Aa i).Aq ⟨#[47]⟩) (gt (gt b.Ah.Ai (gt b.Ab.Aa i).Bg.toNat).Am k).Aq:=by
   unfold nmP cellAt
   rw [hneg]
   simp only [cond_false,place1,jC]
  rw [e,en]
  refine ⟨?_,?_,?_⟩
  ·unfold qby
   exact cF (hneg _) (bN hi1 (bN g1 (bN (qfR c0 c1) (bN hk1 (bN g2 rfl)))))
  ·unfold qcS toSp
   exact cF (hneg _) (bN hi1 (bN g1 (bN (qfR c0 c1) (bN hk1 (bN g2 rfl)))))
  ·rw [qbD,qbD]
   omega
 ·have s1:(gt b.Ab.Ac i).Aq.size≤1048576:=(qhQ hok.Ab.Ac hi).Aq
  have hneg:∀ D:Decidable ((place2 b.Ab i).instance_<0),@decide ((place2 b.Ab i).instance_<0) D=true:=fun D=>by
   cases D with
   | isTrue=>rfl
   | isFalse hh=>exact absurd (show (-1:Int)<0 by decide) hh
  have hi1:idx b.Ab.Ac (place2 b.Ab i).pin=some (gt b.Ab.Ac i):=qX hi
  have en:nmP b (place2 b.Ab i)=(gt b.Ab.Ac i).Aq:=by
   unfold nmP
   rw [hneg]
   simp only [cond_true,place2,jC]
  rw [e,en]
  refine ⟨?_,?_,by omega⟩
  ·unfold qby
   exact cT (hneg _) (bN hi1 rfl)
  ·unfold qcS toSp
   exact cT (hneg _) (bN hi1 rfl)
theorem qkj {b:qm} (hok:qbP b) (h:blockB b=true) {j n:Nat} (hj:j<(places b.Ab).length) :
  qby n b.Ab b.Ah (gt (places b.Ab) j)=some (nmP b (gt (places b.Ab) j))∧qcS n b.Ah b.Ab (toSp (gt (places b.Ab) j))=some (nmP b (gt (places b.Ab) j))∧(nmP b (gt (places b.Ab) j)).size≤2097153:=qon hok (qch h) hj
theorem qn7 {b:qm} (hok:qbP b) (h:blockB b=true) {j:Nat} (hj:j<(places b.Ab).length):Ev (fun n=>qf3 n b.Ah b.Ab (j:Int)) (nmP b (gt (places b.Ab) j)):=by
 unfold qf3
 refine Ev.bind (qqI hok h hj) ?_
 exact Ev.bind (b:=nmP b (gt (places b.Ab) j)) (.now (qkj (n:=0) hok h hj).2.1) .done
noncomputable def wds (b:qm) (word:ByteArray) (xs:List Int):Nat→ByteArray
 | 0=>⟨#[]⟩
 | j+1=>apB (wds b word xs j) (apB word (nmP b (gt (places b.Ab) (at0 xs j).toNat)))
theorem qkC {b:qm} {word:ByteArray} {xs:List Int} (hok:qbP b) (h:blockB b=true) (hw:word.size≤16) (hp:allN (fun j=>inPl b (at0 xs j)) xs.length=true):∀ j,j≤xs.length→(wds b word xs j).size≤j*2097169
 | 0,_=>by have:(⟨#[]⟩:ByteArray).size=0:=rfl;simp only [wds];omega
 | j+1,hj=>by
  have ih:=qkC hok h hw hp j (by omega)
  have hx:=qbN.1 (qap.1 hp j (by omega))
  have:=(qkj (n:=0) hok h (show (at0 xs j).toNat<(places b.Ab).length by omega)).2.2
  simp only [wds,qbD]
  omega
theorem qmp {b:qm} {word ww:ByteArray} {xs:List Int} (hok:qbP b) (h:blockB b=true) (hw:ww.size≤16) (he:apB (apB ⟨#[32]⟩ word) ⟨#[32]⟩=ww) (hp:plsB b xs=true):Ev (fun n=>qeO n b word xs) (wds b ww xs xs.length):=by
 unfold plsB at hp
 simp only [jg,decide_eq_true_eq] at hp
 obtain ⟨hl,hp⟩:=hp
 have hs:(⟨#[32]⟩:ByteArray).size=1:=rfl
 have hw':word.size+2≤16:=by rw [←he] at hw;simp only [qbD] at hw;omega
 have e0:wds b ww xs 0=⟨#[]⟩:=rfl
 have hL:Ev (fun n=>qca b word xs n (wds b ww xs 0) 0) (wds b ww xs xs.length,(xs.length:Int)):=by
  refine loopF (len:=xs.length) (Lf:=fun n z i=>qca b word xs n z i) (fun j=>wds b ww xs j) (fun n=>?_) (fun j hj X hX=>?_)
  ·simp only [qca,qk (je _),cond_false]
  ·have hz:=qkC hok h hw hp j (by omega)
   have hx:=qbN.1 (qap.1 hp j hj)
   have hjp:(at0 xs j).toNat<(places b.Ab).length:=by omega
   have hn:=(qkj (n:=0) hok h hjp).2.2
   have hq:=qn7 hok h hjp
   rw [←qkZ hx.1] at hq
   simp only [qca]
   refine Ev.tt (qj hj) ?_
   refine Ev.bindN (catK (by omega)) (Ev.bindN (catK (by simp only [qbD];omega)) (Ev.bindN (catK (by simp only [qbD];omega)) (Ev.bindN (qbI hj) (Ev.bind hq (Ev.bindN (catK (by simp only [qbD];omega)) ?_)))))
   rw [wS j]
   have e2:apB (apB (apB (apB (wds b ww xs j) ⟨#[32]⟩) word) ⟨#[32]⟩) (nmP b (gt (places b.Ab) (at0 xs j).toNat))=wds b ww xs (j+1):=by
    simp only [wds,←he,qkR]
   rw [e2]
   exact hX
 unfold qeO
 rw [e0] at hL
 exact Ev.bind hL .done
theorem qk3 {b:qm} {V:Tview} {ww z:ByteArray} {i:Int} {xs:List Int} (hok:qbP b) (h:blockB b=true) (hV:V.Bh=b) (hP:V.places=places b.Ab) (hw:ww.size≤16) (hz:z.size≤100000000)
  (hi:idx ([(⟨#[32,102,114,111,109,32]⟩:ByteArray),(⟨#[32,116,104,114,111,117,103,104,32]⟩:ByteArray),(⟨#[32,116,111,32]⟩:ByteArray)]:List ByteArray) i=some ww) (hp:plsB b xs=true) :
  Ev (fun n=>qab (some V) i xs n z 0) (apB z (wds b ww xs xs.length),(xs.length:Int)):=by
 unfold plsB at hp
 simp only [jg,decide_eq_true_eq] at hp
 obtain ⟨hl,hp⟩:=hp
 have e0:apB z (wds b ww xs 0)=z:=qsi z
 have hL:Ev (fun n=>qab (some V) i xs n (apB z (wds b ww xs 0)) 0) (apB z (wds b ww xs xs.length),(xs.length:Int)):=by
  refine loopF (len:=xs.length) (Lf:=fun n z i1=>qab (some V) i xs n z i1) (fun j=>apB z (wds b ww xs j)) (fun n=>?_) (fun j hj X hX=>?_)
  ·simp only [qab,qk (je _),cond_false]
  ·have hz:=qkC hok h hw hp j (by omega)
   have hx:=qbN.1 (qap.1 hp j hj)
   have hjp:(at0 xs j).toNat<(places b.Ab).length:=by omega
   have hn:=qkj (n:=0) hok h hjp
   have hq:idx V.places (at0 xs j)=some (gt (places b.Ab) (at0 xs j).toNat):=by
    have hh:=qX hjp
    rw [←qkZ hx.1] at hh
    rw [hP,hh]
   subst hV
   simp only [qab,qj hj,cond_true,jd]
   refine Ev.bindN (qbI hj) (Ev.bindN hi (Ev.bindN hq (Ev.bind (.now hn.1) (Ev.bindN (catK (by omega)) (Ev.bindN (catK (by simp only [qbD];omega)) ?_)))))
   rw [wS j]
   have e2:apB (apB z (wds V.Bh ww xs j)) (apB ww (nmP V.Bh (gt (places V.Bh.Ab) (at0 xs j).toNat)))=apB z (wds V.Bh ww xs (j+1)):=by
    simp only [wds,qkR]
   rw [e2]
   exact hX
 rwa [e0] at hL
def wFrom:ByteArray:=⟨#[32,102,114,111,109,32]⟩
def wThr:ByteArray:=⟨#[32,116,104,114,111,117,103,104,32]⟩
def wTo:ByteArray:=⟨#[32,116,111,32]⟩
def kwE (k:Int):ByteArray:=gt exWords k.toNat
noncomputable def headE (e:qf):ByteArray:=bif e.Ap != 1 then apB (kwE e.Ap) (apB ⟨#[32]⟩ (decT e.Bd)) else kwE e.Ap
noncomputable def txtE (b:qm) (e:qf):ByteArray:=apB (apB (apB (headE e) (wds b wFrom e.Av e.Av.length)) (wds b wThr e.As e.As.length)) (wds b wTo e.To e.To.length)
theorem eWord {w ww:ByteArray} (h:#[(32:UInt8)]++w.data++#[(32:UInt8)]=ww.data):apB (apB ⟨#[32]⟩ w) ⟨#[32]⟩=ww:=by
 refine ByteArray.ext ?_
 rw [qjB,qjB]
 exact h
theorem ewFrom:apB (apB ⟨#[32]⟩ ⟨#[102,114,111,109]⟩) ⟨#[32]⟩=wFrom:=eWord (by decide)
theorem ewThr:apB (apB ⟨#[32]⟩ ⟨#[116,104,114,111,117,103,104]⟩) ⟨#[32]⟩=wThr:=eWord (by decide)
theorem ewTo:apB (apB ⟨#[32]⟩ ⟨#[116,111]⟩) ⟨#[32]⟩=wTo:=eWord (by decide)
theorem qem {k v:Int} (h:valB k v=true):(1≤k∧k≤4)∧0≤v∧v≤1000000000:=by
 unfold valB at h
 by_cases h1:k=1
 ·subst h1;simp at h;omega
 ·by_cases h2:k=2
  ·subst h2;simp [inI] at h;omega
  ·by_cases h3:k=3
   ·subst h3;simp [inI] at h;omega
   ·by_cases h4:k=4
    ·subst h4;simp [inI] at h;omega
    ·simp [h1,h2,h3,h4] at h
theorem ql3 {k:Int} (h:1≤k∧k≤4):(kwE k).size≤6:=by
 obtain ⟨h1,h2⟩:=h
 obtain rfl|rfl|rfl|rfl:k=1∨k=2∨k=3∨k=4:=by omega
 all_goals decide
theorem qmh {e:qf} (h:valB e.Ap e.Bd=true):(headE e).size≤28:=by
 obtain ⟨hk,h0,h1⟩:=qem h
 have a1:=ql3 hk
 have a2:=qjC h0 h1
 have a3:(⟨#[32]⟩:ByteArray).size=1:=rfl
 unfold headE
 cases (e.Ap != 1)
 ·simp only [cond_false];omega
 ·simp only [cond_true,qbD];omega
theorem qky {b:qm} {ww:ByteArray} {xs:List Int} (hok:qbP b) (h:blockB b=true) (hw:ww.size≤16) (hp:plsB b xs=true):(wds b ww xs xs.length).size≤8388676:=by
 unfold plsB at hp
 simp only [jg,decide_eq_true_eq] at hp
 have:=qkC hok h hw hp.2 xs.length (je _)
 have:xs.length*2097169≤4*2097169:=jo _ hp.1
 omega
theorem qiK {b:qm} {e:qf} (h:excB b e=true):plsB b e.Av=true∧plsB b e.As=true∧plsB b e.To=true∧valB e.Ap e.Bd=true:=by
 unfold excB at h
 simp only [jg] at h
 exact ⟨h.1.1,h.1.2.1,h.1.2.2,h.2.1⟩
theorem qiA {b:qm} {V:Tview} {e:qf} (hok:qbP b) (h:blockB b=true) (hV:V.Bh=b) (hP:V.places=places b.Ab) (he:excB b e=true):Ev (fun n=>qbc n (some V) e) (txtE b e):=by
 obtain ⟨p1,p2,p3,hv⟩:=qiK he
 obtain ⟨hk,h0,h1⟩:=qem hv
 have hs:=qmh hv
 have s1:=qky (ww:=wFrom) hok h (by decide) p1
 have s2:=qky (ww:=wThr) hok h (by decide) p2
 have hL:Ev (fun n=>qac (some V) e n (headE e) 0) (txtE b e,3):=by
  refine Ev.succ ?_
  simp only [qac]
  refine Ev.tt rfl (Ev.bindN (b:=e.Av) rfl (Ev.bind (qk3 (ww:=wFrom) hok h hV hP (by decide) (by omega) rfl p1) (Ev.succ ?_)))
  simp only [qac]
  refine Ev.tt rfl (Ev.bindN (b:=e.As) rfl (Ev.bind (qk3 (ww:=wThr) hok h hV hP (by decide) (by rw [qbD];omega) rfl p2) (Ev.succ ?_)))
  simp only [qac]
  refine Ev.tt rfl (Ev.bindN (b:=e.To) rfl (Ev.bind (qk3 (ww:=wTo) hok h hV hP (by decide) (by rw [qbD,qbD];omega) rfl p3) (Ev.succ ?_)))
  simp only [qac]
  exact Ev.ff rfl .done
 unfold qbc
 have hkw:idx exWords e.Ap=some (kwE e.Ap):=by
  have hh:=qX (xs:=exWords) (j:=e.Ap.toNat) (by show e.Ap.toNat<5;omega)
  rw [←qkZ (show 0≤e.Ap by omega)] at hh
  exact hh
 refine Ev.bindN hkw ?_
 refine Ev.bind (b:=headE e) ?_ (Ev.bind hL .done)
 have a1:=ql3 hk
 have a2:=qjC h0 h1
 have a3:(⟨#[32]⟩:ByteArray).size=1:=rfl
 unfold headE
 cases (e.Ap != 1)
 ·exact .done
 ·exact Ev.tt rfl (Ev.bind (.now (qlT (n:=0) h0 h1)) (Ev.bindN (catK (by omega)) (Ev.bindN (catK (by rw [qbD];omega)) .done)))
theorem qoh {b:qm} {e:qf} (hok:qbP b) (he:qfo e):Ev (fun n=>qbz n b e) (bif blockB b&&excB b e then txtE b e else ByteArray.empty):=by
 unfold qbz
 refine Ev.bind (qlm hok he) ?_
 cases hb:(blockB b&&excB b e)
 ·exact .done
 ·simp only [jg] at hb
  obtain ⟨h,hx⟩:=hb
  obtain ⟨p1,p2,p3,hv⟩:=qiK hx
  obtain ⟨hk,h0,h1⟩:=qem hv
  have hs:=qmh hv
  have s1:=qky (ww:=wFrom) hok h (by decide) p1
  have s2:=qky (ww:=wThr) hok h (by decide) p2
  have s3:=qky (ww:=wTo) hok h (by decide) p3
  refine Ev.ff rfl ?_
  have hkw:idx ([(⟨#[102,97,108,115,101]⟩:ByteArray),(⟨#[99,121,99,108,101,115]⟩:ByteArray),(⟨#[109,97,120]⟩:ByteArray),(⟨#[109,105,110]⟩:ByteArray)]:List ByteArray) (W64 (e.Ap-1))=some (kwE e.Ap):=by
   obtain hq|hq|hq|hq:e.Ap=1∨e.Ap=2∨e.Ap=3∨e.Ap=4:=by omega
   all_goals rw [hq];rfl
  refine Ev.bindN hkw ?_
  have a1:=ql3 hk
  have a2:=qjC h0 h1
  have a3:(⟨#[32]⟩:ByteArray).size=1:=rfl
  refine Ev.bind (b:=headE e) ?_ ?_
  ·unfold headE
   cases (e.Ap != 1)
   ·exact .done
   ·refine Ev.tt rfl ?_
    refine Ev.bindN (catK (by omega)) (Ev.bind (qpF h0 h1) (Ev.bindN (catK (by rw [qbD];omega)) (Ev.now ?_)))
    rw [qkR,cond_true]
  ·refine Ev.bind (qmp (ww:=wFrom) hok h (by decide) ewFrom p1) (Ev.bindN (catK (by omega)) (Ev.bind (qmp (ww:=wThr) hok h (by decide) ewThr p2) (Ev.bindN (catK (by rw [qbD];omega)) (Ev.bind (qmp (ww:=wTo) hok h (by decide) ewTo p3) (Ev.bindN (catK (by rw [qbD,qbD];omega)) ?_)))))
   exact .done
end Go.Fw


namespace Go.Fw
open Go
set_option maxRecDepth 100000
noncomputable def namedB (b:qm) (name:ByteArray):Int:=ixL (fun p=>(nmP b p).toList==name.toList) (places b.Ab)
theorem qn2 {α:Type} {xs:List α} {j:Nat} {x:α} (h:xs[j]?=some x):j<xs.length∧idx xs (j:Int)=some x:=by
 obtain ⟨hj,e⟩:=List.getElem?_eq_some_iff.1 h
 exact ⟨hj,by rw [qct hj,e]⟩
theorem qqF {b:qm} (hok:qbP b) (h:blockB b=true) {name:ByteArray}:Ev (fun n=>qaT n b.Ab b.Ah name) (namedB b name):=by
 have hpl:=qcJ (qaM (qch h))
 unfold qaT
 refine Ev.bind (qiw (qaM (qch h))) (Ev.bind ?_ .done)
 refine qe6 (xs:=places b.Ab) (pf:=fun n x=>qcl n x b.Ab b.Ah name) (Lf:=qv (places b.Ab) b.Ab b.Ah name) (fin:=((places b.Ab).length:Int)) ?_ ?_ ?_ (fun n=>by
  unfold qal
  refine congrArg (Option.bind _) (funext fun o=>?_)
  cases o<;>rfl)
 ·intro x hx
  obtain ⟨j,hj,rfl⟩:=List.mem_iff_getElem.1 hx
  unfold qcl
  rw [←qi1 hj]
  exact Ev.bind (.now (qkj (n:=0) hok h hj).1) .done
 ·intro n
  simp only [qv,qk (je _),cond_false]
 ·intro n j x hx
  obtain ⟨hj,hi⟩:=qn2 hx
  simp only [qv,qj hj,cond_true,hi,jd,wS j]
theorem qqi {b:qm} (hok:qbP b) (h:designB b.Ah b.Ab=true) {name:ByteArray}:Ev (fun n=>qbw n b.Ah b.Ab name) (namedB b name):=by
 have hpl:=qcJ (qaM h)
 have hlm:((places b.Ab).map toSp).length=(places b.Ab).length:=jH _
 unfold qbw
 refine Ev.bind (b:=true) ?_ (Ev.ff rfl (Ev.bind (qiL (qaM h)) ?_))
 ·have:=qhx hok.Ah hok.Ab
  rw [h] at this
  exact this
 refine qe6 (xs:=places b.Ab) (p:=fun p=>(nmP b p).toList==name.toList) (pf:=fun n x=>(qcS n b.Ah b.Ab (toSp x)).bind fun r3=>some (r3.toList==name.toList)) (Lf:=qcc b.Ah b.Ab name ((places b.Ab).map toSp)) (fin:=((places b.Ab).length:Int)) ?_ ?_ ?_ (fun n=>by
  refine congrArg (Option.bind _) (funext fun o=>?_)
  cases o<;>rfl)
 ·intro x hx
  obtain ⟨j,hj,rfl⟩:=List.mem_iff_getElem.1 hx
  rw [←qi1 hj]
  exact Ev.bind (.now (qon (n:=0) hok h hj).2.1) .done
 ·intro n
  simp only [qcc,hlm,qk (je _),cond_false]
 ·intro n j x hx
  obtain ⟨hj,hi⟩:=qn2 hx
  have hi':idx ((places b.Ab).map toSp) (j:Int)=some (toSp x):=(qn2 (by rw [List.getElem?_map,hx];rfl)).2
  simp only [qcc,hlm,qj hj,cond_true,hi',jd,wS j]
  cases qcS n b.Ah b.Ab (toSp x)<;>rfl
theorem qpV {b:qm} (hok:qbP b) (h:designB b.Ah b.Ab=false) {name:ByteArray}:Ev (fun n=>qbw n b.Ah b.Ab name) (-1):=by
 unfold qbw
 have:=qhx hok.Ah hok.Ab
 rw [h] at this
 exact Ev.bind this (Ev.tt rfl .done)
structure Lst where
 f:List Int
 t:List Int
 o:List Int
def wF:ByteArray:=⟨#[102,114,111,109]⟩
def wT:ByteArray:=⟨#[116,104,114,111,117,103,104]⟩
def wO':ByteArray:=⟨#[116,111]⟩
def stepL (g:ByteArray→Int) (a:Lst) (w v:ByteArray):Lst :=
 bif w.toList==wF.toList then ⟨a.f++[g v],a.t,a.o⟩ else bif w.toList==wT.toList then ⟨a.f,a.t++[g v],a.o⟩ else bif w.toList==wO'.toList then ⟨a.f,a.t,a.o++[g v]⟩ else a
def lsts (g:ByteArray→Int):List ByteArray→Lst→Lst
 | w::v::r,a=>lsts g r (stepL g a w v)
 | _,a=>a
theorem qq2 {b:qm} {g:ByteArray→Int} (hg:∀ name,Ev (fun n=>qbw n b.Ah b.Ab name) (g name)) {ws:List ByteArray} (hw:ws.length≤2000000):∀ (d k:Nat) (a:Lst),k+d=ws.length→a.f.length+a.t.length+a.o.length≤k →
  ∃ e,Ev (fun n=>qE b ws n a.o a.t a.f (k:Int)) ((lsts g (ws.drop k) a).o,(lsts g (ws.drop k) a).t,(lsts g (ws.drop k) a).f,e):=by
 intro d
 induction d using Nat.strongRecOn with
 | ind d ih =>
  intro k a hk ha
  have e1:W64 ((k:Int)+1)=((k+1:Nat):Int):=qb8 (by omega)
  have e2:W64 ((k:Int)+2)=((k+2:Nat):Int):=by rw [qaw (by omega) (by omega)];omega
  by_cases h2:k+1<ws.length
  ·have hk0:k<ws.length:=by omega
   have ed:ws.drop k=ws[k]::ws[k+1]::ws.drop (k+2):=by rw [jx hk0,jx h2]
   have hn:=hg ws[k+1]
   have key:∀ a',stepL g a ws[k] ws[k+1]=a'→a'.f.length+a'.t.length+a'.o.length≤k+2→∃ e,Ev (fun n=>qE b ws n a'.o a'.t a'.f ((k+2:Nat):Int)) ((lsts g (ws.drop k) a).o,(lsts g (ws.drop k) a).t,(lsts g (ws.drop k) a).f,e):=fun a' e hl=>by
    have:=ih (d-2) (by omega) (k+2) a' (by omega) hl
    rw [ed]
    simp only [lsts,e]
    exact this
   have ap:∀ l:List Int,l.length≤k→appS l [g ws[k+1]]=some (l++[g ws[k+1]]):=fun l hl=>qcR (by rw [jm];omega)
   have st:∀ {e r},Ev (fun n=>(qbw n b.Ah b.Ab ws[k+1]).bind fun r2=>(idx ws (k:Int)).bind fun y3 =>
     bif (y3.toList==wF.toList) then (appS a.f ([r2]:List Int)).bind fun x4=>qE b ws n a.o a.t x4 ((k+2:Nat):Int)
     else bif (y3.toList==wT.toList) then (appS a.t ([r2]:List Int)).bind fun x5=>qE b ws n a.o x5 a.f ((k+2:Nat):Int)
     else bif (y3.toList==wO'.toList) then (appS a.o ([r2]:List Int)).bind fun x6=>qE b ws n x6 a.t a.f ((k+2:Nat):Int)
     else qE b ws n a.o a.t a.f ((k+2:Nat):Int)) (r,e)→Ev (fun n=>qE b ws n a.o a.t a.f (k:Int)) (r,e):=fun hh=>by
    refine Ev.succ ?_
    simp only [qE,e1,e2]
    exact Ev.tt (qj h2) (Ev.bindN (qct h2) hh)
   cases c1:ws[k].toList==wF.toList
   ·cases c2:ws[k].toList==wT.toList
    ·cases c3:ws[k].toList==wO'.toList
     ·obtain ⟨e,he⟩:=key a (by unfold stepL;rw [c1,c2,c3];rfl) (by omega)
      exact ⟨e,st (Ev.bind hn (Ev.bindN (qct hk0) (Ev.ff c1 (Ev.ff c2 (Ev.ff c3 he)))))⟩
     ·obtain ⟨e,he⟩:=key ⟨a.f,a.t,a.o++[g ws[k+1]]⟩ (by unfold stepL;rw [c1,c2,c3];rfl) (by simp only [ji,jm];omega)
      exact ⟨e,st (Ev.bind hn (Ev.bindN (qct hk0) (Ev.ff c1 (Ev.ff c2 (Ev.tt c3 (Ev.bindN (ap _ (by omega)) he))))))⟩
    ·obtain ⟨e,he⟩:=key ⟨a.f,a.t++[g ws[k+1]],a.o⟩ (by unfold stepL;rw [c1,c2];rfl) (by simp only [ji,jm];omega)
     exact ⟨e,st (Ev.bind hn (Ev.bindN (qct hk0) (Ev.ff c1 (Ev.tt c2 (Ev.bindN (ap _ (by omega)) he)))))⟩
   ·obtain ⟨e,he⟩:=key ⟨a.f++[g ws[k+1]],a.t,a.o⟩ (by unfold stepL;rw [c1];rfl) (by simp only [ji,jm];omega)
    exact ⟨e,st (Ev.bind hn (Ev.bindN (qct hk0) (Ev.tt c1 (Ev.bindN (ap _ (by omega)) he))))⟩
  ·refine ⟨(k:Int),Ev.succ ?_⟩
   have el:lsts g (ws.drop k) a=a:=by
    have hl:(ws.drop k).length=ws.length-k:=List.length_drop
    match hd:ws.drop k with
    | []=>rfl
    | [_]=>rfl
    | _::_::_=>rw [hd] at hl;simp at hl;omega
   rw [el]
   simp only [qE,e1]
   exact Ev.ff (qk (by omega)) .done
theorem qrz {b:qm} {g:ByteArray→Int} (hg:∀ name,Ev (fun n=>qaT n b.Ab b.Ah name) (g name)) {V:Tview} (hV:V.Bh=b) {ws:List ByteArray} (hw:ws.length≤2000000):∀ (d k:Nat) (a:Lst),k+d=ws.length→a.f.length+a.t.length+a.o.length≤k →
  ∃ e,Ev (fun n=>qt (some V) ws n a.o a.t a.f (k:Int)) ((lsts g (ws.drop k) a).o,(lsts g (ws.drop k) a).t,(lsts g (ws.drop k) a).f,e):=by
 intro d
 induction d using Nat.strongRecOn with
 | ind d ih =>
  intro k a hk ha
  have e1:W64 ((k:Int)+1)=((k+1:Nat):Int):=qb8 (by omega)
  have e2:W64 ((k:Int)+2)=((k+2:Nat):Int):=by rw [qaw (by omega) (by omega)];omega
  by_cases h2:k+1<ws.length
  ·have hk0:k<ws.length:=by omega
   have ed:ws.drop k=ws[k]::ws[k+1]::ws.drop (k+2):=by rw [jx hk0,jx h2]
   have hn:=hg ws[k+1]
   have key:∀ a',stepL g a ws[k] ws[k+1]=a'→a'.f.length+a'.t.length+a'.o.length≤k+2→∃ e,Ev (fun n=>qt (some V) ws n a'.o a'.t a'.f ((k+2:Nat):Int)) ((lsts g (ws.drop k) a).o,(lsts g (ws.drop k) a).t,(lsts g (ws.drop k) a).f,e):=fun a' e hl=>by
    have:=ih (d-2) (by omega) (k+2) a' (by omega) hl
    rw [ed]
    simp only [lsts,e]
    exact this
   have ap:∀ l:List Int,l.length≤k→appS l [g ws[k+1]]=some (l++[g ws[k+1]]):=fun l hl=>qcR (by rw [jm];omega)
   have st:∀ {e r},Ev (fun n=>(qaT n b.Ab b.Ah ws[k+1]).bind fun r2=>(idx ws (k:Int)).bind fun y3 =>
     bif (y3.toList==wF.toList) then (appS a.f ([r2]:List Int)).bind fun x4=>qt (some V) ws n a.o a.t x4 ((k+2:Nat):Int)
     else bif (y3.toList==wT.toList) then (appS a.t ([r2]:List Int)).bind fun x5=>qt (some V) ws n a.o x5 a.f ((k+2:Nat):Int)
     else bif (y3.toList==wO'.toList) then (appS a.o ([r2]:List Int)).bind fun x6=>qt (some V) ws n x6 a.t a.f ((k+2:Nat):Int)
     else qt (some V) ws n a.o a.t a.f ((k+2:Nat):Int)) (r,e)→Ev (fun n=>qt (some V) ws n a.o a.t a.f (k:Int)) (r,e):=fun hh=>by
    refine Ev.succ ?_
    subst hV
    simp only [qt,e1,e2,jd]
    exact Ev.tt (qj h2) (Ev.bindN (qct h2) hh)
   cases c1:ws[k].toList==wF.toList
   ·cases c2:ws[k].toList==wT.toList
    ·cases c3:ws[k].toList==wO'.toList
     ·obtain ⟨e,he⟩:=key a (by unfold stepL;rw [c1,c2,c3];rfl) (by omega)
      exact ⟨e,st (Ev.bind hn (Ev.bindN (qct hk0) (Ev.ff c1 (Ev.ff c2 (Ev.ff c3 he)))))⟩
     ·obtain ⟨e,he⟩:=key ⟨a.f,a.t,a.o++[g ws[k+1]]⟩ (by unfold stepL;rw [c1,c2,c3];rfl) (by simp only [ji,jm];omega)
      exact ⟨e,st (Ev.bind hn (Ev.bindN (qct hk0) (Ev.ff c1 (Ev.ff c2 (Ev.tt c3 (Ev.bindN (ap _ (by omega)) he))))))⟩
    ·obtain ⟨e,he⟩:=key ⟨a.f,a.t++[g ws[k+1]],a.o⟩ (by unfold stepL;rw [c1,c2];rfl) (by simp only [ji,jm];omega)
     exact ⟨e,st (Ev.bind hn (Ev.bindN (qct hk0) (Ev.ff c1 (Ev.tt c2 (Ev.bindN (ap _ (by omega)) he)))))⟩
   ·obtain ⟨e,he⟩:=key ⟨a.f++[g ws[k+1]],a.t,a.o⟩ (by unfold stepL;rw [c1];rfl) (by simp only [ji,jm];omega)
    exact ⟨e,st (Ev.bind hn (Ev.bindN (qct hk0) (Ev.tt c1 (Ev.bindN (ap _ (by omega)) he))))⟩
  ·refine ⟨(k:Int),Ev.succ ?_⟩
   have el:lsts g (ws.drop k) a=a:=by
    have hl:(ws.drop k).length=ws.length-k:=List.length_drop
    match hd:ws.drop k with
    | []=>rfl
    | [_]=>rfl
    | _::_::_=>rw [hd] at hl;simp at hl;omega
   rw [el]
   simp only [qt,e1]
   exact Ev.ff (qk (by omega)) .done
end Go.Fw


namespace Go.Fw
open Go
set_option maxRecDepth 100000
def consH {α:Type} (b:α):List (List α)→List (List α)
 | []=>[[b]]
 | h::t=>(b::h)::t
def appH {α:Type} (cur:List α):List (List α)→List (List α)
 | []=>[cur]
 | h::t=>(cur++h)::t
def sp1 (c:UInt8):List UInt8→List (List UInt8)
 | []=>[[]]
 | b::l=>if b=c then []::sp1 c l else consH b (sp1 c l)
theorem qlY {c:UInt8}:∀ l,sp1 c l ≠ []
 | []=>by simp [sp1]
 | b::l=>by
  simp only [sp1]
  split
  ·simp
  ·cases sp1 c l<;>simp [consH]
theorem qn9 {α:Type} {S:List (List α)} (h:S ≠ []):appH [] S=S:=by
 cases S with
 | nil=>exact absurd rfl h
 | cons a t=>rfl
theorem qqo {α:Type} {S:List (List α)} {cur:List α} {b:α} (h:S ≠ []):appH cur (consH b S)=appH (cur++[b]) S:=by
 cases S with
 | nil=>exact absurd rfl h
 | cons a t=>simp [appH,consH]
theorem qnk (c:UInt8):∀ l:List UInt8,Lib.splitK [c] 0 (l.count c) l=sp1 c l
 | []=>rfl
 | b::l=>by
  have ih:=qnk c l
  by_cases h:b=c
  ·subst h
   rw [List.count_cons_self]
   have hix:Lib.index (b::l) [b]=0:=by simp [Lib.index,List.isPrefixOf]
   simp only [sp1,if_true]
   unfold Lib.splitK
   rw [hix]
   simp [ih]
  ·rw [List.count_cons_of_ne h]
   simp only [sp1,if_neg h]
   cases hk:l.count c with
   | zero =>
    rw [hk] at ih
    rw [←ih]
    rfl
   | succ k =>
    rw [hk] at ih
    have hp:([c]:List UInt8).isPrefixOf (b::l)=false:=by simp [List.isPrefixOf,Ne.symm h]
    have hm:Lib.index l [c] ≠ -1:=fun e=>by
     have:=Lib.count_miss e
     rw [Lib.count_one] at this
     omega
    have hge:=Lib.index_ge l [c]
    obtain ⟨j,hj⟩:∃ j:Nat,Lib.index l [c]=j:=⟨(Lib.index l [c]).toNat,by omega⟩
    have hix:Lib.index (b::l) [c]=((j+1:Nat):Int):=by
     rw [Lib.index,hp]
     simp only [Bool.false_eq_true,if_false]
     rw [if_neg (fun e=>hm (beq_iff_eq.1 e)),hj]
     omega
    rw [←ih]
    unfold Lib.splitK
    rw [hix,hj]
    rw [if_neg (by simp;omega),if_neg (by simp)]
    simp [consH]
def mkB (l:List UInt8):ByteArray:=⟨l.toArray⟩
theorem qrE {n:Nat} {s:ByteArray} (hs:s.size≤1048576):qfC n s (⟨#[32]⟩:ByteArray)=some ((sp1 32 s.data.toList).map mkB):=by
 unfold qfC
 rw [if_pos ⟨by omega,by decide⟩]
 refine congrArg some ?_
 have hd:=Lib.splitB_data (⟨#[32]⟩:ByteArray) 0 (Lib.countB s ⟨#[32]⟩) s
 have hc:Lib.countB s ⟨#[32]⟩=s.data.toList.count 32:=Lib.count_one 32 s.data.toList
 have e1:(⟨#[32]⟩:ByteArray).data.toList=[32]:=rfl
 rw [e1,hc] at hd
 rw [qnk] at hd
 rw [hc,←hd,List.map_map]
 have:mkB ∘ (fun x:ByteArray=>x.data.toList)=id:=funext fun x=>rfl
 rw [this,List.map_id]
theorem qqd {s:ByteArray} (hs:s.size≤1048576):Ev (fun n=>qgO n s (⟨32⟩:IntK .u8)) ((sp1 32 s.data.toList).map mkB):=by
 obtain ⟨L,hL⟩:∃ L,L=s.data.toList:=⟨_,rfl⟩
 have hsz:L.length=s.size:=by rw [hL];exact Array.length_toList
 have sub:∀ a b:Nat,a≤b→b≤s.size→subB s (a:Int) (b:Int)=some (mkB ((L.take b).drop a)):=fun a b h1 h2=>by
  unfold subB
  rw [if_pos ⟨by omega,by omega,by omega⟩,jC,jC]
  refine congrArg some (ByteArray.ext (Array.toList_inj.1 ?_))
  rw [hL]
  simp [mkB,ByteArray.data_extract,List.drop_take]
 have main:∀ d i2 i1 x,i2+d=s.size→i1≤i2→x.length≤i2→∃ e,Ev (fun n=>qbj s (⟨32⟩:IntK .u8) n x (i1:Int) (i2:Int)) (x++(appH ((L.take i2).drop i1) (sp1 32 (L.drop i2))).map mkB,e):=by
  intro d
  induction d with
  | zero =>
   intro i2 i1 x hd h1 hx
   obtain rfl:i2=s.size:=by omega
   have ed:L.drop s.size=[]:=by rw [←hsz];exact List.drop_length
   rw [ed]
   refine ⟨(((s.size+1:Nat):Int),((s.size+1:Nat):Int)),Ev.succ ?_⟩
   simp only [qbj]
   refine Ev.tt (decide_eq_true (by omega)) (Ev.bind (b:=true) (Ev.tt (by simp) .done) (Ev.tt rfl (Ev.bindN (sub i1 s.size h1 (je _)) (Ev.bindN (qcR (by rw [jm];omega)) (Ev.succ ?_)))))
   rw [qb8 (show s.size<9223372036854775807 by omega)]
   simp only [qbj]
   refine Ev.ff (decide_eq_false (by omega)) ?_
   simp [sp1,appH]
   exact .done
  | succ d ih =>
   intro i2 i1 x hd h1 hx
   have hlt:i2<s.size:=by omega
   have hlL:i2<L.length:=by omega
   have ed:L.drop i2=L[i2]::L.drop (i2+1):=jx hlL
   have et:L.take (i2+1)=L.take i2++[L[i2]]:=List.take_succ_eq_append_getElem hlL
   have ea:atS s (i2:Int)=some (L[i2].toNat:Int):=by
    rw [qmg hlt]
    unfold bt
    rw [←hL,jv,jh hlL]
    rfl
   by_cases hb:L[i2]=32
   ·obtain ⟨e,he⟩:=ih (i2+1) (i2+1) (x++[mkB ((L.take i2).drop i1)]) (by omega) (je _) (by rw [ji,jm];omega)
    refine ⟨e,Ev.succ ?_⟩
    simp only [qbj]
    refine Ev.tt (decide_eq_true (by omega)) (Ev.bind (b:=true) (Ev.ff (by simp;omega) (Ev.bindN ea (Ev.now (by rw [hb];rfl)))) (Ev.tt rfl (Ev.bindN (sub i1 i2 h1 (by omega)) (Ev.bindN (qcR (by rw [jm];omega)) ?_))))
    rw [wS i2]
    have er:(x++[mkB ((L.take i2).drop i1)])++(appH ((L.take (i2+1)).drop (i2+1)) (sp1 32 (L.drop (i2+1)))).map mkB=x++(appH ((L.take i2).drop i1) (sp1 32 (L.drop i2))).map mkB:=by
     have e0:(L.take (i2+1)).drop (i2+1)=[]:=List.drop_of_length_le (by rw [List.length_take];omega)
     rw [e0,qn9 (qlY _),ed,hb]
     simp [sp1,appH]
    rw [←er]
    exact he
   ·obtain ⟨e,he⟩:=ih (i2+1) i1 x (by omega) (by omega) (by omega)
    refine ⟨e,Ev.succ ?_⟩
    simp only [qbj]
    refine Ev.tt (decide_eq_true (by omega)) (Ev.bind (b:=false) (Ev.ff (by simp;omega) (Ev.bindN ea (Ev.now ?_))) (Ev.ff rfl ?_))
    ·have:¬ (L[i2].toNat=32):=fun e=>hb (by apply UInt8.toNat_inj.1;exact e)
     simp
     omega
    rw [wS i2]
    have er:appH ((L.take (i2+1)).drop i1) (sp1 32 (L.drop (i2+1)))=appH ((L.take i2).drop i1) (sp1 32 (L.drop i2)):=by
     rw [ed,et,List.drop_append_of_le_length (by rw [List.length_take];omega)]
     simp only [sp1,if_neg hb]
     rw [qqo (qlY _)]
    rw [←er]
    exact he
 obtain ⟨e,he⟩:=main s.size 0 0 [] (by omega) (je _) (je _)
 have e0:([]:List ByteArray)++(appH ((L.take 0).drop 0) (sp1 32 (L.drop 0))).map mkB=(sp1 32 L).map mkB:=by
  rw [List.take_zero,List.drop_zero,List.drop_zero,qn9 (qlY _),List.nil_append]
 rw [e0] at he
 unfold qgO
 rw [←hL]
 exact Ev.bind he .done
end Go.Fw


namespace Go.Fw
open Go
set_option maxRecDepth 100000
def valD (acc:Nat) (l:List UInt8):Nat:=l.foldl (fun a c=>a*10+(c.toNat-48)) acc
def digC (c:UInt8):Prop:=48≤c.toNat∧c.toNat≤57
theorem qn5 {k:Nat} (h:k<10):(UInt8.ofNat (48+k)).toNat=48+k:=by
 have:∀ v:Fin 10,(UInt8.ofNat (48+v.val)).toNat=48+v.val:=by decide
 exact this ⟨k,h⟩
theorem qpf:∀ u:Nat,(∀ c,c ∈ Lib.decDigits u→digC c)∧valD 0 (Lib.decDigits u)=u∧Lib.decDigits u ≠ []:=by
 intro u
 induction u using Nat.strongRecOn with
 | ind u ih =>
  by_cases h:u<10
  ·rw [Lib.decDigits,dif_pos h]
   refine ⟨fun c hc=>?_,?_,by simp⟩
   ·simp only [List.mem_singleton] at hc
    subst hc
    unfold digC
    rw [qn5 h];omega
   ·show 0*10+((UInt8.ofNat (48+u)).toNat-48)=u
    rw [qn5 h];omega
  ·obtain ⟨a,b,c⟩:=ih (u / 10) (by omega)
   rw [Lib.decDigits,dif_neg h]
   refine ⟨fun x hx=>?_,?_,by simp⟩
   ·rcases List.mem_append.1 hx with hx|hx
    ·exact a x hx
    ·simp only [List.mem_singleton] at hx
     subst hx
     unfold digC
     rw [qn5 (by omega)];omega
   ·unfold valD at b ⊢
    rw [List.foldl_append,b]
    show u / 10*10+((UInt8.ofNat (48+u % 10)).toNat-48)=u
    rw [qn5 (by omega)];omega
theorem qnx:∀ (d u:Nat),u<10 ^ (d+1)→(Lib.decDigits u).length≤d+1
 | 0,u,h=>by rw [Lib.decDigits,dif_pos (by omega)];simp
 | d+1,u,h=>by
  by_cases h1:u<10
  ·rw [Lib.decDigits,dif_pos h1];simp
  ·rw [Lib.decDigits,dif_neg h1]
   have:=qnx d (u / 10) (by rw [Nat.pow_succ] at h;omega)
   rw [ji,jm]
   omega
theorem qpQ:∀ (l:List UInt8) (acc:Nat),acc≤valD acc l
 | [],_=>je _
 | c::l,acc=>by
  have:=qpQ l (acc*10+(c.toNat-48))
  show acc≤valD (acc*10+(c.toNat-48)) l
  omega
theorem qnl {M:Nat}:∀ (l:List UInt8) (acc:Nat),(∀ c,c ∈ l→digC c)→valD acc l≤M→valD acc l≤1000000000000→Lib.parseUintM M acc l=.ok (valD acc l)
 | [],_,_,_,_=>rfl
 | c::l,acc,hd,hm,hb=>by
  have hv:valD acc (c::l)=valD (acc*10+(c.toNat-48)) l:=rfl
  have hg:=qpQ l (acc*10+(c.toNat-48))
  rw [hv] at hm hb ⊢
  unfold Lib.parseUintM
  have hc:48≤c.toNat∧c.toNat≤57:=hd c (jp ..)
  rw [if_pos hc,if_neg (by omega),if_neg (by omega)]
  exact qnl l _ (fun x hx=>hd x (jn _ hx)) hm hb
theorem qp8 {u:Nat} (hu:u≤1000000000):Lib.parseIntB 64 (Lib.decDigits u)=.ok (u:Int):=by
 obtain ⟨a,b,c⟩:=qpf u
 have hp:=qnl (M:=2 ^ 64-1) (Lib.decDigits u) 0 a (by rw [b];omega) (by rw [b];omega)
 rw [b] at hp
 cases hl:Lib.decDigits u with
 | nil=>exact absurd hl c
 | cons x r =>
  rw [hl] at a hp
  have hx:=a x (jp ..)
  unfold digC at hx
  unfold Lib.parseIntB
  simp only
  rw [if_neg (by omega)]
  unfold Lib.parseUintB
  rw [if_neg (by simp),hp]
  simp only
  rw [if_neg (by omega),if_neg (by omega),if_neg (by omega)]
theorem qpc {s:ByteArray} (hs:s.size≤1048576):∃ y:Int × Bool,parseN s=some y∧-9223372036854775808≤y.1∧y.1≤9223372036854775807:=by
 unfold parseN
 rw [if_pos (by omega)]
 cases h:Lib.parseIntB 64 s.data.toList with
 | ok v =>
  have:=Lib.parseIntB_bounds h
  exact ⟨_,rfl,by simp only;omega,by simp only;omega⟩
 | range =>
  refine ⟨_,rfl,?_⟩
  simp only [Lib.intSat]
  split<;>omega
 | _ => exact ⟨_,rfl,by decide,by decide⟩
theorem qqK {s:ByteArray} (hs:s.size≤1048576):∃ v,Ev (fun n=>qcE n s) v∧okI v.1:=by
 obtain ⟨y,hy,hb⟩:=qpc hs
 unfold qcE
 cases h:y.2
 ·exact ⟨(y.1,false),Ev.bindN hy (Ev.ff h .done),hb⟩
 ·obtain ⟨h0,h1⟩:=hb
  have hd:qet 0 y.1=some (⟨(Lib.itoa y.1).toArray⟩:ByteArray):=by
   unfold qet qdP
   rw [if_pos ⟨rfl,by omega,by omega⟩]
   rfl
  exact ⟨(y.1,(⟨(Lib.itoa y.1).toArray⟩:ByteArray).toList==s.toList),Ev.bindN hy (Ev.tt h (Ev.bind (.now hd) .done)),⟨h0,h1⟩⟩
theorem qrw {v:Int} (h0:0≤v) (h1:v≤1000000000):Ev (fun n=>qcE n (decT v)) (v,true):=by
 obtain ⟨u,rfl⟩:∃ u:Nat,v=(u:Int):=⟨v.toNat,by omega⟩
 have ed:(decT (u:Int)).data.toList=Lib.decDigits u:=by unfold decT;rw [Lib.itoa_nonneg]
 have hy:parseN (decT (u:Int))=some ((u:Int),true):=by
  unfold parseN
  rw [if_pos (by have:=qjC h0 h1;omega),ed,qp8 (by omega)]
 unfold qcE
 refine Ev.bindN hy (Ev.tt rfl (Ev.bind (.now (qlT (n:=0) h0 h1)) ?_))
 simp only [beq_self_eq_true]
 exact .done
theorem qld {v:Int} (h0:-1000000000000≤v) (h1:v≤1000000000000):∃ r,Ev (fun n=>qaj n v) r:=by
 have pos:∀ u:Nat,u≤1000000000000→Ev (fun n=>qaj n (u:Int)) ⟨(Lib.decDigits u).toArray⟩:=fun u hu=>qnq 12 u (by omega) (by decide)
 by_cases hn:v<0
 ·obtain ⟨u,hu⟩:∃ u:Nat,-v=(u:Int):=⟨(-v).toNat,by omega⟩
  have hp:=pos u (by omega)
  have e:W64 (0-v)=(u:Int):=by rw [qaw (by omega) (by omega)];omega
  have hl:=qnx 12 u (by omega)
  refine ⟨apB ⟨#[45]⟩ ⟨(Lib.decDigits u).toArray⟩,Ev.succ ?_⟩
  simp only [qaj,e]
  exact Ev.tt (decide_eq_true hn) (Ev.bind hp (Ev.bindN (catK (by
   have:(⟨(Lib.decDigits u).toArray⟩:ByteArray).size=(Lib.decDigits u).length:=rfl
   have:(⟨#[45]⟩:ByteArray).size=1:=rfl
   omega)) .done))
 ·obtain ⟨u,rfl⟩:∃ u:Nat,v=(u:Int):=⟨v.toNat,by omega⟩
  exact ⟨_,pos u (by omega)⟩
end Go.Fw


namespace Go.Fw
open Go
set_option maxRecDepth 100000
theorem qnZ:∀ (l:List UInt8) (acc:Nat),(∀ c,c ∈ l→digC c)→valD acc l+1≤(acc+1)*10 ^ l.length
 | [],acc,_=>by simp [valD]
 | c::l,acc,h=>by
  have hc:48≤c.toNat∧c.toNat≤57:=h c (jp ..)
  have ih:=qnZ l (acc*10+(c.toNat-48)) fun x hx=>h x (jn _ hx)
  show valD (acc*10+(c.toNat-48)) l+1≤(acc+1)*10 ^ (l.length+1)
  have h1:(acc*10+(c.toNat-48)+1)*10 ^ l.length≤((acc+1)*10)*10 ^ l.length:=jo _ (by omega)
  have h2:(acc+1)*10 ^ (l.length+1)=((acc+1)*10)*10 ^ l.length:=by rw [Nat.pow_succ,Nat.mul_assoc,Nat.mul_comm 10]
  omega
theorem qsy {s:ByteArray} {L:List UInt8} (hL:L=s.data.toList) {i:Nat} (h:i<L.length):atS s (i:Int)=some (L[i].toNat:Int):=by
 have hsz:L.length=s.size:=by rw [hL];exact Array.length_toList
 rw [qmg (by omega)]
 unfold bt
 rw [←hL,jv,jh h]
 rfl
theorem qrd {k:Nat} (h:k<10):W64 (IntKind.wrap .u8 (k:Int))=(k:Int):=by
 have:∀ v:Fin 10,W64 (IntKind.wrap .u8 ((v.val:Nat):Int))=((v.val:Nat):Int):=by decide
 exact this ⟨k,h⟩
theorem qqQ {z:ByteArray} {L:List UInt8} (hL:L=z.data.toList) (hz:L.length≤12):∀ (d i:Nat),i+d=L.length→(∀ c,c ∈ L.take i→digC c) →
  ∃ o,Ev (fun n=>qbi z n (valD 0 (L.take i):Int) (i:Int)) o∧((∀ c,c ∈ L→digC c)→o=.nxt ((valD 0 L:Int),(L.length:Int)))∧((o=.ret (0,false))∨∃ (v:Nat) (e:Int),v≤1000000000000∧o=.nxt ((v:Int),e)):=by
 have hsz:L.length=z.size:=by rw [hL];exact Array.length_toList
 intro d
 induction d with
 | zero =>
  intro i hi hd
  obtain rfl:i=L.length:=by omega
  rw [jO] at hd ⊢
  have hlt:=qnZ L 0 hd
  have hp:(10:Nat) ^ L.length≤10 ^ 12:=Nat.pow_le_pow_right (by decide) hz
  refine ⟨.nxt ((valD 0 L:Int),(L.length:Int)),Ev.succ ?_,fun _=>rfl,.inr ⟨valD 0 L,_,by omega,rfl⟩⟩
  simp only [qbi]
  exact Ev.ff (decide_eq_false (by omega)) .done
 | succ d ih =>
  intro i hi hd
  have hil:i<L.length:=by omega
  have ea:=qsy hL hil
  have et:L.take (i+1)=L.take i++[L[i]]:=List.take_succ_eq_append_getElem hil
  by_cases hc:digC L[i]
  ·have hc':48≤L[i].toNat∧L[i].toNat≤57:=hc
   have hlt:=qnZ (L.take i) 0 hd
   have hlen:(L.take i).length≤12:=by rw [List.length_take];omega
   have hp:(10:Nat) ^ (L.take i).length≤10 ^ 12:=Nat.pow_le_pow_right (by decide) hlen
   have hv:valD 0 (L.take (i+1))=valD 0 (L.take i)*10+(L[i].toNat-48):=by
    rw [et];unfold valD;rw [List.foldl_append];rfl
   obtain ⟨o,ho,h1,h2⟩:=ih (i+1) (by omega) (fun c hc0=>by
    rw [et] at hc0
    rcases List.mem_append.1 hc0 with hc0|hc0
    ·exact hd c hc0
    ·rw [List.mem_singleton] at hc0;subst hc0;exact hc)
   refine ⟨o,Ev.succ ?_,h1,h2⟩
   have e1:W64 (10*(valD 0 (L.take i):Int))=10*(valD 0 (L.take i):Int):=qaw (by omega) (by omega)
   have e2:((L[i].toNat:Int)-48)=((L[i].toNat-48:Nat):Int):=by omega
   have e3:=qrd (k:=L[i].toNat-48) (by omega)
   have e4:W64 (10*(valD 0 (L.take i):Int)+((L[i].toNat-48:Nat):Int))=(valD 0 (L.take (i+1)):Int):=by
    rw [qaw (by omega) (by omega),hv];omega
   simp only [qbi]
   refine Ev.tt (decide_eq_true (by omega)) (Ev.bind (b:=false) (Ev.bindN ea (Ev.ff (decide_eq_false (by omega)) (Ev.bindN ea (Ev.now ?_)))) (Ev.ff rfl (Ev.bindN ea ?_)))
   ·exact congrArg some (decide_eq_false (by omega))
   ·rw [e1,e2,e3,e4,wS i]
    exact ho
  ·have hc':¬ (48≤L[i].toNat∧L[i].toNat≤57):=hc
   refine ⟨.ret (0,false),Ev.succ ?_,fun h=>absurd (h _ (ju hil)) hc,.inl rfl⟩
   simp only [qbi]
   refine Ev.tt (decide_eq_true (by omega)) (Ev.bind (b:=true) (Ev.bindN ea ?_) (Ev.tt rfl .done))
   by_cases h48:L[i].toNat<48
   ·exact Ev.tt (decide_eq_true (by omega)) .done
   ·exact Ev.ff (decide_eq_false (by omega)) (Ev.bindN ea (Ev.now (congrArg some (decide_eq_true (by omega)))))
theorem qrI {s:ByteArray}:∃ v,Ev (fun n=>qdU n s) v∧okI v.1:=by
 have z0:okI (0:Int):=⟨by decide,by decide⟩
 unfold qdU
 obtain ⟨b,hb,hb1⟩:∃ b,Ev (fun n=>bif decide ((s.size:Int) > 0) then (atS s 0).bind fun y4=>some (y4==45) else some false) b∧(b=true→0<s.size):=by
  by_cases h:0<s.size
  ·exact ⟨_,Ev.tt (decide_eq_true (by omega)) (Ev.bindN (qmg (j:=0) h) .done),fun _=>h⟩
  ·exact ⟨false,Ev.ff (decide_eq_false (by omega)) .done,fun e=>by cases e⟩
 obtain ⟨z,hz⟩:∃ z,Ev (fun _:Nat=>bif b then (subB s 1 (s.size:Int)).bind fun z2=>some z2 else some s) z:=by
  cases b with
  | false=>exact ⟨s,.done⟩
  | true =>
   refine ⟨_,Ev.tt rfl (Ev.bindN (b:=s.extract 1 s.size) ?_ .done)⟩
   unfold subB
   rw [if_pos ⟨by omega,by have:=hb1 rfl;omega,by omega⟩]
   rfl
 by_cases h1:z.size<1
 ·exact ⟨(0,false),Ev.bind hb (Ev.bind hz (Ev.bind (b:=true) (Ev.tt (decide_eq_true (by omega)) .done) (Ev.tt rfl .done))),z0⟩
 by_cases h2:z.size > 12
 ·exact ⟨(0,false),Ev.bind hb (Ev.bind hz (Ev.bind (b:=true) (Ev.ff (decide_eq_false (by omega)) (Ev.now (congrArg some (decide_eq_true (by omega))))) (Ev.tt rfl .done))),z0⟩
 have hsz:z.data.toList.length=z.size:=Array.length_toList
 obtain ⟨o,ho,_,hr⟩:=qqQ (z:=z) rfl (by omega) z.data.toList.length 0 (by omega) (fun c hc=>by cases hc)
 have ho':Ev (fun n=>qbi z n 0 0) o:=ho
 have hB:Ev (fun n:Nat=>bif decide ((z.size:Int)<1) then some true else some (decide ((z.size:Int) > 12))) false:=Ev.ff (decide_eq_false (by omega)) (Ev.now (congrArg some (decide_eq_false (by omega))))
 rcases hr with rfl|⟨v,e,hv,rfl⟩
 ·exact ⟨(0,false),Ev.bind hb (Ev.bind hz (Ev.bind hB (Ev.ff rfl (Ev.bind ho' .done)))),z0⟩
 ·by_cases hs:(z.size:Int)<(s.size:Int)
  ·have ew:W64 (0-(v:Int))=-(v:Int):=by rw [qaw (by omega) (by omega)];omega
   obtain ⟨r1,hr1⟩:=qld (v:=-(v:Int)) (by omega) (by omega)
   refine ⟨(-(v:Int),r1.toList==s.toList),Ev.bind hb (Ev.bind hz (Ev.bind hB (Ev.ff rfl (Ev.bind ho' (Ev.tt (decide_eq_true hs) ?_))))),by constructor<;>simp only<;>omega⟩
   rw [ew]
   exact Ev.bind hr1 .done
  ·obtain ⟨r1,hr1⟩:=qld (v:=(v:Int)) (by omega) (by omega)
   exact ⟨((v:Int),r1.toList==s.toList),Ev.bind hb (Ev.bind hz (Ev.bind hB (Ev.ff rfl (Ev.bind ho' (Ev.ff (decide_eq_false hs) (Ev.bind hr1 .done)))))),by constructor<;>simp only<;>omega⟩
theorem qry {v:Int} (h0:0≤v) (h1:v≤1000000000):Ev (fun n=>qdU n (decT v)) (v,true):=by
 obtain ⟨u,rfl⟩:∃ u:Nat,v=(u:Int):=⟨v.toNat,by omega⟩
 have ed:(decT (u:Int)).data.toList=Lib.decDigits u:=by unfold decT;rw [Lib.itoa_nonneg]
 obtain ⟨a,b,c⟩:=qpf u
 have hl:=qnx 9 u (by omega)
 have hsz:(decT (u:Int)).data.toList.length=(decT (u:Int)).size:=Array.length_toList
 have hpos:0<(Lib.decDigits u).length:=List.length_pos_iff.2 c
 rw [ed] at hsz
 have ha0:=qsy (s:=decT (u:Int)) ed.symm (i:=0) hpos
 have hd0:48≤(Lib.decDigits u)[0].toNat∧(Lib.decDigits u)[0].toNat≤57:=a _ (ju hpos)
 obtain ⟨o,ho,hall,_⟩:=qqQ (z:=decT (u:Int)) ed.symm (by omega) (Lib.decDigits u).length 0 (by omega) (fun c hc=>by cases hc)
 have ho':Ev (fun n=>qbi (decT (u:Int)) n 0 0) o:=ho
 rw [hall a,b] at ho'
 have hn:=qpF (v:=(u:Int)) h0 h1
 unfold qdU
 refine Ev.bind (b:=false) (Ev.tt (decide_eq_true (by omega)) (Ev.bindN ha0 (Ev.now ?_))) (Ev.bind (b:=decT (u:Int)) .done (Ev.bind (b:=false) (Ev.ff (decide_eq_false (by omega)) (Ev.now (congrArg some (decide_eq_false (by omega))))) (Ev.ff rfl (Ev.bind ho' (Ev.ff (decide_eq_false (by omega)) (Ev.bind hn ?_))))))
 ·refine congrArg some ?_
  simp
  omega
 ·simp only [beq_self_eq_true]
  exact .done
end Go.Fw


namespace Go.Fw
open Go
set_option maxRecDepth 100000
theorem qpP {c:UInt8}:∀ l:List UInt8,(sp1 c l).length≤l.length+1
 | []=>je _
 | b::l=>by
  have:=qpP (c:=c) l
  simp only [sp1]
  split
  ·simp only [js];omega
  ·cases h:sp1 c l with
   | nil=>simp [consH]
   | cons a t=>rw [h] at this;simp only [consH,js] at this ⊢;omega
theorem qnR {c:UInt8}:∀ (a r:List UInt8),(∀ x,x ∈ a→x ≠ c)→sp1 c (a++c::r)=a::sp1 c r
 | [],r,_=>by simp [sp1]
 | b::a,r,h=>by
  have ih:=qnR a r fun x hx=>h x (jn _ hx)
  show sp1 c (b::(a++c::r))=_
  simp only [sp1,if_neg (h b (jp ..)),ih,consH]
theorem qqM {c:UInt8} {a r:List UInt8} (ha:∀ x,x ∈ a→x ≠ c) (hr:r=[]∨∃ t,r=c::t):∃ t,sp1 c (a++r)=a::t:=by
 rcases hr with rfl|⟨t,rfl⟩
 ·rw [List.append_nil]
  induction a with
  | nil=>exact ⟨[],rfl⟩
  | cons b a ih =>
   obtain ⟨t,ht⟩:=ih fun x hx=>ha x (jn _ hx)
   exact ⟨t,by simp only [sp1,if_neg (ha b (jp ..)),ht,consH]⟩
 ·exact ⟨_,qnR a t ha⟩
theorem qoC (a b:ByteArray):(apB a b).data.toList=a.data.toList++b.data.toList:=by rw [qjB];simp
def StS (l:List UInt8):Prop:=l=[]∨∃ t,l=32::t
theorem StS.app {a b:List UInt8} (ha:StS a) (hb:StS b):StS (a++b):=by
 rcases ha with rfl|⟨t,rfl⟩
 ·exact hb
 ·exact .inr ⟨t++b,rfl⟩
theorem qn8 {b:qm} {ww:ByteArray} {xs:List Int} (hw:∃ t,ww.data.toList=32::t):∀ j,StS (wds b ww xs j).data.toList
 | 0=>.inl rfl
 | j+1=>by
  obtain ⟨t,ht⟩:=hw
  simp only [wds,qoC]
  refine (qn8 ⟨t,ht⟩ j).app (.inr ⟨t++_,by rw [ht];rfl⟩)
theorem qs6 {k:Int} (h:1≤k∧k≤4):∀ x,x ∈ (kwE k).data.toList→x ≠ 32:=by
 obtain ⟨h1,h2⟩:=h
 obtain rfl|rfl|rfl|rfl:k=1∨k=2∨k=3∨k=4:=by omega
 all_goals decide
theorem qsX {v:Int} (h0:0≤v):∀ x,x ∈ (decT v).data.toList→x ≠ 32:=by
 obtain ⟨u,rfl⟩:∃ u:Nat,v=(u:Int):=⟨v.toNat,by omega⟩
 intro x hx e
 have ed:(decT (u:Int)).data.toList=Lib.decDigits u:=by unfold decT;rw [Lib.itoa_nonneg]
 rw [ed] at hx
 have hd:48≤x.toNat∧x.toNat≤57:=(qpf u).1 x hx
 subst e
 have:(32:UInt8).toNat=32:=rfl
 omega
theorem qqf {b:qm} {e:qf} (hv:valB e.Ap e.Bd=true) (hk:e.Ap ≠ 1):∃ t,sp1 32 (txtE b e).data.toList=(kwE e.Ap).data.toList::(decT e.Bd).data.toList::t:=by
 obtain ⟨hk4,h0,h1⟩:=qem hv
 have hh:headE e=apB (kwE e.Ap) (apB ⟨#[32]⟩ (decT e.Bd)):=by
  unfold headE
  have:(e.Ap != 1)=true:=by simpa using hk
  rw [this]
  rfl
 have r1:=qn8 (b:=b) (ww:=wFrom) (xs:=e.Av) ⟨_,rfl⟩ e.Av.length
 have r2:=qn8 (b:=b) (ww:=wThr) (xs:=e.As) ⟨_,rfl⟩ e.As.length
 have r3:=qn8 (b:=b) (ww:=wTo) (xs:=e.To) ⟨_,rfl⟩ e.To.length
 obtain ⟨t,ht⟩:=qqM (qsX h0) ((r1.app r2).app r3)
 refine ⟨t,?_⟩
 unfold txtE
 rw [hh]
 simp only [qoC,jE]
 rw [List.singleton_append,qnR _ _ (qs6 hk4)]
 rw [←ht]
 simp only [jE]
theorem qrc {b:qm} {e:qf} (hv:valB e.Ap e.Bd=true):txtE b e ≠ ⟨#[]⟩:=by
 intro h
 obtain ⟨hk4,h0,h1⟩:=qem hv
 have hs:(txtE b e).size=0:=by rw [h];rfl
 unfold txtE at hs
 simp only [qbD] at hs
 have hh:0<(headE e).size:=by
  have hkw:0<(kwE e.Ap).size:=by
   obtain h|h|h|h:e.Ap=1∨e.Ap=2∨e.Ap=3∨e.Ap=4:=by omega
   all_goals rw [h];decide
  unfold headE
  cases (e.Ap != 1)
  ·exact hkw
  ·simp only [cond_true,qbD];omega
 omega
def kindS (w:ByteArray):Int :=
 bif (w.toList==(⟨#[102,97,108,115,101]⟩:ByteArray).toList) then 1 else bif (w.toList==(⟨#[99,121,99,108,101,115]⟩:ByteArray).toList) then 2 else bif (w.toList==(⟨#[109,97,120]⟩:ByteArray).toList) then 3 else bif (w.toList==(⟨#[109,105,110]⟩:ByteArray).toList) then 4 else 0
theorem qr8 {w:ByteArray}:∃ k:Int,Ev (fun n=>qa1 n exWords w) k∧((kindS w ≠ 0→k=kindS w)∧(kindS w=0→k=0∨k=-1))∧(0≤kindS w∧kindS w≤4):=by
 have hi:=qe6 (xs:=exWords) (p:=fun y=>w.toList==y.toList) (pf:=fun _ y=>some (w.toList==y.toList)) (Lf:=qax exWords w) (fin:=5) (fun _ _=>.done)
  (fun n=>rfl) (fun n j x hx=>by
   obtain ⟨hj,hi⟩:=qn2 hx
   simp only [qax,qj hj,cond_true,hi,jd,qb8 (show j<9223372036854775807 by have:exWords.length=5:=rfl;omega)])
  (F:=fun n=>qa1 n exWords w) (fun n=>by
   unfold qa1
   refine congrArg (Option.bind _) (funext fun o=>?_)
   cases o<;>rfl)
 refine ⟨_,hi,?_⟩
 have key:∀ c1 c2 c3 c4 c0:Bool,(c0=true→c1=false∧c2=false∧c3=false∧c4=false)→∀ k:Int,k=(if c0 then 0 else if c1 then 1 else if c2 then 2 else if c3 then 3 else if c4 then 4 else -1)→∀ s:Int,s=(bif c1 then 1 else bif c2 then 2 else bif c3 then 3 else bif c4 then 4 else 0)→((s ≠ 0→k=s)∧(s=0→k=0∨k=-1))∧(0≤s∧s≤4):=by
  intro c1 c2 c3 c4 c0 h0 k hk s hs
  cases c0<;>cases c1<;>cases c2<;>cases c3<;>cases c4<;>simp at h0 hk hs<;>subst hk<;>subst hs<;>decide
 refine key (w.toList==(⟨#[102,97,108,115,101]⟩:ByteArray).toList) (w.toList==(⟨#[99,121,99,108,101,115]⟩:ByteArray).toList) (w.toList==(⟨#[109,97,120]⟩:ByteArray).toList) (w.toList==(⟨#[109,105,110]⟩:ByteArray).toList) (w.toList==(⟨#[]⟩:ByteArray).toList) ?_ _ ?_ _ rfl
 ·intro h
  rw [qaz,decide_eq_true_eq] at h
  subst h
  simp only [qaz]
  decide
 ·unfold ixL exWords
  simp only [List.findIdx?_cons,List.findIdx?_nil]
  cases w.toList==(⟨#[]⟩:ByteArray).toList<;>cases w.toList==(⟨#[102,97,108,115,101]⟩:ByteArray).toList<;>cases w.toList==(⟨#[99,121,99,108,101,115]⟩:ByteArray).toList<;>cases w.toList==(⟨#[109,97,120]⟩:ByteArray).toList<;>cases w.toList==(⟨#[109,105,110]⟩:ByteArray).toList<;>rfl
end Go.Fw


namespace Go.Fw
open Go
set_option maxRecDepth 100000
theorem qpJ {c:UInt8}:∀ (l a:List UInt8),a ∈ sp1 c l→a.length≤l.length
 | [],a,h=>by simp [sp1] at h;subst h;simp
 | b::l,a,h=>by
  have ih:=qpJ (c:=c) l
  simp only [sp1] at h
  split at h
  ·rcases List.mem_cons.1 h with rfl|h
   ·simp
   ·have:=ih a h;simp only [js];omega
  ·cases hs:sp1 c l with
   | nil=>exact absurd hs (qlY l)
   | cons x t =>
    rw [hs] at h ih
    simp only [consH] at h
    rcases List.mem_cons.1 h with rfl|h
    ·have:=ih x (jp ..);simp only [js];omega
    ·have:=ih a (jn _ h);simp only [js];omega
theorem qk8 {g:ByteArray→Int} {a:Lst} {w v:ByteArray}:stepL g a w v=⟨a.f++[g v],a.t,a.o⟩∨stepL g a w v=⟨a.f,a.t++[g v],a.o⟩∨stepL g a w v=⟨a.f,a.t,a.o++[g v]⟩∨stepL g a w v=a:=by
 unfold stepL
 cases w.toList==wF.toList
 ·cases w.toList==wT.toList
  ·cases w.toList==wO'.toList
   ·exact .inr (.inr (.inr rfl))
   ·exact .inr (.inr (.inl rfl))
  ·exact .inr (.inl rfl)
 ·exact .inl rfl
theorem qoP {g:ByteArray→Int}:∀ (l:List ByteArray) (a:Lst),(lsts g l a).f.length+(lsts g l a).t.length+(lsts g l a).o.length≤a.f.length+a.t.length+a.o.length+l.length
 | [],a=>je _
 | [_],a=>Nat.le_succ _
 | w::v::r,a=>by
  have ih:=qoP (g:=g) r (stepL g a w v)
  have hs:(stepL g a w v).f.length+(stepL g a w v).t.length+(stepL g a w v).o.length≤a.f.length+a.t.length+a.o.length+1:=by
   rcases qk8 (g:=g) (a:=a) (w:=w) (v:=v) with e|e|e|e<;>rw [e]<;>(try simp only [ji,jm])<;>omega
  show (lsts g r (stepL g a w v)).f.length+(lsts g r (stepL g a w v)).t.length+(lsts g r (stepL g a w v)).o.length≤_
  simp only [js]
  omega
theorem qpH {g:ByteArray→Int} (hg:∀ x,okI (g x)):∀ (l:List ByteArray) (a:Lst),(∀ x,x ∈ a.f∨x ∈ a.t∨x ∈ a.o→okI x)→∀ x,x ∈ (lsts g l a).f∨x ∈ (lsts g l a).t∨x ∈ (lsts g l a).o→okI x
 | [],a,h=>h
 | [_],a,h=>h
 | w::v::r,a,h=>by
  refine qpH hg r (stepL g a w v) fun x hx=>?_
  rcases qk8 (g:=g) (a:=a) (w:=w) (v:=v) with e|e|e|e<;>rw [e] at hx
  ·simp only [List.mem_append,List.mem_singleton] at hx
   rcases hx with (hx|rfl)|hx|hx
   ·exact h x (.inl hx)
   ·exact hg v
   ·exact h x (.inr (.inl hx))
   ·exact h x (.inr (.inr hx))
  ·simp only [List.mem_append,List.mem_singleton] at hx
   rcases hx with hx|(hx|rfl)|hx
   ·exact h x (.inl hx)
   ·exact h x (.inr (.inl hx))
   ·exact hg v
   ·exact h x (.inr (.inr hx))
  ·simp only [List.mem_append,List.mem_singleton] at hx
   rcases hx with hx|hx|(hx|rfl)
   ·exact h x (.inl hx)
   ·exact h x (.inr (.inl hx))
   ·exact h x (.inr (.inr hx))
   ·exact hg v
  ·exact h x hx
theorem qrh {b:qm} (h:designB b.Ah b.Ab=true) (x:ByteArray):okI (namedB b x):=by
 have hpl:=qcJ (qaM h)
 unfold namedB ixL
 split
 ·rename_i j hj
  obtain ⟨hlt,_⟩:=List.findIdx?_eq_some_iff_getElem.1 hj
  constructor<;>omega
 ·exact ⟨by decide,by decide⟩
def eL (k v:Int) (L:Lst):qf:=⟨k,v,L.f,L.t,L.o⟩
def zE:qf:=⟨0,0,[],[],[]⟩
theorem qsS {b:qm} {s:ByteArray} {V:Tview} (hok:qbP b) (h:blockB b=true) (hV:V.Bh=b) (hP:V.places=places b.Ab) {kS kI vS vI:Int} {L:Lst} (oS:qfo (eL kS vS L)) (oI:qfo (eL kI vI L))
  (hk:(kS ≠ 0→kI=kS)∧(kS=0→kI=0∨kI=-1)) (hv:∀ v,valB kS v=true→txtE b (eL kS v L)=s→(v=vS∨v=vI)→vS=vI) :
  ∃ R:qf × Bool,Ev (fun n=>bif (s.toList==(⟨#[]⟩:ByteArray).toList) then some (zE,false) else (qbz n b (eL kS vS L)).bind fun r3=>bif (r3.toList != s.toList) then some (zE,false) else some (eL kS vS L,true)) R ∧
   Ev (fun n=>(qbt n (some V) (eL kI vI L)).bind fun r5=>bif (!r5) then some (zE,false) else (qbc n (some V) (eL kI vI L)).bind fun r6=>bif (r6.toList != s.toList) then some (zE,false) else some (eL kI vI L,true)) R∧qdE R.1≤1048576:=by
 have hz:qdE (zE,false).1≤1048576:=by decide
 have sT:=qoh (b:=b) hok oS
 have iE:=qmv (V:=V) h hP oI
 have ne:∀ {x y:ByteArray},x ≠ y→(x.toList != y.toList)=true:=fun hxy=>by rw [bne,qaz,decide_eq_false hxy];rfl
 have eq:∀ {x y:ByteArray},x=y→(x.toList != y.toList)=false:=fun hxy=>by rw [bne,qaz,decide_eq_true hxy];rfl
 have sF:¬ (excB b (eL kS vS L)=true∧txtE b (eL kS vS L)=s)→Ev (fun n=>bif (s.toList==(⟨#[]⟩:ByteArray).toList) then some (zE,false) else (qbz n b (eL kS vS L)).bind fun r3=>bif (r3.toList != s.toList) then some (zE,false) else some (eL kS vS L,true)) (zE,false):=fun hn=>by
  by_cases hs:s=⟨#[]⟩
  ·exact Ev.tt (by rw [qaz];exact decide_eq_true hs) .done
  ·refine Ev.ff (by rw [qaz];exact decide_eq_false hs) (Ev.bind sT (Ev.tt (ne ?_) .done))
   rw [h,jB]
   cases hx:excB b (eL kS vS L)
   ·exact fun e=>hs e.symm
   ·exact fun e=>hn ⟨hx,e⟩
 have iF:¬ (excB b (eL kI vI L)=true∧txtE b (eL kI vI L)=s)→Ev (fun n=>(qbt n (some V) (eL kI vI L)).bind fun r5=>bif (!r5) then some (zE,false) else (qbc n (some V) (eL kI vI L)).bind fun r6=>bif (r6.toList != s.toList) then some (zE,false) else some (eL kI vI L,true)) (zE,false):=fun hn=>by
  cases hx:excB b (eL kI vI L)
  ·rw [hx] at iE
   exact Ev.bind iE (Ev.tt rfl .done)
  ·rw [hx] at iE
   exact Ev.bind iE (Ev.ff rfl (Ev.bind (qiA hok h hV hP hx) (Ev.tt (ne fun e=>hn ⟨hx,e⟩) .done)))
 by_cases hg:excB b (eL kI vI L)=true∧txtE b (eL kI vI L)=s
 ·obtain ⟨hx,ht⟩:=hg
  obtain ⟨p1,p2,p3,hvb⟩:=qiK hx
  obtain ⟨hk4,_,_⟩:=qem hvb
  have hk4':1≤kI∧kI≤4:=hk4
  have hkS:kS ≠ 0:=fun e=>by rcases hk.2 e with e|e<;>omega
  have e1:=hk.1 hkS
  subst e1
  have e2:=hv vI hvb ht (.inr rfl)
  subst e2
  have hne:s ≠ ⟨#[]⟩:=fun e=>qrc hvb (ht.trans e)
  rw [hx] at iE
  rw [h,hx] at sT
  refine ⟨(eL kI vS L,true),Ev.ff (by rw [qaz];exact decide_eq_false hne) (Ev.bind sT (Ev.ff (eq ht) .done)),Ev.bind iE (Ev.ff rfl (Ev.bind (qiA hok h hV hP hx) (Ev.ff (eq ht) .done))),?_⟩
  unfold plsB at p1 p2 p3
  simp only [jg,decide_eq_true_eq] at p1 p2 p3
  show qad L.f+qad L.t+qad L.o≤1048576
  have q1:L.f.length≤4:=p1.1
  have q2:L.t.length≤4:=p2.1
  have q3:L.o.length≤4:=p3.1
  unfold qad
  omega
 ·refine ⟨(zE,false),sF fun hg'=>?_,iF hg,hz⟩
  obtain ⟨hx,ht⟩:=hg'
  obtain ⟨_,_,_,hvb⟩:=qiK hx
  obtain ⟨hk4,_,_⟩:=qem hvb
  have hk4':1≤kS∧kS≤4:=hk4
  have e1:=hk.1 (by omega)
  subst e1
  have e2:=hv vS hvb ht (.inl rfl)
  subst e2
  exact hg ⟨hx,ht⟩
end Go.Fw


namespace Go.Fw
open Go
set_option maxRecDepth 100000
theorem qmf {α:Type} {x:α} {xs:List α}:subS (x::xs) 1 ((x::xs).length:Int)=some xs:=by
 unfold subS
 rw [if_pos ⟨by decide,by simp only [js];omega,by omega⟩]
 simp
theorem qkW {b:qm} {s:ByteArray} (hok:qbP b) (hs:s.size≤1048576):∃ R:qf × Bool,Ev (fun n=>qdi n b s) R∧Ev (fun n=>qci n b s) R∧qdE R.1≤1048576:=by
 have hsz:s.data.toList.length=s.size:=Array.length_toList
 have sS:=qqd hs
 have iS:=fun n=>qrE (n:=n) hs
 have hlen:((sp1 32 s.data.toList).map mkB).length≤s.size+1:=by rw [jH];have:=qpP (c:=32) s.data.toList;omega
 have hwd:∀ w,w ∈ (sp1 32 s.data.toList).map mkB→w.size≤1048576:=fun w hw=>by
  obtain ⟨l,hl,rfl⟩:=List.mem_map.1 hw
  have:=qpJ _ _ hl
  have e:(mkB l).size=l.length:=by show l.toArray.size=l.length;simp
  omega
 have hne:(sp1 32 s.data.toList).map mkB ≠ []:=by simp [qlY]
 have hcan:∀ (e:qf),valB e.Ap e.Bd=true→e.Ap ≠ 1→txtE b e=s→∃ w0 r,(sp1 32 s.data.toList).map mkB=w0::decT e.Bd::r:=fun e hv hk ht=>by
  obtain ⟨t,e1⟩:=qqf (b:=b) hv hk
  rw [ht] at e1
  rw [e1]
  exact ⟨_,_,rfl⟩
 generalize (sp1 32 s.data.toList).map mkB=W at sS iS hlen hwd hne hcan
 cases W with
 | nil=>exact absurd rfl hne
 | cons w0 rest =>
 obtain ⟨kI,ki,hk,hkb⟩:=qr8 (w:=w0)
 obtain ⟨g,hg,hgo⟩:∃ g:ByteArray→Int,(∀ name,Ev (fun n=>qbw n b.Ah b.Ab name) (g name))∧((∀ x,okI (g x))∧(blockB b=true→g=namedB b)):=by
  cases hd:designB b.Ah b.Ab
  ·refine ⟨fun _=>-1,fun name=>qpV hok hd,fun _=>(⟨by decide,by decide⟩:okI (-1)),fun h=>?_⟩
   rw [qch h] at hd
   cases hd
  ·exact ⟨namedB b,fun name=>qqi hok hd,qrh hd,fun _=>rfl⟩
 obtain ⟨hgk,hgb⟩:=hgo
 have hk0:okI (0:Int):=⟨by decide,by decide⟩
 have okE:∀ (k v:Int) (l:List ByteArray),okI k→okI v→l.length≤1048576→qfo (eL k v (lsts g l ⟨[],[],[]⟩)):=fun k v l h1 h2 h3=>by
  have q:=qoP (g:=g) l ⟨[],[],[]⟩
  have q2:=qpH hgk l ⟨[],[],[]⟩ (fun x hx=>by simp at hx)
  simp only [List.length_nil] at q
  exact ⟨h1,h2,⟨by show (lsts g l ⟨[],[],[]⟩).f.length≤_;omega,fun x hx=>q2 x (.inl hx)⟩,⟨by show (lsts g l ⟨[],[],[]⟩).t.length≤_;omega,fun x hx=>q2 x (.inr (.inl hx))⟩,⟨by show (lsts g l ⟨[],[],[]⟩).o.length≤_;omega,fun x hx=>q2 x (.inr (.inr hx))⟩⟩
 have hrl:rest.length≤1048576:=by rw [js] at hlen;omega
 have okk:okI (kindS w0):=⟨by omega,by omega⟩
 have okki:okI kI:=by
  by_cases e:kindS w0=0
  ·rcases hk.2 e with e'|e'<;>rw [e']<;>exact ⟨by decide,by decide⟩
  ·rw [hk.1 e];exact okk
 have hk1:(kI=1)↔(kindS w0=1):=by
  by_cases e:kindS w0=0
  ·rcases hk.2 e with e'|e'<;>omega
  ·rw [hk.1 e]
 have sKind:Ev (fun _:Nat=>bif (w0.toList==(⟨#[102,97,108,115,101]⟩:ByteArray).toList) then some (1:Int) else bif (w0.toList==(⟨#[99,121,99,108,101,115]⟩:ByteArray).toList) then some 2 else bif (w0.toList==(⟨#[109,97,120]⟩:ByteArray).toList) then some 3 else bif (w0.toList==(⟨#[109,105,110]⟩:ByteArray).toList) then some 4 else some 0) (kindS w0):=by
  unfold kindS
  refine .now ?_
  cases w0.toList==(⟨#[102,97,108,115,101]⟩:ByteArray).toList<;>cases w0.toList==(⟨#[99,121,99,108,101,115]⟩:ByteArray).toList<;>cases w0.toList==(⟨#[109,97,120]⟩:ByteArray).toList<;>cases w0.toList==(⟨#[109,105,110]⟩:ByteArray).toList<;>rfl
 obtain ⟨vS,vI,l,i3,sV,iV,ovS,ovI,hll,hdr,hval⟩:∃ (vS vI:Int) (l:List ByteArray) (i3:Nat),
   Ev (fun n=>(bif (kindS w0 != 1) then some (decide (((w0::rest).length:Int) > 1)) else some false).bind fun b2=>(bif b2 then (idx (w0::rest) 1).bind fun y4=>(qdU n y4).bind fun o=>match o with|(r5,_)=>some (r5,(2:Int)) else some (0,1))) (vS,(i3:Int)) ∧
   Ev (fun n=>(bif (kI != 1) then some (decide ((rest.length:Int) > 0)) else some false).bind fun b2=>(bif b2 then (idx rest 0).bind fun y5=>(qcE n y5).bind fun o=>match o with|(r4,_)=>(subS rest 1 (rest.length:Int)).bind fun x9=>some (x9,r4) else some (rest,0))) (l,vI) ∧
   okI vS∧okI vI∧l.length≤rest.length∧(i3≤(w0::rest).length∧(w0::rest).drop i3=l) ∧
   (∀ (L:Lst) v,valB (kindS w0) v=true→txtE b (eL (kindS w0) v L)=s→(v=vS∨v=vI)→vS=vI):=by
  by_cases hp:kindS w0=1
  ·have e1:(kindS w0 != 1)=false:=by simp [hp]
   have e2:(kI != 1)=false:=by simp [hk1.2 hp]
   exact ⟨0,0,rest,1,Ev.bind (b:=false) (Ev.ff e1 .done) (Ev.ff rfl .done),Ev.bind (b:=false) (Ev.ff e2 .done) (Ev.ff rfl .done),hk0,hk0,je _,⟨by simp,rfl⟩,fun _ _ _ _ _=>rfl⟩
  ·have e1:(kindS w0 != 1)=true:=by simpa using hp
   have e2:(kI != 1)=true:=by have:=fun e=>hp (hk1.1 e);simpa using this
   cases rest with
   | nil=>exact ⟨0,0,[],1,Ev.bind (b:=false) (Ev.tt e1 (.now rfl)) (Ev.ff rfl .done),Ev.bind (b:=false) (Ev.tt e2 (.now rfl)) (Ev.ff rfl .done),hk0,hk0,je _,⟨by simp,rfl⟩,fun _ _ _ _ _=>rfl⟩
   | cons w1 r =>
    obtain ⟨uS,hS,oS⟩:=qrI (s:=w1)
    obtain ⟨uI,hI,oI⟩:=qqK (s:=w1) (hwd w1 (by simp))
    have d1:decide (((w0::w1::r).length:Int) > 1)=true:=decide_eq_true (by simp only [js];omega)
    have d2:decide (((w1::r).length:Int) > 0)=true:=decide_eq_true (by simp only [js];omega)
    refine ⟨uS.1,uI.1,r,2,Ev.bind (b:=true) (Ev.tt e1 (.now (congrArg some d1))) (Ev.tt rfl (Ev.bindN (b:=w1) rfl (Ev.bind hS .done))),Ev.bind (b:=true) (Ev.tt e2 (.now (congrArg some d2))) (Ev.tt rfl (Ev.bindN (b:=w1) rfl (Ev.bind hI (Ev.bindN qmf .done)))),oS,oI,by simp,⟨by simp,rfl⟩,fun L v hv ht hor=>?_⟩
    obtain ⟨_,_,ew⟩:=hcan (eL (kindS w0) v L) hv hp ht
    injection ew with _ ew
    injection ew with ew _
    obtain ⟨_,v0,v1⟩:=qem hv
    have ew':w1=decT v:=ew
    subst ew'
    have a:=hS.uniq (qry v0 v1)
    have c:=hI.uniq (qrw v0 v1)
    rw [a,c]
 have hi3:i3≤(w0::rest).length:=hdr.1
 obtain ⟨eS,hLS⟩:=qq2 (b:=b) hg (ws:=w0::rest) (by omega) ((w0::rest).length-i3) i3 ⟨[],[],[]⟩ (by omega) (by simp)
 rw [hdr.2] at hLS
 have oE:=okE (kindS w0) vS l okk ovS (by omega)
 have oEI:=okE kI vI l okki ovI (by omega)
 have sHead:∀ {R:qf × Bool},Ev (fun n=>bif (s.toList==(⟨#[]⟩:ByteArray).toList) then some (zE,false) else (qbz n b (eL (kindS w0) vS (lsts g l ⟨[],[],[]⟩))).bind fun r3=>bif (r3.toList != s.toList) then some (zE,false) else some (eL (kindS w0) vS (lsts g l ⟨[],[],[]⟩),true)) R→Ev (fun n=>qdi n b s) R:=fun hR=>by
  unfold qdi
  refine Ev.bind sS (Ev.bindN (b:=w0) rfl (Ev.bind sKind ?_))
  exact Ev.congr (fun n=>(Option.bind_assoc _ _ _).symm) (Ev.bind sV (Ev.bind hLS hR))
 have iParse:blockB b=true→∀ V:Tview,V.Bh=b→Ev (fun n=>qcA n (some V) (w0::rest)) (eL kI vI (lsts g l ⟨[],[],[]⟩)):=fun h V hV=>by
  have hgi:∀ name,Ev (fun n=>qaT n b.Ab b.Ah name) (g name):=fun name=>by rw [hgb h];exact qqF hok h
  obtain ⟨eI,hLI⟩:=qrz (b:=b) hgi (V:=V) hV (ws:=l) (by omega) l.length 0 ⟨[],[],[]⟩ (by omega) (je _)
  rw [List.drop_zero] at hLI
  unfold qcA
  refine Ev.bindN (b:=w0) rfl (Ev.bind ki (Ev.bindN qmf ?_))
  exact Ev.congr (fun n=>(Option.bind_assoc _ _ _).symm) (Ev.bind iV (Ev.bind hLI .done))
 cases h:blockB b
 ·refine ⟨(zE,false),sHead ?_,?_,by decide⟩
  ·have sT:=qoh (b:=b) hok oE
   rw [h] at sT
   by_cases hs0:s=⟨#[]⟩
   ·exact Ev.tt (by rw [qaz];exact decide_eq_true hs0) .done
   ·refine Ev.ff (by rw [qaz];exact decide_eq_false hs0) (Ev.bind sT (Ev.tt ?_ .done))
    rw [bne,qaz,decide_eq_false (fun e=>hs0 e.symm)]
    rfl
  ·have i1:=ql7 hok
   rw [h] at i1
   unfold qci
   exact Ev.bind i1 (Ev.tt rfl .done)
 ·obtain ⟨ls,lo,de,ev⟩:=qpv h
  obtain ⟨R,hRs,hRi,hw⟩:=qsS (b:=b) (s:=s) (V:=⟨b,places b.Ab,ls,lo,de,[]⟩) hok h rfl rfl oE oEI hk (hval _)
  refine ⟨R,sHead hRs,?_,hw⟩
  have i1:=ql7 hok
  rw [h] at i1
  unfold qci
  refine Ev.bind i1 (Ev.ff rfl (Ev.bind ev ?_))
  simp only [iS,jd]
  exact Ev.bind (iParse h _ rfl) hRi
end Go.Fw
