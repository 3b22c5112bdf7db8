/- By a program of mine (gen.py): for each function a plain function and the proof that the code computes it. -/
import Derived.Test.YtmkldekhhkijdaaGreatDoorB9
open Option renaming bind_some → jd
open Nat renaming le_refl → je, mul_le_mul_right → jm, le_of_ble_eq_true → jo, lt_of_lt_of_le → jq, succ_mul → jz, zero_add → jJ, zero_le → jK
open Go.Result renaming andThen_ok → jf
open Bool renaming and_eq_true → jg, eq_iff_iff → ji, true_and → jx, not_eq_true' → jD, not_true → jI
open List renaming getElem?_eq_getElem → jh, length_append → jl, mem_cons_of_mem → jn, getElem?_append_left → jp, getElem?_take → jr, mem_cons_self → js, getElem_mem → jt, getElem?_append_right → ju, getD_eq_getElem?_getD → jv, getElem?_toArray → jw, eq_nil_of_length_eq_zero → jy, size_toArray → jA, mem_of_getElem? → jB, length_singleton → jC, length_map → jF, append_assoc → jG, getElem_of_mem → jH
open Go.Sem renaming run_bind → jj, run_pure → jk
open Int renaming toNat_natCast → jE

namespace Go.Fw
open Go Go.Proofs
open Go.RowKit (Below)
set_option maxRecDepth 100000
set_option maxHeartbeats 6400000
variable {n:Nat} {w:World} {cs1 cs2 cs3 cs4 cs5 cs6 cs7 cs8 cs9:List Value}
def qfB (n:Nat) (b:qm):Option Int :=
 (qc8 n (⟨b.Ab.Aa,b.Ab.Af,b.Ab.Ac⟩:qb)).bind fun r1 =>
 some (r1.length:Int)
theorem qjq {b:qm} (ha1:Ro w b cs1) {r:Int} (hF:qfB n b=some r):RetV Tryz.prog 91 [GoT.v qm cs1] w r:=by
 obtain ⟨p1,k1,p2,k2,p3,k3,p4,k4,p5,k5,rfl,s1,s2,s3,s4,s5⟩:=qU ha1
 exact zV 7 Tryz.func91 rfl fun h=>zSR (qr h rfl rfl fun w1 bb1 h=>X1 6 0 h rfl (zcL h hF (qfj (qar _ (h.oldS s2) (h.oldS s3) (h.oldS s4))) rfl fun r1 w2 S1 p6 k6 h hF=>X0 3 rfl (ri h hF rfl)))
def qa2 (b:qm) (list:(List Int)) (sorted:Bool):Nat→Int→Option (Flow Bool Int)
 | 0,_=>none
 | n+1,i1 =>
  bif decide (i1<(list.length:Int)) then
   (idx list i1).bind fun y1 =>
   (qfB n b).bind fun r1 =>
   (qO n y1 0 (W64 (r1-1))).bind fun r2 =>
   bif (!r2) then some (.ret false) else
   bif sorted then
    bif decide (i1 > 0) then
     (idx list (W64 (i1-1))).bind fun y2 =>
     (idx list i1).bind fun y3 =>
     bif decide (y2 ≥ y3) then some (.ret false) else
     qa2 b list sorted n (W64 (i1+1))
    else
     qa2 b list sorted n (W64 (i1+1))
   else
    qa2 b list sorted n (W64 (i1+1))
  else
   some (.nxt i1)
def qda (n:Nat) (b:qm) (list:(List Int)) (sorted:Bool):Option Bool :=
 (qa2 b list sorted n 0).bind fun o=>match o with
 | .ret r=>some r
 | .nxt _ =>
  some (decide ((list.length:Int)≤4))
theorem qfi {b:qm} {list:(List Int)} {sorted:Bool} (ha1:Ro w b cs1) (ha2:Ro w list cs2) {r:Bool} (hF:qda n b list sorted=some r):RetV Tryz.prog 46 [GoT.v qm cs1,GoT.v (List Int) cs2,.bool sorted] w r:=by
 obtain ⟨p1,k1,p2,k2,p3,k3,p4,k4,p5,k5,rfl,s1,s2,s3,s4,s5⟩:=qU ha1
 obtain ⟨p6,k6,rfl,s6⟩:=ha2
 refine zV 45 Tryz.func46 rfl fun h=>zSR (qr h rfl rfl fun w1 bb1 h=>X0 7 rfl ?_)
 obtain ⟨o1,hF,hK1⟩:=qe hF
 refine ql (rL (fun m e w'=>∃ (i1:Int),qa2 b list sorted m i1=some o1∧e=[(1,.slice p6 list.length k6),(2,.bool sorted),(3,.pointer (some ⟨bb1,0,none⟩)),(7,.int .i64 i1)]∧SH w w' [Ch.box bb1 (qb5 b p1 p2 p3 p4 p5 k1 k2 k3 k4 k5) 48]) n ⟨_,hF,rfl,h⟩ rfl ?_)
 rintro m1 e1 w2 ⟨i1,hF,rfl,h⟩
 rcases m1 with _|m1
 ·cases hF
 refine X0 8 rfl (qf rfl hF ?_ ?_)<;>intro hF
 ·refine X0 4 rfl (rD (zd2 rfl ?_))
  obtain ⟨y1,hy1,hF,he1,b1,_,q1,cs3,hp1,hq1,rfl,hc2⟩:=s6.ix hF
  refine zdxe hp1 hq1 he1 rfl (zdc 0 (hc2.below h.below) rfl (Y1 1 0 h rfl ?_))
  obtain ⟨r1,hr2,hF⟩:=qe hF
  refine qa4 r1 (vsI _) (cB 91 rfl) (fun _ hb=>qjq ((h.ext hb).old ha1) hr2) rfl rfl rfl rfl (zd1 rfl ?_)
  obtain ⟨r2,hr3,hF⟩:=qe hF
  refine qa4 r2 (vsB _) (cB 47 rfl) (fun _ hb=>qF  hr3) rfl rfl rfl rfl (zd2 rfl (qaX (t:=23) hF rfl ?_ ?_))<;>intro hF
  ·refine Y0 18 rfl (dN h fun w3 h=>qc3 rfl rfl (X0 4 rfl ?_))
   obtain rfl:=qa hF;replace hF:=hK1
   exact rb h hF rfl
  refine Y0 4 rfl (qaX (t:=25) hF rfl ?_ ?_)<;>intro hF
  ·refine Y0 8 rfl (qaX (t:=29) hF rfl ?_ ?_)<;>intro hF
   ·refine Y0 7 rfl ?_
    obtain ⟨y2,hy2,hF,he2,b2,_,q2,cs4,hp2,hq2,rfl,hc3⟩:=s6.ix hF
    refine zdxe hp2 hq2 he2 rfl (Y0 1 rfl (zdc 0 (hc3.below h.below) rfl (Y0 5 rfl ?_)))
    obtain ⟨y3,hy3,hF,he3,b3,_,q3,cs5,hp3,hq3,rfl,hc4⟩:=s6.ix hF
    refine zdxe hp3 hq3 he3 rfl (Y0 1 rfl (zdc 0 (hc4.below h.below) rfl (Y0 5 rfl (dN h fun w4 h=>qf rfl hF ?_ ?_))))<;>intro hF
    ·refine X0 4 rfl ?_
     obtain rfl:=qa hF;replace hF:=hK1
     exact rb h hF rfl
    exact X0 7 rfl (rK ⟨_,hF,rfl,h⟩ rfl)
   exact Y0 13 rfl (dN h fun w5 h=>qem rfl rfl (X0 7 rfl (rK ⟨_,hF,rfl,h⟩ rfl)))
  exact Y0 19 rfl (dN h fun w6 h=>qem rfl rfl (X0 7 rfl (rK ⟨_,hF,rfl,h⟩ rfl)))
 refine qq rfl ?_
 obtain rfl:=qa hF;replace hF:=hK1
 exact X0 7 rfl (rb h hF rfl)
def qet (n:Nat) (b:qm) (a_e:qk):Option Bool :=
 (
  (qgc n b).bind fun r4 =>
  bif (!r4) then some true else
  (qda n b a_e.Av true).bind fun r5 =>
  bif (!r5) then some true else
  (qda n b a_e.Au false).bind fun r6 =>
  bif (!r6) then some true else
  (qda n b a_e.To true).bind fun r7 =>
  some (!r7)).bind fun b1 =>
 bif b1 then some false else
 bif (a_e.Ap==1) then some (a_e.Bg==0) else
 bif (a_e.Ap==2) then
  (qO n a_e.Bg 1 10).bind fun r1 =>
  some r1
 else
  bif (a_e.Ap==3) then
   bif (a_e.Ap==3) then
    (qO n a_e.Bg 0 1000000000).bind fun r2 =>
    some r2
   else
    some false
  else
   bif (a_e.Ap==4) then
    (qO n a_e.Bg 0 1000000000).bind fun r3 =>
    some r3
   else
    some false
theorem qiw {b:qm} {a_e:qk} (ha1:Ro w b cs1) (ha2:Ro w a_e cs2) {r:Bool} (hF:qet n b a_e=some r):RetV Tryz.prog 16 [GoT.v qm cs1,GoT.v qk cs2] w r:=by
 obtain ⟨p1,k1,p2,k2,p3,k3,p4,k4,p5,k5,rfl,s1,s2,s3,s4,s5⟩:=qU ha1
 obtain ⟨p6,k6,p7,k7,p8,k8,rfl,s6,s7,s8⟩:=qac ha2
 refine zV 47 Tryz.func16 rfl fun h=>zSR (qr h rfl rfl fun w1 bb1 h=>qr h rfl rfl fun w2 bb2 h=>X0 4 rfl ?_)
 obtain ⟨KF1,hKF1,o1,hF,hK1⟩:=bindE hF
 refine qcX (fun e w'=>∃ (b1:Bool),KF1 b1=some r∧e=[(3,.pointer (some ⟨bb2,0,none⟩)),(28,.bool b1)]∧SH w w' [Ch.box bb2 (qe9 a_e p6 p7 p8 k6 k7 k8) 50]) ?_ ?_
 ·refine X1 2 1 h rfl (zcB h hF (qjQ (h.old ha1)) rfl fun r4 w6 h hF=>zp2 rfl (qg (t:=8) hF rfl ?_ ?_))<;>intro hF
  ·refine X0 21 rfl ?_
   replace h:=h.pick [0] rfl
   obtain rfl:=qa hF
   exact rG ⟨_,hK1,rfl,h⟩ rfl
  refine X2 7 1 0 h rfl (zcB h hF (qfi (h.old ha1) ⟨_,_,rfl,(h.oldS s6)⟩) rfl fun r5 w7 h hF=>X0 4 rfl (qg (t:=15) hF rfl ?_ ?_))<;>intro hF
  ·refine X0 14 rfl ?_
   replace h:=h.pick [0] rfl
   obtain rfl:=qa hF
   exact rG ⟨_,hK1,rfl,h⟩ rfl
  refine X2 7 1 0 h rfl (zcB h hF (qfi (h.old ha1) ⟨_,_,rfl,(h.oldS s7)⟩) rfl fun r6 w8 h hF=>X0 4 rfl (qg (t:=22) hF rfl ?_ ?_))<;>intro hF
  ·refine X0 7 rfl ?_
   replace h:=h.pick [0] rfl
   obtain rfl:=qa hF
   exact rG ⟨_,hK1,rfl,h⟩ rfl
  refine X2 7 1 0 h rfl (zcB h hF (qfi (h.old ha1) ⟨_,_,rfl,(h.oldS s8)⟩) rfl fun r7 w9 h hF=>X0 4 rfl ?_)
  replace h:=h.pick [0] rfl
  obtain rfl:=qa hF
  exact rG ⟨_,hK1,rfl,h⟩ rfl
 rintro e1 w10 ⟨b1,hF,rfl,h⟩
 subst hKF1
 refine qf rfl hF ?_ ?_<;>intro hF
 ·exact X0 4 rfl (rb h hF rfl)
 refine X1 13 0 h rfl (qf rfl hF ?_ ?_)<;>intro hF
 ·exact X1 7 0 h rfl (rb h hF rfl)
 refine X0 5 rfl (qf rfl hF ?_ ?_)<;>intro hF
 ·exact X1 4 0 h rfl (zcB h hF qF rfl fun r1 w3 h hF=>X0 2 rfl (rb h hF rfl))
 refine X0 6 rfl (qf rfl hF ?_ ?_)<;>intro hF
 ·refine qe7 (qf rfl hF ?_ ?_)<;>intro hF
  ·exact X1 4 0 h rfl (zcB h hF qF rfl fun r2 w4 h hF=>X0 2 rfl (rb h hF rfl))
  exact X0 6 rfl (rb h hF rfl)
 refine X0 4 rfl (qf rfl hF ?_ ?_)<;>intro hF
 ·exact X1 4 0 h rfl (zcB h hF qF rfl fun r3 w5 h hF=>X0 2 rfl (rb h hF rfl))
 exact X0 6 rfl (rb h hF rfl)
def qcV (_:Nat) (a:qH):Option (List qx) :=
 bif (a.Ap==2) then some ([(⟨0,0⟩:qx),(⟨0,1⟩:qx)]:List qx) else
 bif (a.Ap==3) then some ([(⟨1,0⟩:qx),(⟨1,1⟩:qx)]:List qx) else
 bif (a.Ap != 1) then some [] else
 bif (a.Bf==1) then some ([(⟨0,0⟩:qx),(⟨1,1⟩:qx)]:List qx) else
 bif (a.Bf==2) then some ([(⟨0,1⟩:qx),(⟨1,0⟩:qx)]:List qx) else
 some ([(⟨0,0⟩:qx),(⟨0,1⟩:qx),(⟨1,0⟩:qx),(⟨1,1⟩:qx)]:List qx)
theorem qhq {a:qH} (ha1:Ro w a cs1) {r:(List qx)} (hF:qcV n a=some r):RetV Tryz.prog 117 [GoT.v qH cs1] w r:=by
 obtain ⟨p1,k1,p2,k2,rfl,s1,s2⟩:=qV ha1
 refine zV 44 Tryz.func117 rfl fun h=>zSR (qr h rfl rfl fun w1 bb1 h=>X0 4 rfl (r_v (qdA qc [0,1] [.const (.int .i64 (0)),.const (.int .i64 (0))] rfl rfl rfl rfl rfl rfl rfl rfl rfl) rfl (r_v (qdA qc [0,1] [.const (.int .i64 (1)),.const (.int .i64 (1))] rfl rfl rfl rfl rfl rfl rfl rfl rfl) rfl (qT qc [.tmp 5,.tmp 6] _ ([(⟨0,0⟩:qx),(⟨1,1⟩:qx)]:List qx) h rfl rfl rfl rfl rfl rfl rfl rfl rfl ⟨(qbv (⟨0,0⟩:qx)),(qbv (⟨1,1⟩:qx)),trivial⟩ rfl fun w2 p3 S1 h=>X0 4 rfl (r_v (qdA qc [0,1] [.const (.int .i64 (0)),.const (.int .i64 (1))] rfl rfl rfl rfl rfl rfl rfl rfl rfl) rfl (r_v (qdA qc [0,1] [.const (.int .i64 (1)),.const (.int .i64 (0))] rfl rfl rfl rfl rfl rfl rfl rfl rfl) rfl (qT qc [.tmp 8,.tmp 9] _ ([(⟨0,1⟩:qx),(⟨1,0⟩:qx)]:List qx) h rfl rfl rfl rfl rfl rfl rfl rfl rfl ⟨(qbv (⟨0,1⟩:qx)),(qbv (⟨1,0⟩:qx)),trivial⟩ rfl fun w3 p4 S2 h=>X1 11 2 h rfl (qf rfl hF ?_ ?_))))))))<;>intro hF
 ·refine zSR (r_v (qdA qc [0,1] [.const (.int .i64 (0)),.const (.int .i64 (0))] rfl rfl rfl rfl rfl rfl rfl rfl rfl) rfl (r_v (qdA qc [0,1] [.const (.int .i64 (0)),.const (.int .i64 (1))] rfl rfl rfl rfl rfl rfl rfl rfl rfl) rfl (qT qc [.tmp 15,.tmp 16] _ ([(⟨0,0⟩:qx),(⟨0,1⟩:qx)]:List qx) h rfl rfl rfl rfl rfl rfl rfl rfl rfl ⟨(qbv (⟨0,0⟩:qx)),(qbv (⟨0,1⟩:qx)),trivial⟩ rfl fun w4 p5 S3 h=>X0 2 rfl ?_)))
  obtain rfl:=qa hF
  exact rO 0 h rfl ⟨rfl,trivial⟩
 refine X1 7 2 h rfl (qf rfl hF ?_ ?_)<;>intro hF
 ·refine zSR (r_v (qdA qc [0,1] [.const (.int .i64 (1)),.const (.int .i64 (0))] rfl rfl rfl rfl rfl rfl rfl rfl rfl) rfl (r_v (qdA qc [0,1] [.const (.int .i64 (1)),.const (.int .i64 (1))] rfl rfl rfl rfl rfl rfl rfl rfl rfl) rfl (qT qc [.tmp 22,.tmp 23] _ ([(⟨1,0⟩:qx),(⟨1,1⟩:qx)]:List qx) h rfl rfl rfl rfl rfl rfl rfl rfl rfl ⟨(qbv (⟨1,0⟩:qx)),(qbv (⟨1,1⟩:qx)),trivial⟩ rfl fun w5 p6 S4 h=>X0 2 rfl ?_)))
  obtain rfl:=qa hF
  exact rO 0 h rfl ⟨rfl,trivial⟩
 refine X1 7 2 h rfl (qf rfl hF ?_ ?_)<;>intro hF
 ·refine X0 4 rfl ?_
  obtain rfl:=qa hF
  exact qaj qc (ρ:=(List qx)) [GoT.v (List qx) [.slice none 0 0]] h ⟨rfl,trivial⟩ (PV.done h (qbY qoW))
 refine X1 7 2 h rfl (qf rfl hF ?_ ?_)<;>intro hF
 ·refine X0 5 rfl ?_
  obtain rfl:=qa hF
  exact rO 1 h rfl ⟨rfl,trivial⟩
 refine X1 7 2 h rfl (qf rfl hF ?_ ?_)<;>intro hF
 ·refine X0 5 rfl ?_
  obtain rfl:=qa hF
  exact rO 0 h rfl ⟨rfl,trivial⟩
 refine X0 4 rfl (r_v (qdA qc [0,1] [.const (.int .i64 (0)),.const (.int .i64 (0))] rfl rfl rfl rfl rfl rfl rfl rfl rfl) rfl (r_v (qdA qc [0,1] [.const (.int .i64 (0)),.const (.int .i64 (1))] rfl rfl rfl rfl rfl rfl rfl rfl rfl) rfl (r_v (qdA qc [0,1] [.const (.int .i64 (1)),.const (.int .i64 (0))] rfl rfl rfl rfl rfl rfl rfl rfl rfl) rfl (r_v (qdA qc [0,1] [.const (.int .i64 (1)),.const (.int .i64 (1))] rfl rfl rfl rfl rfl rfl rfl rfl rfl) rfl (qT qc [.tmp 39,.tmp 40,.tmp 41,.tmp 42] _ ([(⟨0,0⟩:qx),(⟨0,1⟩:qx),(⟨1,0⟩:qx),(⟨1,1⟩:qx)]:List qx) h rfl rfl rfl rfl rfl rfl rfl rfl rfl ⟨(qbv (⟨0,0⟩:qx)),(qbv (⟨0,1⟩:qx)),(qbv (⟨1,0⟩:qx)),(qbv (⟨1,1⟩:qx)),trivial⟩ rfl fun w6 p7 S5 h=>X0 2 rfl ?_)))))
 obtain rfl:=qa hF
 exact rO 0 h rfl ⟨rfl,trivial⟩
def qaT (first:Int) (i1:Int) (y2:qH) (r1:(List qx)):Nat→(List qaw)→Int→Option ((List qaw) × Int)
 | 0,_,_=>none
 | n+1,x2,i2 =>
  bif decide (i2<(r1.length:Int)) then
   (idx r1 i2).bind fun y3 =>
   (appS x2 ([(⟨W64 ((W64 (2*(W64 (first+y2.Av))))+y3.e0),W64 ((W64 (2*(W64 (first+y2.To))))+y3.e1),1,i1⟩:qaw)]:List qaw)).bind fun x3 =>
   qaT first i1 y2 r1 n x3 (W64 (i2+1))
  else
   some (x2,i2)
def qaQ (first:Int) (y1:qn):Nat→(List qaw)→Int→Option ((List qaw) × Int)
 | 0,_,_=>none
 | n+1,x1,i1 =>
  bif decide (i1<(y1.Ar.length:Int)) then
   (idx y1.Ar i1).bind fun y2 =>
   (qcV n y2).bind fun r1 =>
   (qaT first i1 y2 r1 n x1 0).bind fun o=>match o with
   | (x2,_) =>
    qaQ first y1 n x2 (W64 (i1+1))
  else
   some (x1,i1)
def qcR (n:Nat) (b:qm) (x:qd) (first:Int):Option (List qaw) :=
 (idx b.Aq.Aj x.Be).bind fun y1 =>
 (qaQ first y1 n ([]:List qaw) 0).bind fun o=>match o with
 | (x1,_) =>
  some x1
theorem qhk {b:qm} {x:qd} {first:Int} (ha1:Ro w b cs1) (ha2:Ro w x cs2) {r:(List qaw)} (hF:qcR n b x first=some r):RetV Tryz.prog 72 [GoT.v qm cs1,GoT.v qd cs2,.int .i64 first] w r:=by
 obtain ⟨p1,k1,p2,k2,p3,k3,p4,k4,p5,k5,rfl,s1,s2,s3,s4,s5⟩:=qU ha1
 obtain ⟨p6,k6,rfl,s6⟩:=qA ha2
 refine zV 57 Tryz.func72 rfl fun h=>zSR (qr h rfl rfl fun w1 bb1 h=>qr h rfl rfl fun w2 bb2 h=>X2 14 1 0 h rfl ?_)
 obtain ⟨y1,hy1,hF,he1,b1,_,q1,cs3,hp1,hq1,hr1,hc1⟩:=s1.ix hF
 obtain ⟨p7,k7,p8,k8,p9,k9,rfl,s7,s8,s9⟩:=qE hr1
 refine zxe hp1 hq1 he1 rfl (zp1 rfl (zc 3 (hc1.below h.below) rfl (X0 3 rfl ?_)))
 replace h:=h.nil (α:=qaw)
 obtain ⟨o1,hF,hK1⟩:=qe hF
 refine ql ?_
 replace h:=h.pick [0] rfl
 refine rL (fun m e w'=>∃ (S1:Nat→Prop) (p10:Option Addr) (ln1:Nat) (k10:Nat) (x1:(List qaw)) (i1:Int),qaQ first y1 m x1 i1=some o1∧e=[(2,.int .i64 first),(7,.slice p10 ln1 k10),(19,.slice p8 y1.Ar.length k8),(20,.int .i64 (y1.Ar.length:Int)),(21,.int .i64 i1)]∧SH w w' [Ch.own S1 (x1:List qaw) [.slice p10 ln1 k10]]) n ⟨_,_,_,_,_,_,hF,rfl,h⟩ rfl ?_
 rintro m1 e1 w3 ⟨S1,p10,ln1,k10,x1,i1,hF,rfl,h⟩
 obtain rfl:=(h.sl 0 rfl).2
 rcases m1 with _|m1
 ·cases hF
 refine X0 5 rfl (qf rfl hF ?_ ?_)<;>intro hF
 ·refine X0 6 rfl ?_
  obtain ⟨y2,hy2,hF,he2,b2,_,q2,cs4,hp2,hq2,hr2,hc3⟩:=s8.ix hF
  obtain ⟨p11,k11,p12,k12,rfl,s10,s11⟩:=qV hr2
  refine zxe hp2 hq2 he2 rfl (zc 0 (hc3.below h.below) rfl (qC qc h rfl rfl rfl fun w4 bb3 h=>zp1 rfl (zs 0 h rfl fun w5 h=>X1 4 0 h rfl (zcL h hF (qhq (qeA y2 (h.oldS s10) (h.oldS s11))) rfl fun r1 w6 S2 p13 k13 h hF=>X0 3 rfl ?_))))
  obtain ⟨o2,hF,hK2⟩:=qe hF
  refine ql (rL (fun m e w'=>∃ (S3:Nat→Prop) (p14:Option Addr) (ln2:Nat) (k14:Nat) (x2:(List qaw)) (i2:Int),qaT first i1 y2 r1 m x2 i2=some o2∧e=[(2,.int .i64 first),(7,.slice p14 ln2 k14),(8,.int .i64 i1),(9,.pointer (some ⟨bb3,0,none⟩)),(19,.slice p8 y1.Ar.length k8),(20,.int .i64 (y1.Ar.length:Int)),(21,.int .i64 i1),(27,.slice p13 r1.length k13),(28,.int .i64 (r1.length:Int)),(29,.int .i64 i2)]∧SH w w' [Ch.own S2 (r1:List qx) [.slice p13 r1.length k13],Ch.box bb3 (qhE y2 p11 p12 k11 k12) 183,Ch.own S3 (x2:List qaw) [.slice p14 ln2 k14]]) m1 ⟨_,_,_,_,_,_,hF,rfl,h⟩ rfl ?_)
  rintro m2 e2 w7 ⟨S3,p14,ln2,k14,x2,i2,hF,rfl,h⟩
  obtain rfl:=(h.sl 2 rfl).2
  rcases m2 with _|m2
  ·cases hF
  refine X0 5 rfl (qf rfl hF ?_ ?_)<;>intro hF
  ·refine zKSBSR ?_
   obtain ⟨y3,hy3,hF,he3,b3,_,q3,cs5,hp3,hq3,hr4,hc5⟩:=(h.sl 0 rfl).1.ix hF
   obtain rfl:=ql6 hr4
   refine zx hp3 hq3 ⟨he3.1,qap he3.2.1 (h.sl 0 rfl).2⟩ rfl (zc 0 hc5 rfl (qC qc h rfl rfl rfl fun w8 bb4 h=>zs 0 h rfl fun w9 h=>X1 8 2 h rfl (r_v (qol (iv:=0) qc rfl rfl (by decide) ⟨rfl,rfl⟩ rfl rfl) rfl (X2 7 0 2 h rfl (r_v (qol (iv:=1) qc rfl rfl (by decide) ⟨rfl,rfl⟩ rfl rfl) rfl (X1 3 0 h rfl (r_v (qeZ qc [0,1,2,3] [.tmp 41,.tmp 49,.const (.int .i64 (1)),.tmp 50] rfl rfl rfl rfl rfl rfl rfl rfl) rfl (qT qc [.tmp 51] _ ([(⟨W64 ((W64 (2*(W64 (first+y2.Av))))+y3.e0),W64 ((W64 (2*(W64 (first+y2.To))))+y3.e1),1,i1⟩:qaw)]:List qaw) h rfl rfl rfl rfl rfl rfl rfl rfl rfl ⟨(qlE (⟨W64 ((W64 (2*(W64 (first+y2.Av))))+y3.e0),W64 ((W64 (2*(W64 (first+y2.To))))+y3.e1),1,i1⟩:qaw)),trivial⟩ rfl fun w10 p15 S4 h=>?_))))))))
   obtain ⟨x3,hx1,hF⟩:=qe hF
   obtain ⟨g1,hx1⟩:=qaP hx1
   refine qdO qc 4 h rfl (h.sl 0 rfl).1 (h.sl 0 rfl).2 rfl rfl rfl rfl rfl rfl rfl rfl rfl g1 hx1 rfl fun w11 p16 k15 S5 h=>X0 7 rfl ?_
   replace h:=h.pick [2,3,4] rfl
   exact rK ⟨_,_,_,_,_,_,hF,rfl,h⟩ rfl
  refine qq rfl ?_
  obtain rfl:=qa hF;replace hF:=hK2
  refine X0 5 rfl ?_
  replace h:=h.pick [2] rfl
  exact rK ⟨_,_,_,_,_,_,hF,rfl,h⟩ rfl
 refine qq rfl ?_
 obtain rfl:=qa hF;replace hF:=hK1
 refine X0 5 rfl ?_
 obtain rfl:=qa hF
 exact rO 0 h rfl ⟨rfl,trivial⟩
def qeO (_:Nat) (s:(List Int)):Option (List Int) :=
 appS ([]:List Int) s
theorem qhL {s:(List Int)} (ha1:Ro w s cs1) {r:(List Int)} (hF:qeO n s=some r):RetV Tryz.prog 118 [GoT.v (List Int) cs1] w r:=by
 obtain ⟨p,k,rfl,s1⟩:=ha1
 obtain ⟨g1,hx⟩:=qaP (show appS ([]:List Int) s=some r from hF)
 cases p with
 | none =>
  obtain rfl:=qmf s1
  obtain rfl:[]=r:=hx
  exact zV 8 Tryz.func118 rfl fun h=>X0 8 rfl (r_v (qmu qc rfl rfl rfl rfl rfl) rfl (qdy (qc3 rfl rfl (X0 4 rfl (qaj qc (ρ:=(List Int)) [GoT.v (List Int) [.slice none 0 0]] h ⟨rfl,trivial⟩ (PV.done h (qbY qoW)))))))
 | some a =>
  refine zV 8 Tryz.func118 rfl fun h=>X0 8 rfl (r_v (qmu qc rfl rfl rfl rfl rfl) rfl (qdy (qem rfl rfl (zKSR (qT qc [] _ ([]:List Int) h rfl rfl rfl rfl rfl rfl rfl rfl rfl trivial rfl fun w1 p1 S1 h=>zp1 rfl (qpW qc 0 h rfl (h.oldS s1) rfl rfl rfl rfl rfl rfl rfl rfl rfl rfl g1 rfl fun w2 p2 k2 S2 h=>?_))))))
  rw [hx] at h
  exact X0 2 rfl (qaj qc (ρ:=(List Int)) [GoT.v (List Int) [.slice p2 (([]:List Int).length+s.length) k2]] h ⟨rfl,trivial⟩ (PV.done h (qbY (qbM 0 h rfl))))
def qak (net:Int) (r1:(List Tplace)):Nat→(List Int)→Int→Option ((List Int) × Int)
 | 0,_,_=>none
 | n+1,x1,i1 =>
  bif decide (i1<(r1.length:Int)) then
   (idx r1 i1).bind fun y1 =>
   bif (y1.net==net) then
    bif (!y1.drives) then
     (appS x1 ([i1]:List Int)).bind fun x2 =>
     qak net r1 n x2 (W64 (i1+1))
    else
     qak net r1 n x1 (W64 (i1+1))
   else
    qak net r1 n x1 (W64 (i1+1))
  else
   some (x1,i1)
def qdT (n:Nat) (d:qb) (net:Int):Option (List Int) :=
 (qa3 n d).bind fun r1 =>
 (qak net r1 n ([]:List Int) 0).bind fun o=>match o with
 | (x1,_) =>
  some x1
theorem qhT {d:qb} {net:Int} (ha1:Ro w d cs1) {r:(List Int)} (hF:qdT n d net=some r):RetV Tryz.prog 119 [GoT.v qb cs1,.int .i64 net] w r:=by
 obtain ⟨p1,k1,p2,k2,p3,k3,rfl,s1,s2,s3⟩:=qK ha1
 refine zV 31 Tryz.func119 rfl fun h=>zSR (qr h rfl rfl fun w1 bb1 h=>X1 10 0 h rfl (zcL h hF (qcw (h.old ha1)) rfl fun r1 w2 S1 p4 k4 h hF=>X0 3 rfl ?_))
 replace h:=h.nil (α:=Int)
 obtain ⟨o1,hF,hK1⟩:=qe hF
 refine ql ?_
 replace h:=h.pick [0,1] rfl
 refine rL (fun m e w'=>∃ (S2:Nat→Prop) (p5:Option Addr) (ln1:Nat) (k5:Nat) (x1:(List Int)) (i1:Int),qak net r1 m x1 i1=some o1∧e=[(1,.int .i64 net),(5,.slice p5 ln1 k5),(9,.slice p4 r1.length k4),(10,.int .i64 (r1.length:Int)),(11,.int .i64 i1)]∧SH w w' [Ch.own S2 (x1:List Int) [.slice p5 ln1 k5],Ch.own S1 (r1:List Tplace) [.slice p4 r1.length k4]]) n ⟨_,_,_,_,_,_,hF,rfl,h⟩ rfl ?_
 rintro m1 e1 w3 ⟨S2,p5,ln1,k5,x1,i1,hF,rfl,h⟩
 obtain rfl:=(h.sl 0 rfl).2
 rcases m1 with _|m1
 ·cases hF
 refine X0 5 rfl (qf rfl hF ?_ ?_)<;>intro hF
 ·refine X0 6 rfl ?_
  obtain ⟨y1,hy1,hF,he1,b1,_,q1,cs2,hp1,hq1,hr2,hc2⟩:=(h.sl 1 rfl).1.ix hF
  obtain rfl:=qea hr2
  refine zx hp1 hq1 ⟨he1.1,qap he1.2.1 (h.sl 1 rfl).2⟩ rfl (zc 0 hc2 rfl (qC qc h rfl rfl rfl fun w4 bb2 h=>zp1 rfl (zs 0 h rfl fun w5 h=>X1 8 0 h rfl (qg (t:=20) hF rfl ?_ ?_))))<;>intro hF
  ·refine X1 8 0 h rfl (qf rfl hF ?_ ?_)<;>intro hF
   ·refine X0 3 rfl (qT qc [.tmp 26] _ ([i1]:List Int) h rfl rfl rfl rfl rfl rfl rfl rfl rfl ⟨rfl,trivial⟩ rfl fun w6 p6 S3 h=>?_)
    obtain ⟨x2,hx1,hF⟩:=qe hF
    obtain ⟨g1,hx1⟩:=qaP hx1
    refine qdO qc 2 h rfl (h.sl 0 rfl).1 (h.sl 0 rfl).2 rfl rfl rfl rfl rfl rfl rfl rfl rfl g1 hx1 rfl fun w7 p7 k6 S4 h=>X0 7 rfl ?_
    replace h:=h.pick [2,3] rfl
    exact rK ⟨_,_,_,_,_,_,hF,rfl,h⟩ rfl
   refine X0 6 rfl ?_
   replace h:=h.pick [1,2] rfl
   exact rK ⟨_,_,_,_,_,_,hF,rfl,h⟩ rfl
  refine X0 5 rfl (qem rfl rfl (X0 6 rfl ?_))
  replace h:=h.pick [1,2] rfl
  exact rK ⟨_,_,_,_,_,_,hF,rfl,h⟩ rfl
 refine qq rfl ?_
 obtain rfl:=qa hF;replace hF:=hK1
 refine X0 5 rfl ?_
 obtain rfl:=qa hF
 exact rO 0 h rfl ⟨rfl,trivial⟩
def qdW (_:Nat) (d:qb) (l:qh) (p:Tplace):Option Int :=
 bif decide (p.instance_<0) then some 0 else
 (idx d.Aa p.instance_).bind fun y1 =>
 (idx l.Aj y1.Be).bind fun y2 =>
 (idx y2.Ak p.pin).bind fun y3 =>
 some y3.Bj
theorem qil {d:qb} {l:qh} {p:Tplace} (ha1:Ro w d cs1) (ha2:Ro w l cs2) (ha3:Ro w p cs3) {r:Int} (hF:qdW n d l p=some r):RetV Tryz.prog 120 [GoT.v qb cs1,GoT.v qh cs2,GoT.v Tplace cs3] w r:=by
 obtain ⟨p1,k1,p2,k2,p3,k3,rfl,s1,s2,s3⟩:=qK ha1
 obtain ⟨p4,k4,rfl,s4⟩:=qZ ha2
 obtain rfl:=qea ha3
 refine zV 27 Tryz.func120 rfl fun h=>zSR (qr h rfl rfl fun w1 bb1 h=>qr h rfl rfl fun w2 bb2 h=>qr h rfl rfl fun w3 bb3 h=>X1 9 0 h rfl (qf rfl hF ?_ ?_))<;>intro hF
 ·exact X0 4 rfl (ri h hF rfl)
 refine zKS (rD (Y1 2 1 h rfl ?_))
 refine Y1 2 2 h rfl ?_
 refine Y1 2 0 h rfl ?_
 obtain ⟨y1,hy1,hF,he1,b1,_,q1,cs4,hp1,hq1,hr1,hc2⟩:=s1.ix hF
 obtain ⟨p5,k5,rfl,s5⟩:=qA hr1
 refine zdxe hp1 hq1 he1 rfl (zd1 rfl (zdc 1 (hc2.below h.below) rfl ?_))
 obtain ⟨y2,hy2,hF,he2,b2,_,q2,cs5,hp2,hq2,hr2,hc3⟩:=s4.ix hF
 obtain ⟨p6,k6,p7,k7,p8,k8,rfl,s6,s7,s8⟩:=qE hr2
 refine zdxe hp2 hq2 he2 rfl (zd1 rfl (zdc 2 (hc3.below h.below) rfl (Y1 2 0 h rfl ?_)))
 obtain ⟨y3,hy3,hF,he3,b3,_,q3,cs6,hp3,hq3,hr3,hc4⟩:=s6.ix hF
 obtain rfl:=qaz hr3
 exact zdxe hp3 hq3 he3 rfl (zd1 rfl (zdc 2 (hc4.below h.below) rfl (zd1 rfl (dN h fun w4 h=>ri h hF rfl))))
def qaR (y1:qD):Nat→(List Int)→Int→Option ((List Int) × Int)
 | 0,_,_=>none
 | n+1,x2,i2 =>
  bif decide (i2 > 0) then
   (idx y1.Ai i2).bind fun y7 =>
   (idx x2 y7).bind fun y8 =>
   (idx x2 i2).bind fun y9 =>
   (idx x2 y7).bind fun _ =>
   qaR y1 n (setS x2 y7 (W64 (y8+y9))) (W64 (i2-1))
  else
   some (x2,i2)
def qaO (a_0:qm) (y1:qD) (r2:(List Tplace)) (r3:(List Int)):Nat→(List Int)→Int→Option ((List Int) × Int)
 | 0,_,_=>none
 | n+1,x1,i1 =>
  bif decide (i1<(r3.length:Int)) then
   (idx r3 i1).bind fun y2 =>
   (idx y1.Bc i1).bind fun y3 =>
   (idx x1 y3).bind fun y4 =>
   (idx r2 y2).bind fun y5 =>
   (qdW n (⟨a_0.Ab.Aa,a_0.Ab.Af,a_0.Ab.Ac⟩:qb) (⟨a_0.Aq.Aj⟩:qh) y5).bind fun r4 =>
   (idx x1 y3).bind fun _ =>
   qaO a_0 y1 r2 r3 n (setS x1 y3 (W64 (y4+r4))) (W64 (i1+1))
  else
   some (x1,i1)
def qbN (n:Nat) (a_0:qm) (a_1:Int):Option (List Int) :=
 (idx a_0.Ah a_1).bind fun y1 =>
 (qeO n y1.Bj).bind fun r1 =>
 (qa3 n (⟨a_0.Ab.Aa,a_0.Ab.Af,a_0.Ab.Ac⟩:qb)).bind fun r2 =>
 (qdT n (⟨a_0.Ab.Aa,a_0.Ab.Af,a_0.Ab.Ac⟩:qb) a_1).bind fun r3 =>
 (qaO a_0 y1 r2 r3 n r1 0).bind fun o=>match o with
 | (x1,_) =>
  (qaR y1 n x1 (W64 ((r1.length:Int)-1))).bind fun o=>match o with
  | (x2,_) =>
   some x2
theorem qdd {a_0:qm} {a_1:Int} (ha1:Ro w a_0 cs1) {r:(List Int)} (hF:qbN n a_0 a_1=some r):RetV Tryz.prog 74 [GoT.v qm cs1,.int .i64 a_1] w r:=by
 obtain ⟨p1,k1,p2,k2,p3,k3,p4,k4,p5,k5,rfl,s1,s2,s3,s4,s5⟩:=qU ha1
 refine zV 74 Tryz.func74 rfl fun h=>zSR (qr h rfl rfl fun w1 bb1 h=>X1 7 0 h rfl ?_)
 obtain ⟨y1,hy1,hF,he1,b1,_,q1,cs2,hp1,hq1,hr1,hc1⟩:=s5.ix hF
 obtain ⟨p6,k6,p7,k7,p8,k8,p9,k9,rfl,s6,s7,s8,s9⟩:=qaL hr1
 refine zxe hp1 hq1 he1 rfl (zc 0 (hc1.below h.below) rfl (qC qc h rfl rfl rfl fun w2 bb2 h=>zs 0 h rfl fun w3 h=>X1 5 0 h rfl (zcL h hF (qhL ⟨_,_,rfl,(h.oldS s8)⟩) rfl fun r1 w4 S1 p10 k10 h hF=>X1 6 2 h rfl (zcL h hF (qcw (qar _ (h.oldS s2) (h.oldS s3) (h.oldS s4))) rfl fun r2 w5 S2 p11 k11 h hF=>X1 8 3 h rfl (zcL h hF (qhT (qar _ (h.oldS s2) (h.oldS s3) (h.oldS s4))) rfl fun r3 w6 S3 p12 k12 h hF=>X0 3 rfl ?_)))))
 obtain ⟨o1,hF,hK1⟩:=qe hF
 refine ql (rL (fun m e w'=>∃ (x1:(List Int)) (i1:Int),qaO a_0 y1 r2 r3 m x1 i1=some o1∧e=[(2,.pointer (some ⟨bb1,0,none⟩)),(5,.pointer (some ⟨bb2,0,none⟩)),(6,.slice p10 r1.length k10),(7,.slice p11 r2.length k11),(25,.slice p12 r3.length k12),(26,.int .i64 (r3.length:Int)),(27,.int .i64 i1)]∧SH w w' [Ch.own S3 (r3:List Int) [.slice p12 r3.length k12],Ch.own S2 (r2:List Tplace) [.slice p11 r2.length k11],Ch.own S1 (x1:List Int) [.slice p10 r1.length k10],Ch.box bb2 (qeT y1 p6 p7 p8 p9 k6 k7 k8 k9) 109,Ch.box bb1 (qb5 a_0 p1 p2 p3 p4 p5 k1 k2 k3 k4 k5) 48]) n ⟨_,_,hF,rfl,h⟩ rfl ?_)
 rintro m1 e1 w7 ⟨x1,i1,hF,rfl,h⟩
 rcases m1 with _|m1
 ·cases hF
 refine X0 5 rfl (qf rfl hF ?_ ?_)<;>intro hF
 ·refine X0 6 rfl ?_
  obtain ⟨y2,hy2,hF,he2,b2,_,q2,cs3,hp2,hq2,rfl,hc3⟩:=(h.sl 0 rfl).1.ix hF
  refine zx hp2 hq2 ⟨he2.1,qap he2.2.1 (h.sl 0 rfl).2⟩ rfl (zc 0 hc3 rfl (X0 3 rfl (rA [19] [1,2,3,4] h rfl fun w8 h=>M1 15 [0,1,2,3] 2 (h.pick [1,2,3,4] rfl) rfl ?_)))
  obtain ⟨y3,hy3,hF,he3,b3,_,q3,cs4,hp3,hq3,rfl,hc4⟩:=s9.ix hF
  refine Ae 4 31 hp3 hq3 he3 (h.pick [1,2,3,4] rfl) rfl (Al 5 63 0 hc4 (h.pick [1,2,3,4] rfl) rfl ?_)
  obtain ⟨y4,hy4,hF,he4,b4,_,q4,cs5,hp4,hq4,rfl,hc5⟩:=(h.sl 2 rfl).1.ix hF
  refine Ax 6 127 hp4 hq4 ⟨he4.1,qap he4.2.1 (h.sl 2 rfl).2⟩ (h.pick [1,2,3,4] rfl) rfl (Aw 7 255 (fun w' hw=>qhN qc (qdK (w1:=w) (S1:=fun _=>False) hw 1 rfl hy4 hp4 hq4 rfl) (j:=0) rfl rfl rfl) (h.pick [1,2,3,4] rfl) rfl ?_)
  refine M2 16383 [8,9,10,11,12,13] 3 3 (h.pick [1,2,3,4] rfl) rfl ?_
  obtain ⟨y5,hy5,hF,he5,b5,_,q5,cs6,hp5,hq5,hr8,hc6⟩:=(h.sl 1 rfl).1.ix hF
  obtain rfl:=qea hr8
  refine Ax 14 32767 hp5 hq5 ⟨he5.1,qap he5.2.1 (h.sl 1 rfl).2⟩ (h.pick [1,2,3,4] rfl) rfl (Aw 15 65535 (fun w' hw=>qhN qc (qdK hw 0 rfl hy5 hp5 hq5 (qeM (w:=w) (S:=fun _=>False) y5)) (j:=0) rfl rfl rfl) (h.pick [1,2,3,4] rfl) rfl ?_)
  refine Ao 16 131071 rfl (zcI h hF (qil (qar _ (h.oldS s2) (h.oldS s3) (h.oldS s4)) (qbk _ (h.oldS s1)) (qeM y5)) rfl fun r4 w9 h hF=>G0 262143 [17] (h.pick [1,2,3,4] rfl) rfl ?_)
  obtain ⟨y6,hy6,hF,he6,b6,_,q6,cs7,hp6,hq6,rfl,hc7⟩:=(h.sl 2 rfl).1.ix hF
  exact Ax 18 524287 hp6 hq6 ⟨he6.1,qap he6.2.1 (h.sl 2 rfl).2⟩ (h.pick [1,2,3,4] rfl) rfl (Ao 19 1048575 rfl (qdU qc 2 0 (W64 (y4+r4)) h rfl hy6 hp6 hq6 rfl hc7 rfl rfl rfl rfl rfl rfl rfl fun w10 h=>qgz (fun hs=>absurd (hs 19 (by decide)) (by decide)) (Ad (X0 5 rfl (rK ⟨_,_,hF,rfl,h⟩ rfl)))))
 refine qq rfl ?_
 obtain rfl:=qa hF;replace hF:=hK1
 refine X0 8 rfl ?_
 obtain ⟨o2,hF,hK2⟩:=qe hF
 refine ql ?_
 replace h:=h.pick [2,3] rfl
 refine rL (fun m e w'=>∃ (x2:(List Int)) (i2:Int),qaR y1 m x2 i2=some o2∧e=[(5,.pointer (some ⟨bb2,0,none⟩)),(6,.slice p10 r1.length k10),(10,.int .i64 i2)]∧SH w w' [Ch.own S1 (x2:List Int) [.slice p10 r1.length k10],Ch.box bb2 (qeT y1 p6 p7 p8 p9 k6 k7 k8 k9) 109]) n ⟨_,_,hF,rfl,h⟩ rfl ?_
 rintro m2 e2 w11 ⟨x2,i2,hF,rfl,h⟩
 rcases m2 with _|m2
 ·cases hF
 refine X0 6 rfl (qf rfl hF ?_ ?_)<;>intro hF
 ·refine zKSB (rA [14] [0,1] h rfl fun w12 h=>M1 15 [0,1,2,3] 1 (h.pick [0,1] rfl) rfl ?_)
  obtain ⟨y7,hy7,hF,he7,b7,_,q7,cs8,hp7,hq7,rfl,hc9⟩:=s6.ix hF
  refine Ae 4 31 hp7 hq7 he7 (h.pick [0,1] rfl) rfl (Al 5 63 0 hc9 (h.pick [0,1] rfl) rfl ?_)
  obtain ⟨y8,hy8,hF,he8,b8,_,q8,cs9,hp8,hq8,rfl,hc10⟩:=(h.sl 0 rfl).1.ix hF
  refine Ax 6 127 hp8 hq8 ⟨he8.1,qap he8.2.1 (h.sl 0 rfl).2⟩ (h.pick [0,1] rfl) rfl (Aw 7 255 (fun w' hw=>qhN qc (qdK (w1:=w) (S1:=fun _=>False) hw 0 rfl hy8 hp8 hq8 rfl) (j:=0) rfl rfl rfl) (h.pick [0,1] rfl) rfl ?_)
  refine M0 1023 [8,9] (h.pick [0,1] rfl) rfl ?_
  obtain ⟨y9,hy9,hF,he9,b9,_,q9,cs10,hp9,hq9,rfl,hc11⟩:=(h.sl 0 rfl).1.ix hF
  refine Ax 10 2047 hp9 hq9 ⟨he9.1,qap he9.2.1 (h.sl 0 rfl).2⟩ (h.pick [0,1] rfl) rfl (Aw 11 4095 (fun w' hw=>qhN qc (qdK (w1:=w) (S1:=fun _=>False) hw 0 rfl hy9 hp9 hq9 rfl) (j:=0) rfl rfl rfl) (h.pick [0,1] rfl) rfl ?_)
  refine M0 8191 [12] (h.pick [0,1] rfl) rfl ?_
  obtain ⟨y10,hy10,hF,he10,b10,_,q10,cs11,hp10,hq10,rfl,hc12⟩:=(h.sl 0 rfl).1.ix hF
  exact Ax 13 16383 hp10 hq10 ⟨he10.1,qap he10.2.1 (h.sl 0 rfl).2⟩ (h.pick [0,1] rfl) rfl (Ao 14 32767 rfl (qdU qc 0 0 (W64 (y8+y9)) h rfl hy10 hp10 hq10 rfl hc12 rfl rfl rfl rfl rfl rfl rfl fun w13 h=>qgz (fun hs=>absurd (hs 14 (by decide)) (by decide)) (Ad (X0 6 rfl (rK ⟨_,_,hF,rfl,h⟩ rfl)))))
 refine qq rfl ?_
 obtain rfl:=qa hF;replace hF:=hK2
 refine X0 5 rfl ?_
 obtain rfl:=qa hF
 exact rO 0 h rfl ⟨rfl,trivial⟩
def qaH (y1:qD) (r1:(List Int)) (x1:(List Int)):Nat→(List Int)→Int→Option ((List Int) × Int)
 | 0,_,_=>none
 | n+1,x2,i1 =>
  bif decide (i1<(x1.length:Int)) then
   (idx y1.Ai i1).bind fun y2 =>
   (idx x2 y2).bind fun y3 =>
   (idx y1.Bn i1).bind fun y4 =>
   (idx r1 i1).bind fun y5 =>
   (idx x2 i1).bind fun _ =>
   qaH y1 r1 x1 n (setS x2 i1 (W64 (y3+(W64 (y4*y5))))) (W64 (i1+1))
  else
   some (x2,i1)
def qdR (n:Nat) (b:qm) (net:Int):Option (List Int) :=
 (idx b.Ah net).bind fun y1 =>
 (qbN n b net).bind fun r1 =>
 (mkS (r1.length:Int) (0:Int)).bind fun x1 =>
 (qaH y1 r1 x1 n x1 1).bind fun o=>match o with
 | (x2,_) =>
  some x2
theorem qg8 {b:qm} {net:Int} (ha1:Ro w b cs1) {r:(List Int)} (hF:qdR n b net=some r):RetV Tryz.prog 121 [GoT.v qm cs1,.int .i64 net] w r:=by
 obtain ⟨p1,k1,p2,k2,p3,k3,p4,k4,p5,k5,rfl,s1,s2,s3,s4,s5⟩:=qU ha1
 refine zV 49 Tryz.func121 rfl fun h=>zSR (qr h rfl rfl fun w1 bb1 h=>X0 3 rfl (rA [] [0] h rfl fun w2 h=>M1 7 [0,1,2] 0 (h.pick [0] rfl) rfl ?_))
 obtain ⟨y1,hy1,hF,he1,b1,_,q1,cs2,hp1,hq1,hr1,hc1⟩:=s5.ix hF
 obtain ⟨p6,k6,p7,k7,p8,k8,p9,k9,rfl,s6,s7,s8,s9⟩:=qaL hr1
 refine Ae 3 15 hp1 hq1 he1 (h.pick [0] rfl) rfl (Al 4 31 0 hc1 (h.pick [0] rfl) rfl (M1 127 [5,6] 0 (h.pick [0] rfl) rfl ?_))
 obtain ⟨r1,hr2,hF⟩:=qe hF
 refine qpH (fun e w'=>∃ (bb6:Nat) (S5:Nat→Prop) (p14:Option Addr) (k14:Nat),e=[(5,.pointer (some ⟨bb6,0,none⟩)),(6,.slice p14 r1.length k14)]∧SH w w' [Ch.box bb6 (qeT y1 p6 p7 p8 p9 k6 k7 k8 k9) 109,Ch.own S5 (r1:List Int) [.slice p14 r1.length k14],Ch.box bb1 (qb5 b p1 p2 p3 p4 p5 k1 k2 k3 k4 k5) 48]) 0 (bits 11 2047) ?_ ?_
 ·intro K
  refine At 7 8 255 383 rfl ?_ ?_
  ·exact qlV r1 h (cB 74 rfl) (qdd (h.old ha1) hr2) rfl rfl rfl rfl fun w10 S4 p13 k13 h=>Ag (h.pick [1] rfl) (Ao 8 511 rfl (qC qc h rfl rfl rfl fun w11 bb5 h=>Ag (h.pick [2] rfl) (Ao 9 1023 rfl (zs 0 h rfl fun w12 h=>G0 2047 [10] (h.pick [2] rfl) rfl (qpZ [(5,_),(6,_)] ⟨rfl,rfl,trivial⟩ (K _ _ ⟨_,_,_,_,rfl,h⟩))))))
  refine qC qc h rfl rfl rfl fun w10 bb5 h=>Ag (h.pick [1] rfl) (Ao 7 511 rfl (qlV r1 h (cB 74 rfl) (qdd (h.old ha1) hr2) rfl rfl rfl rfl fun w11 S4 p13 k13 h=>Ag (h.pick [2] rfl) (Ao 9 1023 rfl (zs 1 h rfl fun w12 h=>G0 2047 [10] (h.pick [2] rfl) rfl ?_))))
  replace h:=h.pick [1,0,2] rfl
  exact qpZ [(5,_),(6,_)] ⟨rfl,rfl,trivial⟩ (K _ _ ⟨_,_,_,_,rfl,h⟩)
 rintro e2 w13 ⟨bb6,S5,p14,k14,rfl,h⟩
 refine Ad (X0 4 rfl ?_)
 obtain ⟨x1,hx1,hF⟩:=qe hF
 obtain ⟨g1,g2,hx1⟩:=qb6 hx1
 refine qc2 qc Int h rfl rfl rfl rfl rfl rfl rfl rfl rfl g1 g2 hx1 rfl fun w14 S6 p15 h=>X0 7 rfl ?_
 obtain ⟨o1,hF,hK1⟩:=qe hF
 refine ql ?_
 replace h:=h.pick [0,1,2] rfl
 refine rL (fun m e w'=>∃ (x2:(List Int)) (i1:Int),qaH y1 r1 x1 m x2 i1=some o1∧e=[(5,.pointer (some ⟨bb6,0,none⟩)),(6,.slice p14 r1.length k14),(7,.slice p15 x1.length x1.length),(8,.int .i64 i1)]∧SH w w' [Ch.own S6 (x2:List Int) [.slice p15 x1.length x1.length],Ch.box bb6 (qeT y1 p6 p7 p8 p9 k6 k7 k8 k9) 109,Ch.own S5 (r1:List Int) [.slice p14 r1.length k14]]) n ⟨_,_,hF,rfl,h⟩ rfl ?_
 rintro m1 e3 w15 ⟨x2,i1,hF,rfl,h⟩
 rcases m1 with _|m1
 ·cases hF
 refine X0 8 rfl (qf rfl hF ?_ ?_)<;>intro hF
 ·refine zKSB (rA [22] [0,1,2] h rfl fun w16 h=>M1 63 [0,1,2,3,4,5] 1 (h.pick [0,1,2] rfl) rfl ?_)
  obtain ⟨y2,hy2,hF,he2,b2,_,q2,cs3,hp2,hq2,rfl,hc3⟩:=s6.ix hF
  refine Ae 6 127 hp2 hq2 he2 (h.pick [0,1,2] rfl) rfl (Al 7 255 0 hc3 (h.pick [0,1,2] rfl) rfl ?_)
  obtain ⟨y3,hy3,hF,he3,b3,_,q3,cs4,hp3,hq3,rfl,hc4⟩:=(h.sl 0 rfl).1.ix hF
  refine Ax 8 511 hp3 hq3 ⟨he3.1,qap he3.2.1 (h.sl 0 rfl).2⟩ (h.pick [0,1,2] rfl) rfl (Aw 9 1023 (fun w' hw=>qhN qc (qdK (w1:=w) (S1:=fun _=>False) hw 0 rfl hy3 hp3 hq3 rfl) (j:=0) rfl rfl rfl) (h.pick [0,1,2] rfl) rfl ?_)
  refine M1 8191 [10,11,12] 1 (h.pick [0,1,2] rfl) rfl ?_
  obtain ⟨y4,hy4,hF,he4,b4,_,q4,cs5,hp4,hq4,rfl,hc5⟩:=s7.ix hF
  refine Ae 13 16383 hp4 hq4 he4 (h.pick [0,1,2] rfl) rfl (Al 14 32767 0 hc5 (h.pick [0,1,2] rfl) rfl (M0 131071 [15,16] (h.pick [0,1,2] rfl) rfl ?_))
  obtain ⟨y5,hy5,hF,he5,b5,_,q5,cs6,hp5,hq5,rfl,hc6⟩:=(h.sl 2 rfl).1.ix hF
  refine Ax 17 262143 hp5 hq5 ⟨he5.1,qap he5.2.1 (h.sl 2 rfl).2⟩ (h.pick [0,1,2] rfl) rfl (Aw 18 524287 (fun w' hw=>qhN qc (qdK (w1:=w) (S1:=fun _=>False) hw 2 rfl hy5 hp5 hq5 rfl) (j:=0) rfl rfl rfl) (h.pick [0,1,2] rfl) rfl ?_)
  refine M0 2097151 [19,20] (h.pick [0,1,2] rfl) rfl ?_
  obtain ⟨y6,hy6,hF,he6,b6,_,q6,cs7,hp6,hq6,rfl,hc7⟩:=(h.sl 0 rfl).1.ix hF
  exact Ax 21 4194303 hp6 hq6 ⟨he6.1,qap he6.2.1 (h.sl 0 rfl).2⟩ (h.pick [0,1,2] rfl) rfl (Ao 22 8388607 rfl (qdU qc 0 0 (W64 (y3+(W64 (y4*y5)))) h rfl hy6 hp6 hq6 rfl hc7 rfl rfl rfl rfl rfl rfl rfl fun w17 h=>qgz (fun hs=>absurd (hs 22 (by decide)) (by decide)) (Ad (X0 6 rfl (rK ⟨_,_,hF,rfl,h⟩ rfl)))))
 refine qq rfl ?_
 obtain rfl:=qa hF;replace hF:=hK1
 refine X0 5 rfl ?_
 obtain rfl:=qa hF
 exact rO 0 h rfl ⟨rfl,trivial⟩
def qaE (r1:(List Int)) (y1:qD):Nat→(List Int)→Int→Option ((List Int) × Int)
 | 0,_,_=>none
 | n+1,x1,i1 =>
  bif decide (i1<(y1.Bc.length:Int)) then
   (idx y1.Bc i1).bind fun y2 =>
   (idx r1 y2).bind fun y3 =>
   (appS x1 ([y3]:List Int)).bind fun x2 =>
   qaE r1 y1 n x2 (W64 (i1+1))
  else
   some (x1,i1)
def qca (n:Nat) (b:qm) (net:Int):Option (List Int) :=
 (qdR n b net).bind fun r1 =>
 (idx b.Ah net).bind fun y1 =>
 (qaE r1 y1 n ([]:List Int) 0).bind fun o=>match o with
 | (x1,_) =>
  some x1
theorem qgR {b:qm} {net:Int} (ha1:Ro w b cs1) {r:(List Int)} (hF:qca n b net=some r):RetV Tryz.prog 75 [GoT.v qm cs1,.int .i64 net] w r:=by
 obtain ⟨p1,k1,p2,k2,p3,k3,p4,k4,p5,k5,rfl,s1,s2,s3,s4,s5⟩:=qU ha1
 refine zV 32 Tryz.func75 rfl fun h=>zSR (qr h rfl rfl fun w1 bb1 h=>X1 6 0 h rfl (zcL h hF (qg8 (h.old ha1)) rfl fun r1 w2 S1 p6 k6 h hF=>X1 12 1 h rfl ?_))
 obtain ⟨y1,hy1,hF,he1,b1,_,q1,cs2,hp1,hq1,hr2,hc1⟩:=s5.ix hF
 obtain ⟨p7,k7,p8,k8,p9,k9,p10,k10,rfl,s6,s7,s8,s9⟩:=qaL hr2
 refine zxe hp1 hq1 he1 rfl (zp1 rfl (zc 3 (hc1.below h.below) rfl (X0 3 rfl ?_)))
 replace h:=h.nil (α:=Int)
 obtain ⟨o1,hF,hK1⟩:=qe hF
 refine ql ?_
 replace h:=h.pick [0,1] rfl
 refine rL (fun m e w'=>∃ (S2:Nat→Prop) (p11:Option Addr) (ln1:Nat) (k11:Nat) (x1:(List Int)) (i1:Int),qaE r1 y1 m x1 i1=some o1∧e=[(5,.slice p6 r1.length k6),(6,.slice p11 ln1 k11),(17,.slice p10 y1.Bc.length k10),(18,.int .i64 (y1.Bc.length:Int)),(19,.int .i64 i1)]∧SH w w' [Ch.own S2 (x1:List Int) [.slice p11 ln1 k11],Ch.own S1 (r1:List Int) [.slice p6 r1.length k6]]) n ⟨_,_,_,_,_,_,hF,rfl,h⟩ rfl ?_
 rintro m1 e1 w3 ⟨S2,p11,ln1,k11,x1,i1,hF,rfl,h⟩
 obtain rfl:=(h.sl 0 rfl).2
 rcases m1 with _|m1
 ·cases hF
 refine X0 5 rfl (qf rfl hF ?_ ?_)<;>intro hF
 ·refine zKSBSR ?_
  obtain ⟨y2,hy2,hF,he2,b2,_,q2,cs3,hp2,hq2,rfl,hc3⟩:=s9.ix hF
  refine zxe hp2 hq2 he2 rfl (zc 0 (hc3.below h.below) rfl (X0 6 rfl ?_))
  obtain ⟨y3,hy3,hF,he3,b3,_,q3,cs4,hp3,hq3,rfl,hc4⟩:=(h.sl 1 rfl).1.ix hF
  refine zx hp3 hq3 ⟨he3.1,qap he3.2.1 (h.sl 1 rfl).2⟩ rfl (zc 0 hc4 rfl (qT qc [.tmp 27] _ ([y3]:List Int) h rfl rfl rfl rfl rfl rfl rfl rfl rfl ⟨rfl,trivial⟩ rfl fun w4 p12 S3 h=>?_))
  obtain ⟨x2,hx1,hF⟩:=qe hF
  obtain ⟨g1,hx1⟩:=qaP hx1
  refine qdO qc 1 h rfl (h.sl 0 rfl).1 (h.sl 0 rfl).2 rfl rfl rfl rfl rfl rfl rfl rfl rfl g1 hx1 rfl fun w5 p13 k12 S4 h=>X0 7 rfl ?_
  replace h:=h.pick [1,2] rfl
  exact rK ⟨_,_,_,_,_,_,hF,rfl,h⟩ rfl
 refine qq rfl ?_
 obtain rfl:=qa hF;replace hF:=hK1
 refine X0 5 rfl ?_
 obtain rfl:=qa hF
 exact rO 0 h rfl ⟨rfl,trivial⟩
def qb0 (x6:(List Int)) (i4:Int) (i5:Int) (y7:Int):Nat→(List qaw)→Int→Option ((List qaw) × Int)
 | 0,_,_=>none
 | n+1,x14,i6 =>
  bif decide (i6<2) then
   (idx x6 i4).bind fun y8 =>
   (appS x14 ([(⟨W64 ((W64 (2*y8))+i6),W64 ((W64 (2*y7))+i6),2,i5⟩:qaw)]:List qaw)).bind fun x15 =>
   qb0 x6 i4 i5 y7 n x15 (W64 (i6+1))
  else
   some (x14,i6)
def qb2 (x6:(List Int)) (i4:Int) (y6:(List Int)):Nat→(List qaw)→Int→Option ((List qaw) × Int)
 | 0,_,_=>none
 | n+1,x13,i5 =>
  bif decide (i5<(y6.length:Int)) then
   (idx y6 i5).bind fun y7 =>
   (qb0 x6 i4 i5 y7 n x13 0).bind fun o=>match o with
   | (x14,_) =>
    qb2 x6 i4 y6 n x14 (W64 (i5+1))
  else
   some (x13,i5)
def qcG (a_0:qm) (x5:(List (List Int))) (x6:(List Int)):Nat→(List (List Int))→(List Int)→(List qaw)→Int→Option ((List (List Int)) × (List Int) × (List qaw) × Int)
 | 0,_,_,_,_=>none
 | n+1,x8,x9,x10,i4 =>
  bif decide (i4<(a_0.Ah.length:Int)) then
   (qbN n a_0 i4).bind fun r4 =>
   (idx r4 0).bind fun y5 =>
   (appS x9 ([y5]:List Int)).bind fun x11 =>
   (qca n a_0 i4).bind fun r5 =>
   (appS x8 ([r5]:List (List Int))).bind fun x12 =>
   (idx x5 i4).bind fun y6 =>
   (qb2 x6 i4 y6 n x10 0).bind fun o=>match o with
   | (x13,_) =>
    qcG a_0 x5 x6 n x12 x11 x13 (W64 (i4+1))
  else
   some (x8,x9,x10,i4)
def qby (r1:(List Tplace)):Nat→(List (List Int))→(List Int)→Int→Option ((List (List Int)) × (List Int) × Int)
 | 0,_,_,_=>none
 | n+1,x5,x6,i3 =>
  bif decide (i3<(r1.length:Int)) then
   (idx r1 i3).bind fun y2 =>
   bif y2.drives then
    (idx x6 y2.net).bind fun _ =>
    qby r1 n x5 (setS x6 y2.net i3) (W64 (i3+1))
   else
    (idx x5 y2.net).bind fun y4 =>
    (appS y4 ([i3]:List Int)).bind fun x7 =>
    qby r1 n (setS x5 y2.net x7) x6 (W64 (i3+1))
  else
   some (x5,x6,i3)
def qcE (a_0:qm):Nat→(List qaw)→Int→Int→Option ((List qaw) × Int × Int)
 | 0,_,_,_=>none
 | n+1,x1,i1,i2 =>
  bif decide (i2<(a_0.Ab.Aa.length:Int)) then
   (idx a_0.Ab.Aa i2).bind fun y1 =>
   (qcR n a_0 y1 i1).bind fun r2 =>
   (appS x1 r2).bind fun x2 =>
   (qaA n y1.Af).bind fun r3 =>
   qcE a_0 n x2 (W64 (i1+r3)) (W64 (i2+1))
  else
   some (x1,i1,i2)
def qgq (n:Nat) (a_0:qm):Option (Option Tview) :=
 (qa3 n (⟨a_0.Ab.Aa,a_0.Ab.Af,a_0.Ab.Ac⟩:qb)).bind fun r1 =>
 (qcE a_0 n ([]:List qaw) 0 0).bind fun o=>match o with
 | (x1,_,_) =>
  (mkS (a_0.Ah.length:Int) (0:Int)).bind fun x3 =>
  (mkS (a_0.Ah.length:Int) ([]:(List Int))).bind fun x4 =>
  (qby r1 n x4 x3 0).bind fun o=>match o with
  | (x5,x6,_) =>
   (qcG a_0 x5 x6 n ([]:List (List Int)) ([]:List Int) x1 0).bind fun o=>match o with
   | (x8,x9,x10,_) =>
    some (some (⟨(⟨(⟨a_0.Aq.Aj⟩:qh),(⟨a_0.Ab.Aa,a_0.Ab.Af,a_0.Ab.Ac⟩:qb),a_0.Ah⟩:qm),r1,x10,x9,x8,[]⟩:Tview))
theorem qj5 {A:Nat→Prop} (hA:∀ b,A b→old w b) {a_0:qm} (ha1:GoT.R w A a_0 cs1) {r:(Option Tview)} (hF:qgq n a_0=some r):RetG Tryz.prog 37 [GoT.v qm cs1] w A r:=by
 obtain ⟨p1,k1,p2,k2,p3,k3,p4,k4,p5,k5,rfl,s1,s2,s3,s4,s5⟩:=qU ha1
 have hg:=Rg.start hA
 refine qmp Tryz.func37 rfl (m:=156) rfl rfl (fun h=>?_)
 refine zSR (qr h rfl rfl fun w1 bb1 h=>X0 3 rfl (rA [] [0] h rfl fun w2 h=>M2 7 [0,1,2] 0 0 (h.pick [0] rfl) rfl (Ao 3 15 rfl (zcL h hF (qcw (qar _ (h.oldS (s2.mono hg.old)) (h.oldS (s3.mono hg.old)) (h.oldS (s4.mono hg.old)))) rfl fun r1 w3 S1 p6 k6 h hF=>Ag (h.pick [1] rfl) (Aw 4 31 (fun w' hw=>qeZ qc [0,1] [.tmp 15,.tmp 18] rfl rfl rfl rfl rfl rfl rfl rfl) (h.pick [1] rfl) rfl ?_)))))
 refine Ao 5 63 rfl (qr h rfl rfl fun w4 bb2 h=>G0 127 [6] (h.pick [2] rfl) rfl (Ad (X1 13 2 h rfl ?_)))
 replace h:=h.nil (α:=qaw)
 obtain ⟨o1,hF,hK1⟩:=qe hF
 refine ql (rL (fun m e w'=>∃ (S2:Nat→Prop) (p7:Option Addr) (ln1:Nat) (k7:Nat) (x1:(List qaw)) (i1:Int) (i2:Int),qcE a_0 m x1 i1 i2=some o1∧e=[(1,.pointer (some ⟨bb1,0,none⟩)),(3,.pointer (some ⟨bb2,0,none⟩)),(4,.int .i64 i1),(23,.slice p2 a_0.Ab.Aa.length k2),(24,.int .i64 (a_0.Ab.Aa.length:Int)),(25,.int .i64 i2)]∧SH w w' [Ch.own S2 (x1:List qaw) [.slice p7 ln1 k7],Ch.box bb2 [.slice p1 a_0.Aq.Aj.length k1,.slice p2 a_0.Ab.Aa.length k2,.slice p3 a_0.Ab.Af.length k3,.slice p4 a_0.Ab.Ac.length k4,.slice p5 a_0.Ah.length k5,.slice p6 r1.length k6,.slice p7 ln1 k7,.slice none 0 0,.slice none 0 0,.slice none 0 0] 119,Ch.own S1 (r1:List Tplace) [.slice p6 r1.length k6],Ch.box bb1 (qb5 a_0 p1 p2 p3 p4 p5 k1 k2 k3 k4 k5) 48]) n ⟨_,_,_,_,_,_,_,hF,rfl,h⟩ rfl ?_)
 rintro m1 e1 w5 ⟨S2,p7,ln1,k7,x1,i1,i2,hF,rfl,h⟩
 obtain rfl:=(h.sl 0 rfl).2
 rcases m1 with _|m1
 ·cases hF
 refine X0 5 rfl (qf rfl hF ?_ ?_)<;>intro hF
 ·refine zKSBSR ?_
  obtain ⟨y1,hy1,hF,he1,b1,_,q1,cs2,hp1,hq1,hr2,hc2⟩:=s2.ix hF
  obtain ⟨p8,k8,rfl,s6⟩:=qA hr2
  refine zxe hp1 hq1 he1 rfl (zc 0 (hc2.below h.below) rfl (qC qc h rfl rfl rfl fun w6 bb3 h=>zs 0 h rfl fun w7 h=>zNS (rA [12] [0,2,4] h rfl fun w8 h=>M3 255 [0,1,2,3,4,5,6,7] 1 2 0 (h.pick [0,2,4] rfl) rfl (Ao 8 511 rfl (zcL h hF (qhk (h.old (GoT.mono ha1 hg.old)) (qdM y1 (h.oldS (s6.mono hg.old)))) rfl fun r2 w9 S3 p9 k9 h hF=>Ag (h.pick [1,3,5] rfl) (Ao 9 1023 rfl ?_))))))
  obtain ⟨x2,hx1,hF⟩:=qe hF
  obtain ⟨g1,hx1⟩:=qaP hx1
  refine qdO qc 2 h rfl (h.sl 0 rfl).1 (h.sl 0 rfl).2 rfl rfl rfl rfl rfl rfl rfl rfl rfl g1 hx1 rfl fun w10 p10 k10 S4 h=>Ag (h.pick [1,3,5] rfl) (Ao 10 2047 rfl (zp1 rfl (G0 4095 [11] (h.pick [1,3,5] rfl) rfl (Ao 12 8191 rfl (zs 3 h rfl fun w11 h=>qgz (fun hs=>absurd (hs 12 (by decide)) (by decide)) (Ad (X1 4 1 h rfl (zcI h hF (qa5 ⟨_,_,rfl,(h.oldS (s6.mono hg.old))⟩) rfl fun r3 w12 h hF=>X0 8 rfl ?_))))))))
  replace h:=h.pick [2,3,4,5] rfl
  exact rK ⟨_,_,_,_,_,_,_,hF,rfl,h⟩ rfl
 refine qq rfl ?_
 obtain rfl:=qa hF;replace hF:=hK1
 refine X1 5 3 h rfl ?_
 obtain ⟨x3,hx2,hF⟩:=qe hF
 obtain ⟨g2,g3,hx2⟩:=qb6 hx2
 refine qc2 qc Int h rfl rfl rfl rfl rfl rfl rfl rfl rfl g2 g3 hx2 rfl fun w13 S5 p11 h=>X1 7 4 h rfl ?_
 obtain ⟨x4,hx3,hF⟩:=qe hF
 obtain ⟨g4,g5,hx3⟩:=qb6 hx3
 refine qc2 qc (List Int) h rfl rfl rfl rfl rfl rfl rfl rfl rfl g4 g5 hx3 rfl fun w14 S6 p12 h=>X1 12 3 h rfl ?_
 obtain ⟨o2,hF,hK2⟩:=qe hF
 refine ql (rL (fun m e w'=>∃ (S7:Nat→Prop) (x5:(List (List Int))) (x6:(List Int)) (i3:Int),qby r1 m x5 x6 i3=some o2∧e=[(1,.pointer (some ⟨bb1,0,none⟩)),(3,.pointer (some ⟨bb2,0,none⟩)),(7,.slice p11 x3.length x3.length),(8,.slice p12 x4.length x4.length),(58,.slice p6 r1.length k6),(59,.int .i64 (r1.length:Int)),(60,.int .i64 i3)]∧SH w w' [Ch.own S7 (x5:List (List Int)) [.slice p12 x4.length x4.length],Ch.own S5 (x6:List Int) [.slice p11 x3.length x3.length],Ch.own S2 (x1:List qaw) [.slice p7 x1.length k7],Ch.box bb2 [.slice p1 a_0.Aq.Aj.length k1,.slice p2 a_0.Ab.Aa.length k2,.slice p3 a_0.Ab.Af.length k3,.slice p4 a_0.Ab.Ac.length k4,.slice p5 a_0.Ah.length k5,.slice p6 r1.length k6,.slice p7 x1.length k7,.slice none 0 0,.slice none 0 0,.slice none 0 0] 119,Ch.own S1 (r1:List Tplace) [.slice p6 r1.length k6],Ch.box bb1 (qb5 a_0 p1 p2 p3 p4 p5 k1 k2 k3 k4 k5) 48]) n ⟨_,_,_,_,hF,rfl,h⟩ rfl ?_)
 rintro m2 e2 w15 ⟨S7,x5,x6,i3,hF,rfl,h⟩
 rcases m2 with _|m2
 ·cases hF
 refine X0 5 rfl (qf rfl hF ?_ ?_)<;>intro hF
 ·refine X0 6 rfl ?_
  obtain ⟨y2,hy2,hF,he2,b2,_,q2,cs3,hp2,hq2,hr5,hc4⟩:=(h.sl 4 rfl).1.ix hF
  obtain rfl:=qea hr5
  refine zx hp2 hq2 ⟨he2.1,qap he2.2.1 (h.sl 4 rfl).2⟩ rfl (zc 0 hc4 rfl (qC qc h rfl rfl rfl fun w16 bb4 h=>zp1 rfl (zs 0 h rfl fun w17 h=>X1 6 0 h rfl (qf rfl hF ?_ ?_))))<;>intro hF
  ·refine X1 5 0 h rfl ?_
   obtain ⟨y3,hy3,hF,he3,b3,_,q3,cs4,hp3,hq3,rfl,hc6⟩:=(h.sl 2 rfl).1.ix hF
   refine zx hp3 hq3 ⟨he3.1,qap he3.2.1 (h.sl 2 rfl).2⟩ rfl (qdU qc 2 0 i3 h rfl hy3 hp3 hq3 rfl hc6 rfl rfl rfl rfl rfl rfl rfl fun w18 h=>X0 6 rfl ?_)
   replace h:=h.pick [1,2,3,4,5,6] rfl
   exact rK ⟨_,_,_,_,hF,rfl,h⟩ rfl
  obtain ⟨y4,hy4,hF⟩:=qe hF
  have he4:=qa9 hy4
  replace h:=h.pick [1,0,2,3,4,5,6] rfl
  obtain ⟨S8,S9,cs5,h⟩:=h.take hy4
  obtain ⟨p13,k11,rfl,-⟩:=h.own 0 rfl
  refine rA [12] [1,2] h rfl fun w19 h=>M2 63 [0,1,2,3,4,5] 1 1 (h.pick [1,2] rfl) rfl ?_
  obtain ⟨b4,hp4,-,-,hl2⟩:=h.holeAt 1 rfl
  obtain ⟨q4,hq4⟩:∃ q,q=0+(y2.net).toNat*GoT.k (List Int):=⟨_,rfl⟩
  refine Ax 6 127 hp4 hq4 ⟨he4.1,qap he4.2.1 hl2⟩ (h.pick [1,2] rfl) rfl (Aw 7 255 (fun w' hw=>qhN qc (qnj hw 0 rfl hp4 hq4) (j:=0) rfl rfl rfl) (h.pick [1,2] rfl) rfl ?_)
  refine M0 511 [8] (h.pick [1,2] rfl) rfl (Ao 9 1023 rfl (qT qc [.tmp 80] _ ([i3]:List Int) h rfl rfl rfl rfl rfl rfl rfl rfl rfl ⟨rfl,trivial⟩ rfl fun w20 p14 S10 h=>Ag (h.pick [2,3] rfl) (Ao 10 2047 rfl ?_)))
  obtain ⟨x7,hx4,hF⟩:=qe hF
  obtain ⟨g6,hx4⟩:=qaP hx4
  refine qdO qc 1 h rfl (h.sl 0 rfl).1 (h.sl 0 rfl).2 rfl rfl rfl rfl rfl rfl rfl rfl rfl g6 hx4 rfl fun w21 p15 k12 S11 h=>Ag (h.pick [2,3] rfl) ?_
  obtain ⟨b5,hp5,-,-,hl4⟩:=h.holeAt 2 rfl
  obtain ⟨q5,hq5⟩:∃ q,q=0+(y2.net).toNat*GoT.k (List Int):=⟨_,rfl⟩
  refine Ax 11 4095 hp5 hq5 ⟨he4.1,qap he4.2.1 hl4⟩ (h.pick [2,3] rfl) rfl (Ao 12 8191 rfl (qox qc 2 0 h rfl hp5 hq5 rfl rfl rfl rfl rfl rfl fun w22 h=>?_))
  replace h:SH _ _ [Ch.own S10 (([i3]:List Int):List Int) [.slice p14 1 1],Ch.own S11 (x7:List Int) [.slice p15 x7.length k12],Ch.hole S9 (x5:List (List Int)) p12 x4.length x4.length (y2.net).toNat [.slice p15 x7.length k12],Ch.box bb4 (qkK y2) 115,Ch.own S5 (x6:List Int) [.slice p11 x3.length x3.length],Ch.own S2 (x1:List qaw) [.slice p7 x1.length k7],Ch.box bb2 [.slice p1 a_0.Aq.Aj.length k1,.slice p2 a_0.Ab.Aa.length k2,.slice p3 a_0.Ab.Af.length k3,.slice p4 a_0.Ab.Ac.length k4,.slice p5 a_0.Ah.length k5,.slice p6 r1.length k6,.slice p7 x1.length k7,.slice none 0 0,.slice none 0 0,.slice none 0 0] 119,Ch.own S1 (r1:List Tplace) [.slice p6 r1.length k6],Ch.box bb1 (qb5 a_0 p1 p2 p3 p4 p5 k1 k2 k3 k4 k5) 48]:=h
  refine qgz (fun hs=>absurd (hs 12 (by decide)) (by decide)) (Ad (X0 5 rfl ?_))
  replace h:=h.pick [1,2,0,3,4,5,6,7,8] rfl
  replace h:=h.put
  obtain ⟨S12,h⟩:=qqg (S:=_) h
  replace h:=h.pick [0,3,4,5,6,7] rfl
  exact rK ⟨_,_,_,_,hF,rfl,h⟩ rfl
 refine qq rfl ?_
 obtain rfl:=qa hF;replace hF:=hK2
 refine X1 8 5 h rfl ?_
 replace h:=h.nil (α:=Int)
 replace h:=h.nil (α:=(List Int))
 obtain ⟨o3,hF,hK3⟩:=qe hF
 refine ql (rL (fun m e w'=>∃ (S13:Nat→Prop) (p16:Option Addr) (ln2:Nat) (k13:Nat) (x8:(List (List Int))) (S14:Nat→Prop) (p17:Option Addr) (ln3:Nat) (k14:Nat) (x9:(List Int)) (S15:Nat→Prop) (p18:Option Addr) (ln4:Nat) (k15:Nat) (x10:(List qaw)) (i4:Int),qcG a_0 x5 x6 m x8 x9 x10 i4=some o3∧e=[(1,.pointer (some ⟨bb1,0,none⟩)),(3,.pointer (some ⟨bb2,0,none⟩)),(7,.slice p11 x3.length x3.length),(8,.slice p12 x4.length x4.length),(87,.int .i64 (a_0.Ah.length:Int)),(88,.int .i64 i4)]∧SH w w' [Ch.own S13 (x8:List (List Int)) [.slice p16 ln2 k13],Ch.own S14 (x9:List Int) [.slice p17 ln3 k14],Ch.own S7 (x5:List (List Int)) [.slice p12 x4.length x4.length],Ch.own S5 (x6:List Int) [.slice p11 x3.length x3.length],Ch.own S15 (x10:List qaw) [.slice p18 ln4 k15],Ch.box bb2 [.slice p1 a_0.Aq.Aj.length k1,.slice p2 a_0.Ab.Aa.length k2,.slice p3 a_0.Ab.Af.length k3,.slice p4 a_0.Ab.Ac.length k4,.slice p5 a_0.Ah.length k5,.slice p6 r1.length k6,.slice p18 ln4 k15,.slice p17 ln3 k14,.slice p16 ln2 k13,.slice none 0 0] 119,Ch.own S1 (r1:List Tplace) [.slice p6 r1.length k6],Ch.box bb1 (qb5 a_0 p1 p2 p3 p4 p5 k1 k2 k3 k4 k5) 48]) n ⟨_,_,_,_,_,_,_,_,_,_,_,_,_,_,_,_,hF,rfl,h⟩ rfl ?_)
 rintro m3 e3 w23 ⟨S13,p16,ln2,k13,x8,S14,p17,ln3,k14,x9,S15,p18,ln4,k15,x10,i4,hF,rfl,h⟩
 obtain rfl:=(h.sl 0 rfl).2
 obtain rfl:=(h.sl 1 rfl).2
 obtain rfl:=(h.sl 4 rfl).2
 rcases m3 with _|m3
 ·cases hF
 refine X0 5 rfl (qf rfl hF ?_ ?_)<;>intro hF
 ·refine X0 9 rfl (rA [14] [5,7] h rfl fun w24 h=>M2 127 [0,1,2,3,4,5,6] 0 1 (h.pick [5,7] rfl) rfl (Ao 7 255 rfl (zcL h hF (qdd (h.old (GoT.mono ha1 hg.old))) rfl fun r4 w25 S16 p19 k16 h hF=>Ag (h.pick [6,8] rfl) ?_)))
  obtain ⟨y5,hy5,hF,he5,b6,_,q6,cs6,hp6,hq6,rfl,hc8⟩:=(h.sl 0 rfl).1.ix hF
  refine Ax 8 511 hp6 hq6 ⟨he5.1,qap he5.2.1 (h.sl 0 rfl).2⟩ (h.pick [6,8] rfl) rfl (Ao 9 1023 rfl (zc 0 hc8 rfl (Ag (h.pick [6,8] rfl) (Ao 10 2047 rfl (qT qc [.tmp 100] _ ([y5]:List Int) h rfl rfl rfl rfl rfl rfl rfl rfl rfl ⟨rfl,trivial⟩ rfl fun w26 p20 S17 h=>Ag (h.pick [7,9] rfl) (Ao 11 4095 rfl ?_))))))
  obtain ⟨x11,hx5,hF⟩:=qe hF
  obtain ⟨g7,hx5⟩:=qaP hx5
  refine qdO qc 3 h rfl (h.sl 0 rfl).1 (h.sl 0 rfl).2 rfl rfl rfl rfl rfl rfl rfl rfl rfl g7 hx5 rfl fun w27 p21 k17 S18 h=>Ag (h.pick [7,9] rfl) (Ao 12 8191 rfl (zp1 rfl (G0 16383 [13] (h.pick [7,9] rfl) rfl (Ao 14 32767 rfl (zs 7 h rfl fun w28 h=>qgz (fun hs=>absurd (hs 14 (by decide)) (by decide)) (Ad (qeu (rA [12] [7,9] h rfl fun w29 h=>M2 127 [0,1,2,3,4,5,6] 0 1 (h.pick [7,9] rfl) rfl (Ao 7 255 rfl (zcL h hF (qgR (h.old (GoT.mono ha1 hg.old))) rfl fun r5 w30 S19 p22 k18 h hF=>Ag (h.pick [8,10] rfl) (Ao 8 511 rfl (qnJ qc [.tmp 112] _ ([r5]:List (List Int)) [1,2,3,4,5,6,7,8,9,10] h rfl rfl rfl rfl rfl rfl rfl rfl rfl (qoo (qbM 0 h rfl) qpN rfl) rfl rfl fun w31 p23 S20 h=>Ag (h.pick [8,10] rfl) (Ao 9 1023 rfl ?_)))))))))))))
  obtain ⟨x12,hx6,hF⟩:=qe hF
  obtain ⟨g8,hx6⟩:=qaP hx6
  replace h:=h.pick [0,3,1,2,4,5,6,7,8,9,10] rfl
  refine qpw qc h rfl rfl rfl rfl rfl rfl rfl rfl rfl g8 hx6 rfl fun w32 p24 k19 S21 h=>Ag (h.pick [7,9] rfl) (Ao 10 2047 rfl (zp1 rfl (G0 4095 [11] (h.pick [7,9] rfl) rfl (Ao 12 8191 rfl (zs 7 h rfl fun w33 h=>qgz (fun hs=>absurd (hs 12 (by decide)) (by decide)) (Ad (X0 4 rfl ?_)))))))
  obtain ⟨y6,hy6,hF⟩:=qe hF
  have he6:=qa9 hy6
  replace h:=h.lrn0 4 rfl
  obtain ⟨b7,o_5,q7,cs7,hp7,hq7,-,hr10,hc9⟩:=(qg2 (h.lrnO 4 rfl)).1.at hy6
  have hr11:=hr10
  obtain ⟨p25,k20,rfl,s7⟩:=hr10
  replace h:=h.lrnAdd 4 rfl hr11
  refine zx hp7 hq7 ⟨he6.1,qap he6.2.1 (qg2 (h.lrnO 4 rfl)).2⟩ rfl (zc 0 hc9 rfl (X0 3 rfl ?_))
  obtain ⟨o4,hF,hK4⟩:=qe hF
  refine ql ?_
  replace h:=h.pick [0,3,4,5,6,7,8,9] rfl
  refine rL (fun m e w'=>∃ (S22:Nat→Prop) (p26:Option Addr) (ln5:Nat) (k21:Nat) (x13:(List qaw)) (i5:Int),qb2 x6 i4 y6 m x13 i5=some o4∧e=[(1,.pointer (some ⟨bb1,0,none⟩)),(3,.pointer (some ⟨bb2,0,none⟩)),(7,.slice p11 x3.length x3.length),(8,.slice p12 x4.length x4.length),(11,.int .i64 i4),(87,.int .i64 (a_0.Ah.length:Int)),(88,.int .i64 i4),(120,.slice p25 y6.length k20),(121,.int .i64 (y6.length:Int)),(122,.int .i64 i5)]∧SH w w' [Ch.own S21 (x12:List (List Int)) [.slice p24 x12.length k19],Ch.own S18 (x11:List Int) [.slice p21 x11.length k17],Ch.lrn S7 (x5:List (List Int)) [.slice p12 x4.length x4.length] [fct (y6:(List Int)) [.slice p25 y6.length k20]],Ch.own S5 (x6:List Int) [.slice p11 x3.length x3.length],Ch.own S22 (x13:List qaw) [.slice p26 ln5 k21],Ch.box bb2 [.slice p1 a_0.Aq.Aj.length k1,.slice p2 a_0.Ab.Aa.length k2,.slice p3 a_0.Ab.Af.length k3,.slice p4 a_0.Ab.Ac.length k4,.slice p5 a_0.Ah.length k5,.slice p6 r1.length k6,.slice p26 ln5 k21,.slice p21 x11.length k17,.slice p24 x12.length k19,.slice none 0 0] 119,Ch.own S1 (r1:List Tplace) [.slice p6 r1.length k6],Ch.box bb1 (qb5 a_0 p1 p2 p3 p4 p5 k1 k2 k3 k4 k5) 48]) m3 ⟨_,_,_,_,_,_,hF,rfl,h⟩ rfl ?_
  rintro m4 e4 w34 ⟨S22,p26,ln5,k21,x13,i5,hF,rfl,h⟩
  obtain rfl:=(h.sl 4 rfl).2
  rcases m4 with _|m4
  ·cases hF
  refine X0 5 rfl (qf rfl hF ?_ ?_)<;>intro hF
  ·refine X0 6 rfl ?_
   obtain ⟨y7,hy7,hF,he7,b8,_,q8,cs8,hp8,hq8,rfl,hc11⟩:=(qg2 (GoT.mono (h.lrnS 2 0 rfl rfl) (h.lrnB 2 rfl))).1.ix hF
   refine zx hp8 hq8 ⟨he7.1,qap he7.2.1 (qg2 (GoT.mono (h.lrnS 2 0 rfl rfl) (h.lrnB 2 rfl))).2⟩ rfl (zc 0 hc11 rfl (X0 7 rfl ?_))
   obtain ⟨o5,hF,hK5⟩:=qe hF
   refine ql (rL (fun m e w'=>∃ (S23:Nat→Prop) (p27:Option Addr) (ln6:Nat) (k22:Nat) (x14:(List qaw)) (i6:Int),qb0 x6 i4 i5 y7 m x14 i6=some o5∧e=[(1,.pointer (some ⟨bb1,0,none⟩)),(3,.pointer (some ⟨bb2,0,none⟩)),(7,.slice p11 x3.length x3.length),(8,.slice p12 x4.length x4.length),(11,.int .i64 i4),(12,.int .i64 i5),(13,.int .i64 y7),(87,.int .i64 (a_0.Ah.length:Int)),(88,.int .i64 i4),(120,.slice p25 y6.length k20),(121,.int .i64 (y6.length:Int)),(122,.int .i64 i5),(127,.int .i64 i6)]∧SH w w' [Ch.own S21 (x12:List (List Int)) [.slice p24 x12.length k19],Ch.own S18 (x11:List Int) [.slice p21 x11.length k17],Ch.lrn S7 (x5:List (List Int)) [.slice p12 x4.length x4.length] [fct (y6:(List Int)) [.slice p25 y6.length k20]],Ch.own S5 (x6:List Int) [.slice p11 x3.length x3.length],Ch.own S23 (x14:List qaw) [.slice p27 ln6 k22],Ch.box bb2 [.slice p1 a_0.Aq.Aj.length k1,.slice p2 a_0.Ab.Aa.length k2,.slice p3 a_0.Ab.Af.length k3,.slice p4 a_0.Ab.Ac.length k4,.slice p5 a_0.Ah.length k5,.slice p6 r1.length k6,.slice p27 ln6 k22,.slice p21 x11.length k17,.slice p24 x12.length k19,.slice none 0 0] 119,Ch.own S1 (r1:List Tplace) [.slice p6 r1.length k6],Ch.box bb1 (qb5 a_0 p1 p2 p3 p4 p5 k1 k2 k3 k4 k5) 48]) m4 ⟨_,_,_,_,_,_,hF,rfl,h⟩ rfl ?_)
   rintro m5 e5 w35 ⟨S23,p27,ln6,k22,x14,i6,hF,rfl,h⟩
   obtain rfl:=(h.sl 4 rfl).2
   rcases m5 with _|m5
   ·cases hF
   refine X0 5 rfl (qf rfl hF ?_ ?_)<;>intro hF
   ·refine X0 8 rfl (rA [22] [3,5] h rfl fun w36 h=>M1 127 [0,1,2,3,4,5,6] 1 (h.pick [3,5] rfl) rfl ?_)
    obtain ⟨y8,hy8,hF,he8,b9,_,q9,cs9,hp9,hq9,rfl,hc13⟩:=(h.sl 3 rfl).1.ix hF
    refine Ax 7 255 hp9 hq9 ⟨he8.1,qap he8.2.1 (h.sl 3 rfl).2⟩ (h.pick [3,5] rfl) rfl (Aw 8 511 (fun w' hw=>qhN qc (qdK (w1:=w) (S1:=fun _=>False) hw 0 rfl hy8 hp9 hq9 rfl) (j:=0) rfl rfl rfl) (h.pick [3,5] rfl) rfl ?_)
    refine M0 131071 [9,10,11,12,13,14,15,16] (h.pick [3,5] rfl) rfl (Aw 17 262143 (fun w' hw=>qeZ qc [0,1,2,3] [.tmp 141,.tmp 145,.const (.int .i64 (2)),.tmp 146] rfl rfl rfl rfl rfl rfl rfl rfl) (h.pick [3,5] rfl) rfl ?_)
    refine Ao 18 524287 rfl (qT qc [.tmp 147] _ ([(⟨W64 ((W64 (2*y8))+i6),W64 ((W64 (2*y7))+i6),2,i5⟩:qaw)]:List qaw) h rfl rfl rfl rfl rfl rfl rfl rfl rfl ⟨(qlE (⟨W64 ((W64 (2*y8))+i6),W64 ((W64 (2*y7))+i6),2,i5⟩:qaw)),trivial⟩ rfl fun w37 p28 S24 h=>Ag (h.pick [4,6] rfl) (Ao 19 1048575 rfl ?_))
    obtain ⟨x15,hx7,hF⟩:=qe hF
    obtain ⟨g9,hx7⟩:=qaP hx7
    refine qdO qc 5 h rfl (h.sl 0 rfl).1 (h.sl 0 rfl).2 rfl rfl rfl rfl rfl rfl rfl rfl rfl g9 hx7 rfl fun w38 p29 k23 S25 h=>Ag (h.pick [4,6] rfl) (Ao 20 2097151 rfl (zp1 rfl (G0 4194303 [21] (h.pick [4,6] rfl) rfl (Ao 22 8388607 rfl (zs 6 h rfl fun w39 h=>qgz (fun hs=>absurd (hs 22 (by decide)) (by decide)) (Ad (X0 5 rfl ?_)))))))
    replace h:=h.pick [1,2,3,4,5,6,7,8] rfl
    exact rK ⟨_,_,_,_,_,_,hF,rfl,h⟩ rfl
   refine qq rfl ?_
   obtain rfl:=qa hF;replace hF:=hK5
   exact X0 5 rfl (rK ⟨_,_,_,_,_,_,hF,rfl,h⟩ rfl)
  refine qq rfl ?_
  obtain rfl:=qa hF;replace hF:=hK4
  refine X0 5 rfl ?_
  replace h:=h.unlrn 2 rfl
  exact rK ⟨_,_,_,_,_,_,_,_,_,_,_,_,_,_,_,_,hF,rfl,h⟩ rfl
 refine qq rfl ?_
 obtain rfl:=qa hF;replace hF:=hK3
 refine X0 5 rfl ?_
 obtain rfl:=qa hF
 have hv1:GoRs.Rs (ρ:=(Option Tview)) h.wc (reg A w h.wc) (some (⟨(⟨(⟨a_0.Aq.Aj⟩:qh),(⟨a_0.Ab.Aa,a_0.Ab.Af,a_0.Ab.Ac⟩:qb),a_0.Ah⟩:qm),r1,x10,x9,x8,[]⟩:Tview)) [GoT.v (Option Tview) [.pointer (some ⟨bb2,0,none⟩)]]:=⟨_,rfl,(hg.outR h (Rg.boxR (x:=(⟨(⟨(⟨a_0.Aq.Aj⟩:qh),(⟨a_0.Ab.Aa,a_0.Ab.Af,a_0.Ab.Ac⟩:qb),a_0.Ah⟩:qm),r1,x10,x9,x8,[]⟩:Tview)) 5 h rfl (⟨[.slice p1 a_0.Aq.Aj.length k1,.slice p2 a_0.Ab.Aa.length k2,.slice p3 a_0.Ab.Af.length k3,.slice p4 a_0.Ab.Ac.length k4,.slice p5 a_0.Ah.length k5],[.slice p6 r1.length k6,.slice p18 x10.length k15,.slice p17 x9.length k14,.slice p16 x8.length k13,.slice none 0 0],rfl,⟨[.slice p1 a_0.Aq.Aj.length k1],[.slice p2 a_0.Ab.Aa.length k2,.slice p3 a_0.Ab.Af.length k3,.slice p4 a_0.Ab.Ac.length k4,.slice p5 a_0.Ah.length k5],rfl,⟨_,_,rfl,(hg.inS h s1)⟩,⟨[.slice p2 a_0.Ab.Aa.length k2,.slice p3 a_0.Ab.Af.length k3,.slice p4 a_0.Ab.Ac.length k4],[.slice p5 a_0.Ah.length k5],rfl,⟨[.slice p2 a_0.Ab.Aa.length k2],[.slice p3 a_0.Ab.Af.length k3,.slice p4 a_0.Ab.Ac.length k4],rfl,⟨_,_,rfl,(hg.inS h s2)⟩,⟨[.slice p3 a_0.Ab.Af.length k3],[.slice p4 a_0.Ab.Ac.length k4],rfl,⟨_,_,rfl,(hg.inS h s3)⟩,⟨_,_,rfl,(hg.inS h s4)⟩⟩⟩,⟨_,_,rfl,(hg.inS h s5)⟩⟩⟩,⟨[.slice p6 r1.length k6],[.slice p18 x10.length k15,.slice p17 x9.length k14,.slice p16 x8.length k13,.slice none 0 0],rfl,(Rg.ownR 6 h rfl),⟨[.slice p18 x10.length k15],[.slice p17 x9.length k14,.slice p16 x8.length k13,.slice none 0 0],rfl,(Rg.ownR 4 h rfl),⟨[.slice p17 x9.length k14],[.slice p16 x8.length k13,.slice none 0 0],rfl,(Rg.ownR 1 h rfl),⟨[.slice p16 x8.length k13],[.slice none 0 0],rfl,(Rg.ownR 0 h rfl),⟨_,_,rfl,qpu⟩⟩⟩⟩⟩⟩)))⟩
 exact qqa qc (ρ:=(Option Tview)) (r:=(some (⟨(⟨(⟨a_0.Aq.Aj⟩:qh),(⟨a_0.Ab.Aa,a_0.Ab.Af,a_0.Ab.Ac⟩:qb),a_0.Ah⟩:qm),r1,x10,x9,x8,[]⟩:Tview))) [GoT.v (Option Tview) [.pointer (some ⟨bb2,0,none⟩)]] h ⟨rfl,trivial⟩ hv1
def qbl (_:Nat) (list:(List Tplace)):Option Int :=
 some (list.length:Int)
theorem qgS {list:(List Tplace)} (ha1:Ro w list cs1) {r:Int} (hF:qbl n list=some r):RetV Tryz.prog 77 [GoT.v (List Tplace) cs1] w r:=by
 obtain ⟨p1,k1,rfl,s1⟩:=ha1
 exact zV 5 Tryz.func77 rfl fun h=>X0 10 rfl (ri h hF rfl)
def qgp (n:Nat) (kind:Int) (value:Int):Option Bool :=
 bif (kind==1) then some (value==0) else
 bif (kind==2) then
  (qY n value 1 10).bind fun r1 =>
  some r1
 else
  bif (kind==3) then
   bif (kind==3) then
    (qY n value 0 1000000000).bind fun r2 =>
    some r2
   else
    some false
  else
   bif (kind==4) then
    (qY n value 0 1000000000).bind fun r3 =>
    some r3
   else
    some false
theorem qjR {kind:Int} {value:Int}  {r:Bool} (hF:qgp n kind value=some r):RetV Tryz.prog 78 [.int .i64 kind,.int .i64 value] w r:=by
 refine zV 19 Tryz.func78 rfl fun h=>X0 15 rfl (qf rfl hF ?_ ?_)<;>intro hF
 ·exact X0 6 rfl (rb h hF rfl)
 refine X0 5 rfl (qf rfl hF ?_ ?_)<;>intro hF
 ·exact X0 3 rfl (zcB h hF qP rfl fun r1 w1 h hF=>X0 2 rfl (rb h hF rfl))
 refine X0 6 rfl (qf rfl hF ?_ ?_)<;>intro hF
 ·refine qe7 (qf rfl hF ?_ ?_)<;>intro hF
  ·exact X0 3 rfl (zcB h hF qP rfl fun r2 w2 h hF=>X0 2 rfl (rb h hF rfl))
  exact X0 6 rfl (rb h hF rfl)
 refine X0 4 rfl (qf rfl hF ?_ ?_)<;>intro hF
 ·exact X0 3 rfl (zcB h hF qP rfl fun r3 w3 h hF=>X0 2 rfl (rb h hF rfl))
 exact X0 6 rfl (rb h hF rfl)
def qJ (v:(Option Tview)) (a_e:qk):Nat→Int→Option (Flow Bool Int)
 | 0,_=>none
 | n+1,i1 =>
  bif decide (i1<((3:Nat):Int)) then
   (idx ([a_e.Av,a_e.Au,a_e.To]:List (List Int)) i1).bind fun y1 =>
   bif decide ((y1.length:Int) > 4) then some (.ret false) else
   (v).bind fun y2 =>
   (qbl n y2.places).bind fun r1 =>
   (qaU n y1 0 (W64 (r1-1))).bind fun r2 =>
   bif (!r2) then some (.ret false) else
   qJ v a_e n (W64 (i1+1))
  else
   some (.nxt i1)
def qcv (n:Nat) (v:(Option Tview)) (a_e:qk):Option Bool :=
 (qJ v a_e n 0).bind fun o=>match o with
 | .ret r=>some r
 | .nxt _ =>
  (qgp n a_e.Ap a_e.Bg).bind fun r3 =>
  bif r3 then
   (qbV n a_e.Av).bind fun r4 =>
   bif r4 then
    (qbV n a_e.To).bind fun r5 =>
    some r5
   else
    some false
  else
   some false
theorem qhb {v:(Option Tview)} {a_e:qk} (ha1:Ro w v cs1) (ha2:Ro w a_e cs2) {r:Bool} (hF:qcv n v a_e=some r):RetV Tryz.prog 38 [GoT.v (Option Tview) cs1,GoT.v qk cs2] w r:=by
 obtain ⟨p1,rfl,s1⟩:=qkX ha1
 obtain ⟨p2,k1,p3,k2,p4,k3,rfl,s2,s3,s4⟩:=qac ha2
 refine zV 49 Tryz.func38 rfl fun h=>zSR (qr h rfl rfl fun w1 bb1 h=>X3 11 0 0 0 h rfl (qlx qc [.tmp 8,.tmp 10,.tmp 12] _ ([a_e.Av,a_e.Au,a_e.To]:List (List Int)) h rfl rfl rfl rfl rfl rfl rfl rfl rfl ⟨⟨_,_,rfl,s2⟩,⟨_,_,rfl,s3⟩,⟨_,_,rfl,s4⟩,trivial⟩ rfl fun w2 p5 S1 h=>X0 3 rfl ?_))
 obtain ⟨o1,hF,hK1⟩:=qe hF
 refine ql (rL (fun m e w'=>∃ (i1:Int),qJ v a_e m i1=some o1∧e=[(0,.pointer p1),(3,.pointer (some ⟨bb1,0,none⟩)),(13,.slice p5 3 3),(14,.int .i64 ((3:Nat):Int)),(15,.int .i64 i1)]∧SH w w' [Ch.rowD w S1 (([a_e.Av,a_e.Au,a_e.To]:List (List Int)):List (List Int)) p5 3,Ch.box bb1 (qe9 a_e p2 p3 p4 k1 k2 k3) 50]) n ⟨_,hF,rfl,h⟩ rfl ?_)
 rintro m1 e1 w3 ⟨i1,hF,rfl,h⟩
 rcases m1 with _|m1
 ·cases hF
 refine X0 5 rfl (qf rfl hF ?_ ?_)<;>intro hF
 ·refine zKSBSR ?_
  obtain ⟨y1,hy1,hF⟩:=qe hF
  have he1:=qa9 hy1
  obtain ⟨b1,o_1,q1,cs3,hp1,hq1,-,hr1,hc2⟩:=h.atD 0 rfl hy1
  obtain ⟨p6,k4,rfl,s5⟩:=hr1
  refine zxe hp1 hq1 he1 rfl (zc 0 hc2 rfl (X0 8 rfl (qg (t:=22) hF rfl ?_ ?_)))<;>intro hF
  ·refine X0 11 rfl (qc3 rfl rfl (X0 4 rfl ?_))
   obtain rfl:=qa hF;replace hF:=hK1
   exact rb h hF rfl
  refine X0 5 rfl ?_
  obtain ⟨y2,hy2,hF⟩:=qe hF
  obtain ⟨b2,o_2,cs4,rfl,-,hr2,hc3⟩:=PtR.get s1 hy2
  obtain ⟨p7,k5,p8,k6,p9,k7,p10,k8,p11,k9,p12,k10,p13,k11,p14,k12,p15,k13,p16,k14,rfl,s6,s7,s8,s9,s10,s11,s12,s13,s14,s15⟩:=qkq hr2
  refine X0 4 rfl (zc 5 (hc3.below h.below) rfl (X0 1 rfl (zcI h hF (qgS ⟨_,_,rfl,(h.oldS s11)⟩) rfl fun r1 w4 h hF=>X0 3 rfl (zcB h hF (qbg ⟨_,_,rfl,(h.oldS s5)⟩) rfl fun r2 w5 h hF=>X0 4 rfl (qf rfl hF ?_ ?_)))))<;>intro hF
  ·refine X0 4 rfl ?_
   obtain rfl:=qa hF;replace hF:=hK1
   exact rb h hF rfl
  exact X0 6 rfl (rK ⟨_,hF,rfl,h⟩ rfl)
 refine qq rfl ?_
 obtain rfl:=qa hF;replace hF:=hK1
 refine X2 6 1 1 h rfl (zcB h hF qjR rfl fun r3 w6 h hF=>zp1 rfl (qg (t:=39) hF rfl ?_ ?_))<;>intro hF
 ·refine X1 5 1 h rfl (zcB h hF (qd6 ⟨_,_,rfl,(h.oldS s2)⟩) rfl fun r4 w7 h hF=>zp2 rfl (qg (t:=44) hF rfl ?_ ?_))<;>intro hF
  ·exact X1 5 1 h rfl (zcB h hF (qd6 ⟨_,_,rfl,(h.oldS s4)⟩) rfl fun r5 w8 h hF=>X0 3 rfl (rb h hF rfl))
  exact X0 6 rfl (rb h hF rfl)
 exact X0 11 rfl (rb h hF rfl)
def qhy (n:Nat) (l:qh) (d:qb) (place:Int):Option (Tl05Place × Bool) :=
 (qeG n l d).bind fun r1 =>
 bif (!r1) then some ((⟨0,0,0,false⟩:Tl05Place),false) else
 (qc8 n d).bind fun r2 =>
 (qO n place 0 (W64 ((r2.length:Int)-1))).bind fun r3 =>
 bif (!r3) then some ((⟨0,0,0,false⟩:Tl05Place),false) else
 (idx r2 place).bind fun y1 =>
 some (y1,true)
theorem qlc {l:qh} {d:qb} {place:Int} (ha1:Ro w l cs1) (ha2:Ro w d cs2) {r:(Tl05Place × Bool)} (hF:qhy n l d place=some r):RetV Tryz.prog 105 [GoT.v qh cs1,GoT.v qb cs2,.int .i64 place] w r:=by
 obtain ⟨p1,k1,rfl,s1⟩:=qZ ha1
 obtain ⟨p2,k2,p3,k3,p4,k4,rfl,s2,s3,s4⟩:=qK ha2
 refine zV 27 Tryz.func105 rfl fun h=>zSR (qr h rfl rfl fun w1 bb1 h=>qr h rfl rfl fun w2 bb2 h=>qC qc h rfl rfl rfl fun w3 bb3 h=>X2 7 2 1 h rfl (zcB h hF (qhp (h.old ha1) (h.old ha2)) rfl fun r1 w4 h hF=>X0 2 rfl (qf rfl hF ?_ ?_)))<;>intro hF
 ·refine zSR (r_v (qeZ qc [] [] rfl rfl rfl rfl rfl rfl rfl rfl) rfl (zs 0 h rfl fun w5 h=>X0 2 rfl ?_))
  obtain rfl:=qa hF
  exact qaj qc (ρ:=(Tl05Place × Bool)) [GoT.v Tl05Place [.int .i64 0,.int .i64 0,.int .i64 0,.bool false],GoT.v Bool [.bool false]] h ⟨⟨_,_,_,rfl,rfl,h.box 0 rfl,rfl⟩,rfl,trivial⟩ (PV.done h (qfu h (qao (S:=fun _=>False) (qeC (⟨0,0,0,false⟩:Tl05Place))) (qbY (qao (S:=fun _=>False) rfl)) (by rfl)))
 refine X1 4 1 h rfl (zcL h hF (qfj (h.old ha2)) rfl fun r2 w6 S1 p5 k5 h hF=>X0 9 rfl (zcB h hF qF rfl fun r3 w7 h hF=>X0 2 rfl (qf rfl hF ?_ ?_)))<;>intro hF
 ·refine zSR (r_v (qeZ qc [] [] rfl rfl rfl rfl rfl rfl rfl rfl) rfl (zs 1 h rfl fun w8 h=>X0 2 rfl ?_))
  obtain rfl:=qa hF
  exact qaj qc (ρ:=(Tl05Place × Bool)) [GoT.v Tl05Place [.int .i64 0,.int .i64 0,.int .i64 0,.bool false],GoT.v Bool [.bool false]] h ⟨⟨_,_,_,rfl,rfl,h.box 1 rfl,rfl⟩,rfl,trivial⟩ (PV.done h (qfu h (qao (S:=fun _=>False) (qeC (⟨0,0,0,false⟩:Tl05Place))) (qbY (qao (S:=fun _=>False) rfl)) (by rfl)))
 refine X0 5 rfl ?_
 obtain ⟨y1,hy1,hF,he1,b1,_,q1,cs3,hp1,hq1,hr4,hc3⟩:=(h.sl 0 rfl).1.ix hF
 obtain rfl:=qeb hr4
 refine zx hp1 hq1 ⟨he1.1,qap he1.2.1 (h.sl 0 rfl).2⟩ rfl (zc 0 hc3 rfl (zs 1 h rfl fun w9 h=>X0 2 rfl ?_))
 obtain rfl:=qa hF
 exact qaj qc (ρ:=(Tl05Place × Bool)) [GoT.v Tl05Place (qhV y1),GoT.v Bool [.bool true]] h ⟨⟨_,_,_,rfl,rfl,h.box 1 rfl,rfl⟩,rfl,trivial⟩ (PV.done h (qfu h (qao (S:=fun _=>False) (qeC y1)) (qbY (qao (S:=fun _=>False) rfl)) (by rfl)))
end Go.Fw


namespace Go.Fw
open Go
set_option maxRecDepth 100000
theorem qn9 {d:qb} {k:Int} {n i:Nat} (hi:i<(sinksL d k n).length):∃ y:Nat,y<n∧idx (sinksL d k n) (i:Int)=some (y:Int)∧snkQ d k y=true:=by
 rw [qgI hi]
 have hm:(sinksL d k n)[i] ∈ sinksL d k n:=jt hi
 generalize (sinksL d k n)[i]=z at hm
 unfold sinksL at hm
 obtain ⟨y,hy,rfl⟩:=List.mem_map.1 hm
 obtain ⟨h1,h2⟩:=List.mem_filter.1 hy
 exact ⟨y,List.mem_range.1 h1,rfl,h2⟩
theorem qlf {d:qb} {k:Int} (h:smallD d):Ev (fun n=>qdT n d k) (sinksL d k (places d).length):=by
 have hl:=qdu h
 have hL:Ev (fun n=>qak k (places d) n ([]:List Int) 0) (sinksL d k (places d).length,((places d).length:Int)):=by
  refine loopF (Lf:=qak k (places d)) (S:=fun j=>sinksL d k j) (len:=(places d).length) (fun n=>?_) (fun j hj X hX=>?_)
  ·simp only [qak,qj (je _),cond_false]
  ·have hc:(sinksL d k j).length+[(j:Int)].length≤2147483648:=by
    rw [qfn]
    have:cntP (snkQ d k) j≤j:=qdX
    simp;omega
   simp only [qak,qi hj,cond_true,qM hj,jd,wS j]
   rw [qhZ] at hX
   unfold snkQ at hX
   cases h1:((gt (places d) j).net==k)
   ·rw [h1] at hX
    simp only [Bool.false_and,cond_false,List.append_nil] at hX ⊢
    exact hX
   ·cases h2:(gt (places d) j).drives
    ·rw [h1,h2] at hX
     simp only [Bool.not_false,Bool.and_self,cond_true,qdn hc,jd] at hX ⊢
     exact hX
    ·rw [h1,h2] at hX
     simp only [jI,Bool.and_false,cond_false,List.append_nil,cond_true] at hX ⊢
     exact hX
 unfold qdT
 exact Ev.bind (qin h) (Ev.bind hL .done)
structure wireOk (b:qm) (i:Nat):Prop where
 lo:1≤(gt b.Ah i).Ai.length
 hi:(gt b.Ah i).Ai.length≤8
 res:(gt b.Ah i).Bn.length=(gt b.Ah i).Ai.length
 cap:(gt b.Ah i).Bj.length=(gt b.Ah i).Ai.length
 par:∀ j,0<j→j<(gt b.Ah i).Ai.length→0≤at0 (gt b.Ah i).Ai j∧at0 (gt b.Ah i).Ai j<j
 snk:(gt b.Ah i).Bc.length=(sinksL b.Ab (i:Int) (places b.Ab).length).length
 sin:∀ j,j<(gt b.Ah i).Bc.length→0≤at0 (gt b.Ah i).Bc j∧at0 (gt b.Ah i).Bc j<(gt b.Ah i).Ai.length
theorem qih {b:qm} (h:blockB b=true) {i:Nat} (hi:i<b.Ah.length):wireOk b i:=by
 unfold blockB at h
 rw [jg,qW] at h
 have:=h.2 i hi
 unfold wireB lenB at this
 simp only [jg,decide_eq_true_eq,beq_iff_eq] at this
 obtain ⟨⟨h1,h2⟩,h3,h4,h5,_,_,h6,h7⟩:=this
 refine ⟨h1,h2,by omega,by omega,fun j hj0 hj=>?_,?_,fun j hj=>?_⟩
 ·have:=qW.1 h5 j hj
  unfold treeB at this
  rw [show decide (j=0)=false by simp;omega] at this
  simp only [cond_false,qbp] at this
  omega
 ·rw [qfn]
  unfold snkN at h6
  omega
 ·rw [qeS (d:=0),qW] at h7
  have:=h7 j hj
  rw [qbp] at this
  unfold at0
  omega
theorem qmM {b:qm} (h:blockB b=true):b.Ah.length=b.Ab.Af.length:=by
 unfold blockB at h
 simp only [jg,beq_iff_eq] at h
 omega
theorem qo2 {b:qm} (h:blockB b=true) {j:Nat} (hj:j<(places b.Ab).length):∃ c,∀ n,qdW n b.Ab b.Aq (gt (places b.Ab) j)=some c:=by
 have hd:=qc0 h
 rcases qjL hj with ⟨i,k,hi,hk,_,e⟩|⟨i,hi,_,e⟩
 ·rw [e]
  obtain ⟨⟨c0,c1⟩,hn,_⟩:=qjn hd hi
  refine ⟨(gt (gt b.Aq.Aj (gt b.Ab.Aa i).Be.toNat).Ak k).Bj,fun n=>?_⟩
  unfold place1
  simp only [qdW,show decide ((i:Int)<0)=false by simp,cond_false,qM hi,jd,qeK c0 c1,qM (show k<(gt b.Aq.Aj (gt b.Ab.Aa i).Be.toNat).Ak.length by omega)]
 ·rw [e]
  exact ⟨0,fun n=>rfl⟩
theorem qi3 {b:qm} (h:blockB b=true) {i:Nat} (hi:i<b.Ah.length):∃ r:List Int,r.length=(gt b.Ah i).Ai.length∧Ev (fun n=>qbN n b (i:Int)) r:=by
 have hw:=qih h hi
 have hs:=qbJ (qc0 h)
 have hlo:=hw.lo
 have hhi:=hw.hi
 have hcap:=hw.cap
 have hl:=qdu hs
 obtain ⟨x1,i1,e1⟩:=loopE (Lf:=qaO b (gt b.Ah i) (places b.Ab) (sinksL b.Ab (i:Int) (places b.Ab).length)) (fin:=fun t=>(t,((sinksL b.Ab (i:Int) (places b.Ab).length).length:Int))) (fun _ t=>t.length=(gt b.Ah i).Ai.length) (len:=(sinksL b.Ab (i:Int) (places b.Ab).length).length)
  (fun n t=>by simp only [qaO,qj (je _),cond_false])
  (fun j t hj ht=>by
   obtain ⟨y,hy,ey,_⟩:=qn9 hj
   obtain ⟨c,hc⟩:=qo2 h hy
   have hjs:j<(gt b.Ah i).Bc.length:=by rw [hw.snk];exact hj
   have hsn:=hw.sin j hjs
   have hb:j<9223372036854775807:=by
    rw [qfn] at hj
    have:cntP (snkQ b.Ab (i:Int)) (places b.Ab).length≤(places b.Ab).length:=qdX
    omega
   refine ⟨setS t (at0 (gt b.Ah i).Bc j) (W64 (gt t (at0 (gt b.Ah i).Bc j).toNat+c)),by rw [qh2];exact ht,fun X hX=>?_⟩
   simp only [qaO,qi hj,cond_true,ey,jd,qbc hjs,qeK hsn.1 (show at0 (gt b.Ah i).Bc j<(t.length:Int) by omega),qM hy,qhU hb]
   exact Ev.bind ⟨0,fun n _=>hc n⟩ hX) 0 (jK _) (gt b.Ah i).Bj hcap
 obtain ⟨x2,i2,e2⟩:=loopDn (Lf:=qaR (gt b.Ah i)) (fin:=fun t=>(t,(0:Int))) (fun t=>t.length=(gt b.Ah i).Ai.length) ((gt b.Ah i).Ai.length-1)
  (fun n t=>by simp only [qaR,show decide ((0:Int) > 0)=false from rfl,cond_false])
  (fun j t h0 hj ht=>by
   have hp:=hw.par j h0 (by omega)
   refine ⟨setS t (at0 (gt b.Ah i).Ai j) (W64 (gt t (at0 (gt b.Ah i).Ai j).toNat+gt t j)),by rw [qh2];exact ht,fun X hX=>?_⟩
   simp only [qaR,show decide ((j:Int) > 0)=true by simp;omega,cond_true,qbc (show j<(gt b.Ah i).Ai.length by omega),jd,qeK hp.1 (show at0 (gt b.Ah i).Ai j<(t.length:Int) by omega),qM (show j<t.length by omega),show (j:Int)-1=((j-1:Nat):Int) by omega,qew (show -9223372036854775808≤((j-1:Nat):Int) by omega) (by omega)]
   exact hX) x1 i1
 refine ⟨x2,i2,?_⟩
 unfold qbN qeO
 rw [qM hi]
 simp only [jd,qdn (show ([]:List Int).length+(gt b.Ah i).Bj.length≤2147483648 by simp;omega),List.nil_append]
 refine Ev.bind (qin hs) (Ev.bind (qlf hs) (Ev.bind e1 ?_))
 rw [qbQ (show (gt b.Ah i).Bj.length≤9223372036854775807 by omega),show ((gt b.Ah i).Bj.length:Int)-1=(((gt b.Ah i).Ai.length-1:Nat):Int) by omega]
 exact Ev.bind e2 .done
theorem qky {b:qm} (h:blockB b=true) {i:Nat} (hi:i<b.Ah.length):∃ r:List Int,r.length=(gt b.Ah i).Bc.length∧Ev (fun n=>qca n b (i:Int)) r:=by
 have hw:=qih h hi
 have hs:=qbJ (qc0 h)
 have hlo:=hw.lo
 have hhi:=hw.hi
 have hres:=hw.res
 have hl:=qdu hs
 have hsl:(gt b.Ah i).Bc.length≤78:=by
  rw [hw.snk,qfn]
  have:cntP (snkQ b.Ab (i:Int)) (places b.Ab).length≤(places b.Ab).length:=qdX
  omega
 obtain ⟨r1,l1,e1⟩:=qi3 h hi
 have hmk:mkS (r1.length:Int) (0:Int)=some (List.replicate r1.length 0):=qfA (by omega)
 obtain ⟨x2,i2,e2⟩:=loopE (Lf:=qaH (gt b.Ah i) r1 (List.replicate r1.length 0)) (fin:=fun t=>(t,(r1.length:Int))) (fun j t=>1≤j∧t.length=(gt b.Ah i).Ai.length) (len:=r1.length)
  (fun n t=>by simp only [qaH,List.length_replicate,qj (je _),cond_false])
  (fun j t hj ht=>by
   obtain ⟨h1,ht⟩:=ht
   have hp:=hw.par j (by omega) (by omega)
   refine ⟨setS t (j:Int) (W64 (gt t (at0 (gt b.Ah i).Ai j).toNat+W64 (at0 (gt b.Ah i).Bn j*gt r1 j))),⟨by omega,by rw [qh2];exact ht⟩,fun X hX=>?_⟩
   simp only [qaH,List.length_replicate,qi hj,cond_true,qbc (show j<(gt b.Ah i).Ai.length by omega),jd,qeK hp.1 (show at0 (gt b.Ah i).Ai j<(t.length:Int) by omega),qbc (show j<(gt b.Ah i).Bn.length by omega),qM hj,qM (show j<t.length by omega),wS j]
   exact hX) 1 (by omega) (List.replicate r1.length 0) ⟨je _,by rw [List.length_replicate];exact l1⟩
 obtain ⟨x3,i3,e3⟩:=loopE (Lf:=qaE x2 (gt b.Ah i)) (fin:=fun t=>(t,((gt b.Ah i).Bc.length:Int))) (fun j t=>t.length=j) (len:=(gt b.Ah i).Bc.length)
  (fun n t=>by simp only [qaE,qj (je _),cond_false])
  (fun j t hj ht=>by
   have hsn:=hw.sin j hj
   have hx2:=i2.2
   refine ⟨t++[gt x2 (at0 (gt b.Ah i).Bc j).toNat],by simp [ht],fun X hX=>?_⟩
   simp only [qaE,qi hj,cond_true,qbc hj,jd,qeK hsn.1 (show at0 (gt b.Ah i).Bc j<(x2.length:Int) by omega),qdn (show t.length+[gt x2 (at0 (gt b.Ah i).Bc j).toNat].length≤2147483648 by simp;omega),wS j]
   exact hX) 0 (jK _) [] rfl
 refine ⟨x3,i3,?_⟩
 unfold qca qdR
 rw [qM hi]
 simp only [jd]
 refine Ev.bind (b:=x2) (Ev.bind e1 ?_) (Ev.bind e3 .done)
 rw [hmk]
 simp only [jd]
 exact Ev.bind e2 .done
end Go.Fw


namespace Go.Fw
open Go
set_option maxRecDepth 100000
instance:Inhabited qaw:=⟨⟨0,0,0,0⟩⟩
instance:Inhabited qx:=⟨⟨0,0⟩⟩
theorem qnw {α:Type} {m:Nat} {z:α} (h:m≤2147483648):mkS (m:Int) z=some (List.replicate m z):=by
 unfold mkS big
 rw [if_pos ⟨by omega,by omega⟩,jE]
theorem qnO {α:Type} [Inhabited α] {xs:List α} {a k:Nat} {y:α} (h:k ≠ a):gt (xs.set a y) k=gt xs k:=by
 unfold gt
 rw [jv,List.getElem?_set_ne (by omega),←jv]
theorem qmA {α:Type} [Inhabited α] {xs:List α} {a:Nat} {y:α} (h:a<xs.length):gt (xs.set a y) a=y:=by
 rw [qiE (by rw [List.length_set];exact h),List.getElem_set_self]
theorem qoY {a:qH}:∃ r:List qx,r.length≤4∧∀ n,qcV n a=some r:=by
 unfold qcV
 simp only [bne,qaY]
 cases (a.Ap==2)
 ·cases (a.Ap==3)
  ·cases (a.Ap==1)
   ·exact ⟨_,by decide,fun _=>rfl⟩
   ·cases (a.Bf==1)
    ·cases (a.Bf==2)
     ·exact ⟨[⟨0,0⟩,⟨0,1⟩,⟨1,0⟩,⟨1,1⟩],by decide,fun _=>rfl⟩
     ·exact ⟨[⟨0,1⟩,⟨1,0⟩],by decide,fun _=>rfl⟩
    ·exact ⟨[⟨0,0⟩,⟨1,1⟩],by decide,fun _=>rfl⟩
  ·exact ⟨[⟨1,0⟩,⟨1,1⟩],by decide,fun _=>rfl⟩
 ·exact ⟨[⟨0,0⟩,⟨0,1⟩],by decide,fun _=>rfl⟩
theorem qlZ {b:qm} {first:Int} (h:blockB b=true) {i:Nat} (hi:i<b.Ab.Aa.length):∃ r:List qaw,r.length≤32∧Ev (fun n=>qcR n b (gt b.Ab.Aa i) first) r:=by
 obtain ⟨⟨c0,c1⟩,_,hcb⟩:=qjn (qc0 h) hi
 have ha:=qmN hcb
 obtain ⟨x1,i1,e1⟩:=loopE (Lf:=qaQ first (gt b.Aq.Aj (gt b.Ab.Aa i).Be.toNat)) (fin:=fun t=>(t,((gt b.Aq.Aj (gt b.Ab.Aa i).Be.toNat).Ar.length:Int))) (fun j t=>t.length≤4*j) (len:=(gt b.Aq.Aj (gt b.Ab.Aa i).Be.toNat).Ar.length)
  (fun n t=>by simp only [qaQ,qj (je _),cond_false])
  (fun j t hj ht=>by
   obtain ⟨r,hr,er⟩:=qoY (a:=gt (gt b.Aq.Aj (gt b.Ab.Aa i).Be.toNat).Ar j)
   obtain ⟨x2,i2,e2⟩:=loopE (Lf:=qaT first (j:Int) (gt (gt b.Aq.Aj (gt b.Ab.Aa i).Be.toNat).Ar j) r) (fin:=fun t=>(t,(r.length:Int))) (fun k t'=>t'.length=t.length+k) (len:=r.length)
    (fun n t=>by simp only [qaT,qj (je _),cond_false])
    (fun k t' hk ht'=>⟨t'++[_],by rw [jl,ht',jC];omega,fun X hX=>by
     simp only [qaT,qi hk,cond_true,qM hk,jd,wS k]
     rw [qdn (by rw [jC];omega)]
     exact hX⟩) 0 (jK _) t rfl
   refine ⟨x2,by omega,fun X hX=>?_⟩
   simp only [qaQ,qi hj,cond_true,qM hj,jd,er,wS j]
   exact Ev.bind e2 hX) 0 (jK _) [] (je _)
 refine ⟨x1,by omega,?_⟩
 unfold qcR
 rw [qeK c0 c1]
 simp only [jd]
 exact Ev.bind e1 .done
theorem qm6 {b:qm} (h:blockB b=true):∃ ls lo de,Ev (fun n=>qgq n b) (some ⟨b,places b.Ab,ls,lo,de,[]⟩):=by
 have hd:=qc0 h
 have hs:=qbJ hd
 have hl:=qdu hs
 have hni:=hs.ni
 have hnn:=hs.nn
 have hwl:=qmM h
 obtain ⟨⟨x1,z1⟩,i1,e1⟩:=loopE (τ:=List qaw × Int) (Lf:=fun n t j=>qcE b n t.1 t.2 j) (fin:=fun t=>(t.1,t.2,(b.Ab.Aa.length:Int))) (fun j t=>t.1.length≤32*j) (len:=b.Ab.Aa.length)
  (fun n t=>by simp only [qcE,qj (je _),cond_false])
  (fun j t hj ht=>by
   obtain ⟨r,hr,er⟩:=qlZ (first:=t.2) h hj
   refine ⟨(t.1++r,W64 (t.2+((gt b.Ab.Aa j).Af.length:Int))),by rw [jl];omega,fun X hX=>?_⟩
   simp only [qcE,qi hj,cond_true,qM hj,jd,qaA,wS j]
   have ht':t.1.length≤32*j:=ht
   refine Ev.bind er ?_
   rw [qdn (show t.1.length+r.length≤2147483648 by omega)]
   exact hX) 0 (jK _) ([],0) (je _)
 have hm1:mkS (b.Ah.length:Int) (0:Int)=some (List.replicate b.Ah.length 0):=qnw (by omega)
 have hm2:mkS (b.Ah.length:Int) ([]:List Int)=some (List.replicate b.Ah.length []):=qnw (by omega)
 obtain ⟨⟨x5,x6⟩,⟨i5,i6,i56⟩,e2⟩:=loopE (τ:=List (List Int) × List Int) (Lf:=fun n t j=>qby (places b.Ab) n t.1 t.2 j) (fin:=fun t=>(t.1,t.2,((places b.Ab).length:Int))) (fun j t=>t.1.length=b.Ah.length∧t.2.length=b.Ah.length∧∀ k,(gt t.1 k).length≤j) (len:=(places b.Ab).length)
  (fun n t=>by simp only [qby,qj (je _),cond_false])
  (fun j t hj ht=>by
   obtain ⟨h1,h2,h3⟩:=ht
   obtain ⟨n0,n1⟩:=qkH hd hj
   cases hdr:(gt (places b.Ab) j).drives
   ·refine ⟨(setS t.1 (gt (places b.Ab) j).net (gt t.1 (gt (places b.Ab) j).net.toNat++[(j:Int)]),t.2),⟨by rw [qh2];exact h1,h2,fun k=>?_⟩,fun X hX=>?_⟩
    ·show (gt (t.1.set _ _) k).length≤j+1
     by_cases hk:k=(gt (places b.Ab) j).net.toNat
     ·subst hk
      rw [qmA (by omega),jl,jC]
      have:=h3 (gt (places b.Ab) j).net.toNat
      omega
     ·rw [qnO hk]
      have:=h3 k
      omega
    ·have:=h3 (gt (places b.Ab) j).net.toNat
     simp only [qby,qi hj,cond_true,qM hj,jd,hdr,cond_false,qeK n0 (show (gt (places b.Ab) j).net<(t.1.length:Int) by omega),wS j]
     rw [qdn (by rw [jC];omega)]
     exact hX
   ·refine ⟨(t.1,setS t.2 (gt (places b.Ab) j).net (j:Int)),⟨h1,by rw [qh2];exact h2,fun k=>Nat.le_succ_of_le (h3 k)⟩,fun X hX=>?_⟩
    simp only [qby,qi hj,cond_true,qM hj,jd,hdr,qeK n0 (show (gt (places b.Ab) j).net<(t.2.length:Int) by omega),wS j]
    exact hX) 0 (jK _) (List.replicate b.Ah.length [],List.replicate b.Ah.length 0) ⟨by simp,by simp,fun k=>by
   have:gt (List.replicate b.Ah.length ([]:List Int)) k=[]:=by
    unfold gt
    rw [jv,List.getElem?_replicate]
    by_cases hk:k<b.Ah.length<;>simp [hk]<;>rfl
   rw [this];exact je _⟩
 have i5:x5.length=b.Ah.length:=i5
 have i6:x6.length=b.Ah.length:=i6
 have i56:∀ k,(gt x5 k).length≤(places b.Ab).length:=i56
 have hL5:∀ (i4 i5 y7:Int) (y8:Int) (t:List qaw),idx x6 i4=some y8→t.length≤1000000→∃ t',t'.length=t.length+2∧Ev (fun n=>qb0 x6 i4 i5 y7 n t 0) (t',2):=by
  intro i4 i5 y7 y8 t hy ht
  obtain ⟨t',h1,h2⟩:=loopE (Lf:=qb0 x6 i4 i5 y7) (fin:=fun t=>(t,(2:Int))) (fun k t'=>t'.length=t.length+k) (len:=2)
   (fun n t=>by simp only [qb0];rfl)
   (fun k t' hk ht'=>⟨t'++[_],by rw [jl,ht',jC];omega,fun X hX=>by
    simp only [qb0,show decide ((k:Int)<2)=true by simp;omega,cond_true,hy,jd,wS k]
    rw [qdn (by rw [jC];omega)]
    exact hX⟩) 0 (jK _) t rfl
  exact ⟨t',h1,h2⟩
 have hL4:∀ (i4 y8:Int) (y6:List Int) (t:List qaw),idx x6 i4=some y8→y6.length≤78→t.length≤900000→∃ t',t'.length=t.length+2*y6.length∧Ev (fun n=>qb2 x6 i4 y6 n t 0) (t',(y6.length:Int)):=by
  intro i4 y8 y6 t hy hy6 ht
  obtain ⟨t',h1,h2⟩:=loopE (Lf:=qb2 x6 i4 y6) (fin:=fun t=>(t,(y6.length:Int))) (fun k t'=>t'.length=t.length+2*k) (len:=y6.length)
   (fun n t=>by simp only [qb2,qj (je _),cond_false])
   (fun k t' hk ht'=>by
    obtain ⟨t2,q1,q2⟩:=hL5 i4 (k:Int) (gt y6 k) y8 t' hy (by omega)
    refine ⟨t2,by omega,fun X hX=>?_⟩
    simp only [qb2,qi hk,cond_true,qM hk,jd,wS k]
    exact Ev.bind q2 hX) 0 (jK _) t rfl
  exact ⟨t',h1,h2⟩
 obtain ⟨⟨x8,x9,x10⟩,_,e3⟩:=loopE (τ:=List (List Int) × List Int × List qaw) (Lf:=fun n t j=>qcG b x5 x6 n t.1 t.2.1 t.2.2 j) (fin:=fun t=>(t.1,t.2.1,t.2.2,(b.Ah.length:Int))) (fun j t=>t.1.length=j∧t.2.1.length=j∧t.2.2.length≤448+156*j) (len:=b.Ah.length)
  (fun n t=>by simp only [qcG,qj (je _),cond_false])
  (fun j t hj ht=>by
   obtain ⟨h1,h2,h3⟩:=ht
   have h1:t.1.length=j:=h1
   have h2:t.2.1.length=j:=h2
   have h3:t.2.2.length≤448+156*j:=h3
   have hw:=qih h hj
   have hlo:=hw.lo
   obtain ⟨r4,l4,e4⟩:=qi3 h hj
   obtain ⟨r5,l5,e5⟩:=qky h hj
   have h6:=i56 j
   have hy8:idx x6 (j:Int)=some (gt x6 j):=qM (by omega)
   obtain ⟨t',q1,q2⟩:=hL4 (j:Int) (gt x6 j) (gt x5 j) t.2.2 hy8 (by omega) (by omega)
   refine ⟨(t.1++[r5],t.2.1++[gt r4 0],t'),⟨by simp [h1],by simp [h2],?_⟩,fun X hX=>?_⟩
   ·show t'.length≤_
    omega
   ·simp only [qcG,qi hj,cond_true,wS j]
    refine Ev.bind e4 ?_
    rw [show idx r4 (0:Int)=some (gt r4 0) from qM (j:=0) (by omega)]
    simp only [jd]
    rw [qdn (by rw [jC];omega)]
    simp only [jd]
    refine Ev.bind e5 ?_
    rw [qdn (by rw [jC];omega),qM (show j<x5.length by omega)]
    simp only [jd]
    exact Ev.bind q2 hX) 0 (jK _) ([],[],x1) ⟨rfl,rfl,by show x1.length≤_;have:x1.length≤32*b.Ab.Aa.length:=i1;omega⟩
 refine ⟨x10,x9,x8,?_⟩
 unfold qgq
 refine Ev.bind (qin hs) (Ev.bind e1 ?_)
 rw [hm1,hm2]
 simp only [jd]
 exact Ev.bind e2 (Ev.bind e3 .done)
end Go.Fw


namespace Go.Fw
open Go
set_option maxRecDepth 100000
theorem qo3 {b:qm} {j:Nat} (hok:qb3 b) (h:blockB b=true) (hj:j<(places b.Ab).length):Ev (fun n=>qhy n b.Aq b.Ab (j:Int)) (toSp (gt (places b.Ab) j),true):=by
 have hd:=qc0 h
 have hs:=qbJ hd
 have hl:=qdu hs
 unfold qhy
 refine Ev.bind (qiY hok.Aq hok.Ab) (Ev.ff (by rw [hd];rfl) (Ev.bind (qiI hs) ?_))
 simp only [qcQ,jd,jF,qbQ (show (places b.Ab).length≤9223372036854775807 by omega)]
 rw [show inI (j:Int) 0 (((places b.Ab).length:Int)-1)=true from qbp.2 ⟨by omega,by omega⟩]
 simp only [jI,cond_false]
 rw [qM (show j<((places b.Ab).map toSp).length by simpa using hj),qom hj]
 exact .done
def inPl (b:qm) (x:Int):Bool:=inI x 0 (((places b.Ab).length:Int)-1)
end Go.Fw


namespace Go.Fw
open Go Go.Proofs
open Go.RowKit (Below)
set_option maxRecDepth 100000
set_option maxHeartbeats 6400000
variable {n:Nat} {w:World} {cs1 cs2 cs3 cs4 cs5 cs6 cs7 cs8 cs9:List Value}
def qed (n:Nat) (a:qk) (left:Int):Option Int :=
 (qaB n a.Av left).bind fun r1 =>
 bif decide (r1<0) then some (-1) else
 (qaB n a.Au r1).bind fun r2 =>
 bif decide (r2<0) then some (-1) else
 (qaB n a.To r2).bind fun r3 =>
 bif decide (r3<0) then some (-1) else
 some r3
theorem qis {a:qk} {left:Int} (ha1:Ro w a cs1) {r:Int} (hF:qed n a left=some r):RetV Tryz.prog 7 [GoT.v qk cs1,.int .i64 left] w r:=by
 obtain ⟨p1,k1,p2,k2,p3,k3,rfl,s1,s2,s3⟩:=qac ha1
 refine zV 24 Tryz.func7 rfl fun h=>zSR (qr h rfl rfl fun w1 bb1 h=>X1 7 0 h rfl (zcI h hF (qae ⟨_,_,rfl,(h.oldS s1)⟩) rfl fun r1 w2 h hF=>X0 8 rfl (qf rfl hF ?_ ?_)))<;>intro hF
 ·exact X0 4 rfl (ri h hF rfl)
 refine X1 6 0 h rfl (zcI h hF (qae ⟨_,_,rfl,(h.oldS s2)⟩) rfl fun r2 w3 h hF=>X0 8 rfl (qf rfl hF ?_ ?_))<;>intro hF
 ·exact X0 4 rfl (ri h hF rfl)
 refine X1 6 0 h rfl (zcI h hF (qae ⟨_,_,rfl,(h.oldS s3)⟩) rfl fun r3 w4 h hF=>X0 8 rfl (qf rfl hF ?_ ?_))<;>intro hF
 ·exact X0 4 rfl (ri h hF rfl)
 exact X0 6 rfl (ri h hF rfl)
def qcf (n:Nat) (a:qk):Option qk :=
 (qam n a.Av).bind fun r1 =>
 (qam n a.Au).bind fun r2 =>
 (qam n a.To).bind fun r3 =>
 some (⟨a.Ap,a.Bg,r1,r2,r3⟩:qk)
theorem qev {a:qk} (ha1:Ro w a cs1) {r:qk} (hF:qcf n a=some r):RetV Tryz.prog 10 [GoT.v qk cs1] w r:=by
 obtain ⟨p1,k1,p2,k2,p3,k3,rfl,s1,s2,s3⟩:=qac ha1
 refine zV 23 Tryz.func10 rfl fun h=>zSR (qr h rfl rfl fun w1 bb1 h=>qC qc h rfl rfl rfl fun w2 bb2 h=>zNSR (qC qc h rfl rfl rfl fun w3 bb3 h=>X1 6 2 h rfl (zs 0 h rfl fun w4 h=>X1 6 2 h rfl (zs 0 h rfl fun w5 h=>X1 5 2 h rfl (zcL h hF (qaf ⟨_,_,rfl,(h.oldS s1)⟩) rfl fun r1 w6 S1 p4 k4 h hF=>zp1 rfl (zs 1 h rfl fun w7 h=>X1 5 3 h rfl (zcL h hF (qaf ⟨_,_,rfl,(h.oldS s2)⟩) rfl fun r2 w8 S2 p5 k5 h hF=>zp1 rfl (zs 2 h rfl fun w9 h=>X1 5 4 h rfl (zcL h hF (qaf ⟨_,_,rfl,(h.oldS s3)⟩) rfl fun r3 w10 S3 p6 k6 h hF=>zp1 rfl (zs 3 h rfl fun w11 h=>X1 4 3 h rfl (zs 4 h rfl fun w12 h=>qdy ?_)))))))))))
 obtain rfl:=qa hF
 exact qaj qc (ρ:=qk) [GoT.v qk [.int .i64 a.Ap,.int .i64 a.Bg,.slice p4 r1.length k4,.slice p5 r2.length k5,.slice p6 r3.length k6]] h ⟨⟨_,_,_,rfl,rfl,h.box 4 rfl,rfl⟩,trivial⟩ (PV.done h (qbY (qk3 (⟨a.Ap,a.Bg,r1,r2,r3⟩:qk) h (qao (S:=fun _=>False) rfl) (qao (S:=fun _=>False) rfl) (qbM 2 h rfl) (qbM 1 h rfl) (qbM 0 h rfl) (by rfl) (by rfl) (by rfl) (by rfl))))
def qeg (n:Nat) (a:qk) (b:qk):Option Bool :=
 bif (a.Ap != b.Ap) then some false else
 bif (a.Bg != b.Bg) then some false else
 (qan n a.Av b.Av).bind fun r1 =>
 bif (!r1) then some false else
 (qan n a.Au b.Au).bind fun r2 =>
 bif (!r2) then some false else
 (qan n a.To b.To).bind fun r3 =>
 bif (!r3) then some false else
 some true
theorem qit {a:qk} {b:qk} (ha1:Ro w a cs1) (ha2:Ro w b cs2) {r:Bool} (hF:qeg n a b=some r):RetV Tryz.prog 13 [GoT.v qk cs1,GoT.v qk cs2] w r:=by
 obtain ⟨p1,k1,p2,k2,p3,k3,rfl,s1,s2,s3⟩:=qac ha1
 obtain ⟨p4,k4,p5,k5,p6,k6,rfl,s4,s5,s6⟩:=qac ha2
 refine zV 33 Tryz.func13 rfl fun h=>zSR (qr h rfl rfl fun w1 bb1 h=>qr h rfl rfl fun w2 bb2 h=>X2 11 1 0 h rfl (qf rfl hF ?_ ?_))<;>intro hF
 ·exact X0 4 rfl (rb h hF rfl)
 refine X2 10 1 0 h rfl (qf rfl hF ?_ ?_)<;>intro hF
 ·exact X0 4 rfl (rb h hF rfl)
 refine X2 8 1 0 h rfl (zcB h hF (qag ⟨_,_,rfl,(h.oldS s1)⟩ ⟨_,_,rfl,(h.oldS s4)⟩) rfl fun r1 w3 h hF=>X0 2 rfl (qf rfl hF ?_ ?_))<;>intro hF
 ·exact X0 4 rfl (rb h hF rfl)
 refine X2 8 1 0 h rfl (zcB h hF (qag ⟨_,_,rfl,(h.oldS s2)⟩ ⟨_,_,rfl,(h.oldS s5)⟩) rfl fun r2 w4 h hF=>X0 2 rfl (qf rfl hF ?_ ?_))<;>intro hF
 ·exact X0 4 rfl (rb h hF rfl)
 refine X2 8 1 0 h rfl (zcB h hF (qag ⟨_,_,rfl,(h.oldS s3)⟩ ⟨_,_,rfl,(h.oldS s6)⟩) rfl fun r3 w5 h hF=>X0 2 rfl (qf rfl hF ?_ ?_))<;>intro hF
 ·exact X0 4 rfl (rb h hF rfl)
 exact X0 5 rfl (rb h hF rfl)
end Go.Fw


namespace Go.Fw
open Go
def qfC (x:qk):Prop:=rngI x.Ap∧rngI x.Bg∧(rngL rngI) x.Av∧(rngL rngI) x.Au∧(rngL rngI) x.To
def qbR (x:qk):Nat:=qbe x.Av+qbe x.Au+qbe x.To
structure qds (x:qk):Prop where
 Ap:okI x.Ap
 Bg:okI x.Bg
 Av:(okL okI) x.Av
 Au:(okL okI) x.Au
 To:(okL okI) x.To
theorem qkG {x:qk} (h:qfC x) (w:qbR x≤1048576):qds x:=⟨h.1,h.2.1,qbt (h.2.2.1) (by simp only [qbR] at w;omega),qbt (h.2.2.2.1) (by simp only [qbR] at w;omega),qbt (h.2.2.2.2) (by simp only [qbR] at w;omega)⟩
theorem qlQ {a:qk} (h:qbR a≤1048576):Ev (fun n=>qeg n a a) true:=by
 unfold qeg
 simp only [qbR] at h
 exact Ev.ff qa1 (Ev.ff qa1 (Ev.bind (qcC (a:=a.Av) (by omega)) (Ev.ff rfl (Ev.bind (qcC (a:=a.Au) (by omega)) (Ev.ff rfl (Ev.bind (qcC (a:=a.To) (by omega)) (Ev.ff rfl (.done))))))))
theorem qlS {a:qk} {left:Int} (h:qfC a) (h0:0≤left) (h1:left≤1048576):Sz (fun n=>qed n a left) (fun r=>r=left-(qbR a:Int)):=by
 unfold qed
 obtain ⟨h_0,h_1,h_2,h_3,h_4⟩:=h
 exact Sz.step (qcH (a:=a.Av) h_2 (by omega) (by omega)) fun r0 p0 q0=>Sz.step (qcH (a:=a.Au) h_3 (by omega) (by omega)) fun r1 p1 q1=>Sz.step (qcH (a:=a.To) h_4 (by omega) (by omega)) fun r2 p2 q2=>Sz.done p2 (by simp only [qbR];omega)
theorem qhB {a:qk} (h:qbR a≤1048576):Ev (fun n=>qcf n a) a:=by
 unfold qcf
 simp only [qbR] at h
 exact Ev.bind (qcD (a:=a.Av) (by omega)) (Ev.bind (qcD (a:=a.Au) (by omega)) (Ev.bind (qcD (a:=a.To) (by omega)) (.done)))
end Go.Fw


namespace Go.Fw
open Go
set_option maxRecDepth 100000
theorem qlO {b:qm} (h:blockB b=true):Ev (fun n=>qfB n b) ((places b.Ab).length:Int):=by
 unfold qfB
 exact Ev.bind (qiI (qbJ (qc0 h))) (Ev.now (by rw [jF]))
def plsB (b:qm) (xs:List Int):Bool:=decide (xs.length≤4)&&allN (fun j=>inPl b (at0 xs j)) xs.length
def valB (k v:Int):Bool:=bif k==1 then v==0 else bif k==2 then inI v 1 10 else bif (k==3) || (k==4) then inI v 0 1000000000 else false
def excB (b:qm) (e:qk):Bool:=(plsB b e.Av&&(plsB b e.Au&&plsB b e.To))&&(valB e.Ap e.Bg&&(incB e.Av&&incB e.To))
theorem qhv {b:qm} {xs:List Int} {sorted:Bool} (h:blockB b=true) (hl:xs.length≤1048576):Ev (fun n=>qda n b xs sorted) (plsB b xs&&(!sorted || incB xs)):=by
 have hpl:=qdu (qbJ (qc0 h))
 have hL:Ev (fun n=>qa2 b xs sorted n 0) (bif allN (fun j=>inPl b (at0 xs j)&&(!sorted || stepB xs j)) xs.length then .nxt (xs.length:Int) else .ret false):=by
  refine qdl ?_ (fun j hj X hX=>Ev.succ ?_)
  ·exact Ev.succ (by simp only [qa2,qj (je _),cond_false];exact .done)
  ·simp only [qa2,qi hj,cond_true,qbc hj,jd,qcQ,wS j]
   refine Ev.bind (qlO h) ?_
   rw [qbQ (show (places b.Ab).length≤9223372036854775807 by omega)]
   simp only [qaY]
   refine Ev.okP (a:=inPl b (at0 xs j)) fun _=>?_
   cases sorted
   ·exact hX
   ·refine Ev.tt rfl ?_
    unfold stepB
    by_cases h0:j=0
    ·subst h0
     exact Ev.ff (by decide) hX
    ·refine Ev.tt (by simp;omega) ?_
     simp only [show (j:Int)-1=((j-1:Nat):Int) by omega,qew (show -9223372036854775808≤((j-1:Nat):Int) by omega) (by omega),qbc (show j-1<xs.length by omega),jd]
     rw [show decide (at0 xs (j-1) ≥ at0 xs j) = !decide (at0 xs (j-1)<at0 xs j) by rw [ji];simp,show decide (j=0)=false by simp;omega]
     simp only [qaY,jI,Bool.false_or]
     exact Ev.okP1 fun _=>hX
 unfold qda
 have e:(plsB b xs&&(!sorted || incB xs))=(allN (fun j=>inPl b (at0 xs j)&&(!sorted || stepB xs j)) xs.length&&decide (xs.length≤4)):=by
  unfold plsB incB
  rw [qhm]
  cases sorted
  ·simp only [Bool.not_false,Bool.true_or,Bool.and_true]
   rw [show allN (fun _=>true) xs.length=true from qW.2 (fun _ _=>rfl),Bool.and_true,Bool.and_comm]
  ·simp only [jI,Bool.false_or]
   rw [Bool.and_assoc,Bool.and_comm]
 rw [e]
 refine Ev.bind hL ?_
 cases allN (fun j=>inPl b (at0 xs j)&&(!sorted || stepB xs j)) xs.length
 ·exact .done
 ·refine Ev.now ?_
  show some (decide ((xs.length:Int)≤((4:Nat):Int)))=some (true&&decide (xs.length≤4))
  rw [qhF,jx]
theorem qmR {n:Nat} {k v:Int}:qgp n k v=some (valB k v):=by
 simp only [qgp,qcF,jd]
 unfold valB
 cases (k==1)<;>cases (k==2)<;>cases (k==3)<;>cases (k==4)<;>rfl
theorem qkt {b:qm} {V:Tview} {e:qk} (h:blockB b=true) (hP:V.places=places b.Ab) (he:qds e):Ev (fun n=>qcv n (some V) e) (excB b e):=by
 have hpl:=qdu (qbJ (qc0 h))
 have one:∀ xs:List Int,xs.length≤1048576→∀ {F:Nat→Option (Flow Bool Int)} {X:Flow Bool Int},Ev F X →
   Ev (fun n=>bif decide ((xs.length:Int) > 4) then some (.ret false) else (qaU n xs 0 (((places b.Ab).length:Int)-1)).bind fun r2=>bif (!r2) then some (.ret false) else F n) (bif plsB b xs then X else .ret false):=by
  intro xs hx F X hX
  unfold plsB
  rw [show decide ((xs.length:Int) > 4) = !decide (xs.length≤4) from qnt (k:=4)]
  simp only [qaY]
  refine Ev.okP fun _=>Ev.ok1 ((qdo hx).cast (by rw [qeS (d:=0)];rfl)) fun _=>hX
 have hL:Ev (fun n=>qJ (some V) e n 0) (bif plsB b e.Av then (bif plsB b e.Au then (bif plsB b e.To then .nxt 3 else .ret false) else .ret false) else .ret false):=by
  refine Ev.succ ?_
  simp only [qJ,jd,qbl,hP,qbQ (show (places b.Ab).length≤9223372036854775807 by omega)]
  refine one e.Av he.Av.len (F:=fun n=>qJ (some V) e n 1) (Ev.succ ?_)
  simp only [qJ,jd,qbl,hP,qbQ (show (places b.Ab).length≤9223372036854775807 by omega)]
  refine one e.Au he.Au.len (F:=fun n=>qJ (some V) e n 2) (Ev.succ ?_)
  simp only [qJ,jd,qbl,hP,qbQ (show (places b.Ab).length≤9223372036854775807 by omega)]
  refine one e.To he.To.len (F:=fun n=>qJ (some V) e n 3) (Ev.succ ?_)
  exact .done
 unfold qcv excB
 refine Ev.bind hL ?_
 cases plsB b e.Av
 ·exact .done
 ·cases plsB b e.Au
  ·exact .done
  ·cases plsB b e.To
   ·exact .done
   ·simp only [cond_true,qmR,jd,Bool.and_self,jx]
    exact Ev.andP fun _=>Ev.and (qfW he.Av.len) fun _=>Ev.last (qfW he.To.len)
theorem qjP {b:qm} {e:qk} (hok:qb3 b) (he:qds e):Ev (fun n=>qet n b e) (blockB b&&excB b e):=by
 have eq:(blockB b&&excB b e)=((blockB b&&((plsB b e.Av&&(!true || incB e.Av))&&((plsB b e.Au&&(!false || incB e.Au))&&(plsB b e.To&&(!true || incB e.To)))))&&valB e.Ap e.Bg):=by
  unfold excB
  generalize blockB b=a1
  generalize plsB b e.Av=a2
  generalize plsB b e.Au=a3
  generalize plsB b e.To=a4
  generalize valB e.Ap e.Bg=a5
  generalize incB e.Av=a6
  generalize incB e.To=a7
  cases a1<;>cases a2<;>cases a3<;>cases a4<;>cases a5<;>cases a6<;>cases a7<;>rfl
 rw [eq]
 unfold qet
 refine Ev.guardB (Ev.or (qmy hok) fun h=>Ev.or (qhv h he.Av.len) fun _=>Ev.or (qhv h he.Au.len) fun _=>Ev.neg (qhv h he.To.len)) fun _=>?_
 simp only [qcQ,jd]
 unfold valB
 cases (e.Ap==1)<;>cases (e.Ap==2)<;>cases (e.Ap==3)<;>cases (e.Ap==4)<;>exact .done
end Go.Fw


namespace Go.Fw
open Go Go.Proofs
open Go.RowKit (Below)
set_option maxRecDepth 100000
set_option maxHeartbeats 6400000
variable {n:Nat} {w:World} {cs1 cs2 cs3 cs4 cs5 cs6 cs7 cs8 cs9:List Value}
def qaV:Nat→Int→Option ByteArray
 | 0,_=>none
 | n+1,a_n =>
  bif decide (a_n<0) then
   ((qaV n) (W64 (0-a_n))).bind fun r1 =>
   (catB (⟨#[45]⟩:ByteArray) r1).bind fun z1 =>
   some z1
  else
   bif decide (a_n<10) then some (strOf ([(⟨IntKind.wrap .u8 (W64 (48+a_n))⟩:IntK .u8)]:List (IntK .u8))) else
   ((qaV n) (W64 (a_n.tdiv 10))).bind fun r2 =>
   (catB r2 (strOf ([(⟨IntKind.wrap .u8 (W64 (48+(a_n.tmod 10)))⟩:IntK .u8)]:List (IntK .u8)))).bind fun z2 =>
   some z2
theorem qi0 {n:Nat}:∀ {w:World} {a_n:Int}  {r:ByteArray} (_:qaV n a_n=some r),RetV Tryz.prog 30 [.int .i64 a_n] w r:=by
 induction n with
 | zero=>intro w a_n r hF;rw [qaV] at hF;cases hF
 | succ n ih =>
  intro w a_n r hF
  obtain ⟨rc,hrc⟩:∃ rc,rc=qaV n:=⟨_,rfl⟩
  rw [←hrc] at ih
  refine zV 26 Tryz.func30 rfl fun h=>?_
  unfold qaV at hF
  rw [←hrc] at hF
  refine X0 10 rfl (qf rfl hF ?_ ?_)<;>intro hF
  ·refine X0 4 rfl (zcS h hF ih rfl fun r1 w1 h hF=>?_)
   obtain ⟨z1,hx1,hF⟩:=qe hF
   obtain ⟨g1,hx1⟩:=qad hx1
   refine r_v (qdC g1 rfl rfl) rfl ?_
   rw [hx1]
   refine X0 2 rfl ?_
   obtain rfl:=qa hF
   exact qaj qc (ρ:=ByteArray) [_] h ⟨rfl,trivial⟩ (qdr _ _)
  ·refine X0 7 rfl (qf rfl hF ?_ ?_)<;>intro hF
   ·refine X0 5 rfl (qT qc [.tmp 13] _ ([(⟨IntKind.wrap .u8 (W64 (48+a_n))⟩:IntK .u8)]:List (IntK .u8)) h rfl rfl rfl rfl rfl rfl rfl rfl rfl ⟨rfl,trivial⟩ rfl fun w2 p1 S1 h=>r_v (qkg qc (h.sl 0 rfl).1 (h.sl 0 rfl).2 rfl ⟨rfl,rfl⟩ ⟨rfl,rfl⟩ rfl rfl) rfl (X0 2 rfl ?_))
    obtain rfl:=qa hF
    exact qaj qc (ρ:=ByteArray) [_] h ⟨rfl,trivial⟩ (qdr _ _)
   ·refine zKS ?_
    obtain ⟨r2,hr2,hF⟩:=qe hF
    obtain ⟨z2,hx2,hF⟩:=qe hF
    refine qcX (fun e w'=>e=[(2,.string z2)]∧SH w w' []) ?_ ?_
    ·refine rA [] [] h rfl fun w5 h=>M0 123 [0,1,3,4,5,6] (h.pick [] rfl) rfl (At 2 7 127 251 rfl ?_ ?_)
     ·refine qhG r2 h (cB 30 rfl) (ih hr2) rfl rfl rfl rfl fun w11 h=>Ag (h.pick [] rfl) (Ao 7 255 rfl (qT qc [.tmp 22] _ ([(⟨IntKind.wrap .u8 (W64 (48+(a_n.tmod 10)))⟩:IntK .u8)]:List (IntK .u8)) h rfl rfl rfl rfl rfl rfl rfl rfl rfl ⟨rfl,trivial⟩ rfl fun w12 p5 S5 h=>Ag (h.pick [] rfl) (Ao 8 511 rfl (r_v (qkg qc (h.sl 0 rfl).1 (h.sl 0 rfl).2 rfl ⟨rfl,rfl⟩ ⟨rfl,rfl⟩ rfl rfl) rfl (Ag (h.pick [] rfl) ?_)))))
      obtain ⟨g6,hx2⟩:=qad hx2
      refine Aw 9 1023 (fun w' hw=>qdC g6 rfl rfl) (h.pick [] rfl) rfl ?_
      rw [hx2]
      refine M0 2047 [10] (h.pick [] rfl) rfl (Ad ?_)
      replace h:=h.pick [] rfl
      exact rG ⟨rfl,h⟩ rfl
     ·refine qT qc [.tmp 22] _ ([(⟨IntKind.wrap .u8 (W64 (48+(a_n.tmod 10)))⟩:IntK .u8)]:List (IntK .u8)) h rfl rfl rfl rfl rfl rfl rfl rfl rfl ⟨rfl,trivial⟩ rfl fun w13 p6 S6 h=>Ag (h.pick [] rfl) (At 2 8 255 507 rfl ?_ ?_)
      ·refine qhG r2 h (cB 30 rfl) (ih hr2) rfl rfl rfl rfl fun w14 h=>Ag (h.pick [] rfl) (Ao 8 511 rfl (r_v (qkg qc (h.sl 0 rfl).1 (h.sl 0 rfl).2 rfl ⟨rfl,rfl⟩ ⟨rfl,rfl⟩ rfl rfl) rfl (Ag (h.pick [] rfl) ?_)))
       obtain ⟨g7,hx2⟩:=qad hx2
       refine Aw 9 1023 (fun w' hw=>qdC g7 rfl rfl) (h.pick [] rfl) rfl ?_
       rw [hx2]
       refine M0 2047 [10] (h.pick [] rfl) rfl (Ad ?_)
       replace h:=h.pick [] rfl
       exact rG ⟨rfl,h⟩ rfl
      ·refine r_v (qkg qc (h.sl 0 rfl).1 (h.sl 0 rfl).2 rfl ⟨rfl,rfl⟩ ⟨rfl,rfl⟩ rfl rfl) rfl (Ag (h.pick [] rfl) (Ao 2 511 rfl (qhG r2 h (cB 30 rfl) (ih hr2) rfl rfl rfl rfl fun w15 h=>Ag (h.pick [] rfl) ?_)))
       obtain ⟨g8,hx2⟩:=qad hx2
       refine Aw 9 1023 (fun w' hw=>qdC g8 rfl rfl) (h.pick [] rfl) rfl ?_
       rw [hx2]
       refine M0 2047 [10] (h.pick [] rfl) rfl (Ad ?_)
       replace h:=h.pick [] rfl
       exact rG ⟨rfl,h⟩ rfl
    ·rintro e1 w16 ⟨rfl,h⟩
     obtain rfl:=qa hF
     exact qaj qc (ρ:=ByteArray) [_] h ⟨rfl,trivial⟩ (qdr _ _)
def qeR (_:Nat) (l:qh) (d:qb) (p:Tl05Place):Option ByteArray :=
 bif decide (p.instance_<0) then
  (idx d.Ac p.pin).bind fun y1 =>
  some y1.Am
 else
  (idx d.Aa p.instance_).bind fun y2 =>
  (catB y2.Am (⟨#[47]⟩:ByteArray)).bind fun z1 =>
  (idx l.Aj y2.Be).bind fun y3 =>
  (idx y3.Ak p.pin).bind fun y4 =>
  (catB z1 y4.Am).bind fun z2 =>
  some z2
theorem qjS {l:qh} {d:qb} {p:Tl05Place} (ha1:Ro w l cs1) (ha2:Ro w d cs2) (ha3:Ro w p cs3) {r:ByteArray} (hF:qeR n l d p=some r):RetV Tryz.prog 97 [GoT.v qh cs1,GoT.v qb cs2,GoT.v Tl05Place cs3] w r:=by
 obtain ⟨p1,k1,rfl,s1⟩:=qZ ha1
 obtain ⟨p2,k2,p3,k3,p4,k4,rfl,s2,s3,s4⟩:=qK ha2
 obtain rfl:=qeb ha3
 refine zV 40 Tryz.func97 rfl fun h=>zSR (qr h rfl rfl fun w1 bb1 h=>qr h rfl rfl fun w2 bb2 h=>qr h rfl rfl fun w3 bb3 h=>X1 9 0 h rfl (qf rfl hF ?_ ?_))<;>intro hF
 ·refine X2 6 1 0 h rfl ?_
  obtain ⟨y1,hy1,hF,he1,b1,_,q1,cs4,hp1,hq1,hr1,hc2⟩:=s4.ix hF
  obtain rfl:=qab hr1
  refine zxe hp1 hq1 he1 rfl (zp1 rfl (zc 0 (hc2.below h.below) rfl (X0 2 rfl ?_)))
  obtain rfl:=qa hF
  exact qaj qc (ρ:=ByteArray) [_] h ⟨rfl,trivial⟩ (qdr _ _)
 refine X2 7 1 0 h rfl ?_
 obtain ⟨y2,hy2,hF,he2,b2,_,q2,cs5,hp2,hq2,hr2,hc3⟩:=s2.ix hF
 obtain ⟨p5,k5,rfl,s5⟩:=qA hr2
 refine zxe hp2 hq2 he2 rfl (zc 0 (hc3.below h.below) rfl (qC qc h rfl rfl rfl fun w4 bb4 h=>zs 0 h rfl fun w5 h=>zNS (rD (Y1 2 0 h rfl ?_))))
 obtain ⟨z1,hx1,hF⟩:=qe hF
 obtain ⟨g1,hx1⟩:=qad hx1
 refine d_v (fun _ hb=>qdC g1 rfl rfl) rfl ?_
 rw [hx1]
 refine Y1 2 3 h rfl ?_
 refine Y1 2 0 h rfl ?_
 obtain ⟨y3,hy3,hF,he3,b3,_,q3,cs6,hp3,hq3,hr3,hc4⟩:=s1.ix hF
 obtain ⟨p6,k6,p7,k7,p8,k8,rfl,s6,s7,s8⟩:=qE hr3
 refine zdxe hp3 hq3 he3 rfl (zd1 rfl (zdc 2 (hc4.below h.below) rfl (Y1 2 1 h rfl ?_)))
 obtain ⟨y4,hy4,hF,he4,b4,_,q4,cs7,hp4,hq4,hr4,hc5⟩:=s6.ix hF
 obtain rfl:=qaz hr4
 refine zdxe hp4 hq4 he4 rfl (zd1 rfl (zdc 0 (hc5.below h.below) rfl ?_))
 obtain ⟨z2,hx2,hF⟩:=qe hF
 obtain ⟨g2,hx2⟩:=qad hx2
 refine d_v (fun _ hb=>qdC g2 rfl rfl) rfl ?_
 rw [hx2]
 refine zd1 rfl (dN h fun w6 h=>?_)
 obtain rfl:=qa hF
 exact qaj qc (ρ:=ByteArray) [_] h ⟨rfl,trivial⟩ (qdr _ _)
def qeY (n:Nat) (l:qh) (d:qb) (place:Int):Option ByteArray :=
 (qhy n l d place).bind fun o=>match o with
  | (r2,r3) =>
   bif (!r3) then some (⟨#[]⟩:ByteArray) else
   (qeR n l d r2).bind fun r4 =>
   some r4
theorem qiU {l:qh} {d:qb} {place:Int} (ha1:Ro w l cs1) (ha2:Ro w d cs2) {r:ByteArray} (hF:qeY n l d place=some r):RetV Tryz.prog 63 [GoT.v qh cs1,GoT.v qb cs2,.int .i64 place] w r:=by
 obtain ⟨p1,k1,rfl,s1⟩:=qZ ha1
 obtain ⟨p2,k2,p3,k3,p4,k4,rfl,s2,s3,s4⟩:=qK ha2
 refine zV 22 Tryz.func63 rfl fun h=>zSR (qr h rfl rfl fun w1 bb1 h=>qr h rfl rfl fun w2 bb2 h=>X2 7 1 0 h rfl ?_)
 obtain ⟨r1,hr1,hF⟩:=qe hF
 obtain ⟨r2,r3⟩:=r1
 refine qie (r2,r3) h (cB 105 rfl) (qlc (h.old ha1) (h.old ha2) hr1) rfl rfl rfl rfl fun w3 S1 us1 hv1 hr2=>?_
 obtain ⟨S2,S3,cs3,us2,rfl,hv2,hr3⟩:=hv1.cons hr2
 obtain rfl:=qeb (hv2.sh.own 0 rfl)
 obtain ⟨rfl,h⟩:=hv2.lastB hr3
 refine zp3 rfl (qC qc h rfl rfl rfl fun w4 bb3 h=>zs 0 h rfl fun w5 h=>X0 8 rfl (qf rfl hF ?_ ?_))<;>intro hF
 ·refine X0 4 rfl ?_
  obtain rfl:=qa hF
  exact qaj qc (ρ:=ByteArray) [_] h ⟨rfl,trivial⟩ (qdr _ _)
 refine X3 6 3 2 0 h rfl (zcS h hF (qjS (h.old ha1) (h.old ha2) (h.own 1 rfl)) rfl fun r4 w6 h hF=>X0 2 rfl ?_)
 obtain rfl:=qa hF
 exact qaj qc (ρ:=ByteArray) [_] h ⟨rfl,trivial⟩ (qdr _ _)
def qbC (b:qm) (word:ByteArray) (list:(List Int)):Nat→ByteArray→Int→Option (ByteArray × Int)
 | 0,_,_=>none
 | n+1,z1,i1 =>
  bif decide (i1<(list.length:Int)) then
   (catB z1 (⟨#[32]⟩:ByteArray)).bind fun z2 =>
   (catB z2 word).bind fun z3 =>
   (catB z3 (⟨#[32]⟩:ByteArray)).bind fun z4 =>
   (idx list i1).bind fun y1 =>
   (qeY n (⟨b.Aq.Aj⟩:qh) (⟨b.Ab.Aa,b.Ab.Af,b.Ab.Ac⟩:qb) y1).bind fun r1 =>
   (catB z4 r1).bind fun z5 =>
   qbC b word list n z5 (W64 (i1+1))
  else
   some (z1,i1)
def qdN (n:Nat) (b:qm) (word:ByteArray) (list:(List Int)):Option ByteArray :=
 (qbC b word list n (⟨#[]⟩:ByteArray) 0).bind fun o=>match o with
 | (z1,_) =>
  some z1
theorem qfl {b:qm} {word:ByteArray} {list:(List Int)} (ha1:Ro w b cs1) (ha2:Ro w list cs2) {r:ByteArray} (hF:qdN n b word list=some r):RetV Tryz.prog 31 [GoT.v qm cs1,.string word,GoT.v (List Int) cs2] w r:=by
 obtain ⟨p1,k1,p2,k2,p3,k3,p4,k4,p5,k5,rfl,s1,s2,s3,s4,s5⟩:=qU ha1
 obtain ⟨p6,k6,rfl,s6⟩:=ha2
 refine zV 31 Tryz.func31 rfl fun h=>zSR (qr h rfl rfl fun w1 bb1 h=>X0 11 rfl ?_)
 obtain ⟨o1,hF,hK1⟩:=qe hF
 refine ql (rL (fun m e w'=>∃ (z1:ByteArray) (i1:Int),qbC b word list m z1 i1=some o1∧e=[(1,.string word),(2,.slice p6 list.length k6),(3,.pointer (some ⟨bb1,0,none⟩)),(7,.string z1),(8,.int .i64 i1)]∧SH w w' [Ch.box bb1 (qb5 b p1 p2 p3 p4 p5 k1 k2 k3 k4 k5) 48]) n ⟨_,_,hF,rfl,h⟩ rfl ?_)
 rintro m1 e1 w2 ⟨z1,i1,hF,rfl,h⟩
 rcases m1 with _|m1
 ·cases hF
 refine X0 8 rfl (qf rfl hF ?_ ?_)<;>intro hF
 ·refine zKSB (rD (zd1 rfl ?_))
  obtain ⟨z2,hx1,hF⟩:=qe hF
  obtain ⟨g1,hx1⟩:=qad hx1
  refine d_v (fun _ hb=>qdC g1 rfl rfl) rfl ?_
  rw [hx1]
  refine zd1 rfl ?_
  obtain ⟨z3,hx2,hF⟩:=qe hF
  obtain ⟨g2,hx2⟩:=qad hx2
  refine d_v (fun _ hb=>qdC g2 rfl rfl) rfl ?_
  rw [hx2]
  obtain ⟨z4,hx3,hF⟩:=qe hF
  obtain ⟨g3,hx3⟩:=qad hx3
  refine d_v (fun _ hb=>qdC g3 rfl rfl) rfl ?_
  rw [hx3]
  refine Y1 2 0 h rfl ?_
  refine Y1 2 0 h rfl ?_
  refine zd2 rfl ?_
  obtain ⟨y1,hy1,hF,he1,b1,_,q1,cs3,hp1,hq1,rfl,hc2⟩:=s6.ix hF
  refine zdxe hp1 hq1 he1 rfl (zdc 0 (hc2.below h.below) rfl ?_)
  obtain ⟨r1,hr2,hF⟩:=qe hF
  refine qa4 r1 (vsS _) (cB 63 rfl) (fun _ hb=>qiU (qbk _ ((h.ext hb).oldS s1)) (qar _ ((h.ext hb).oldS s2) ((h.ext hb).oldS s3) ((h.ext hb).oldS s4)) hr2) rfl rfl rfl rfl ?_
  obtain ⟨z5,hx4,hF⟩:=qe hF
  obtain ⟨g4,hx4⟩:=qad hx4
  refine d_v (fun _ hb=>qdC g4 rfl rfl) rfl ?_
  rw [hx4]
  exact zd1 rfl (dN h fun w3 h=>X0 6 rfl (rK ⟨_,_,hF,rfl,h⟩ rfl))
 refine qq rfl ?_
 obtain rfl:=qa hF;replace hF:=hK1
 refine X0 5 rfl ?_
 obtain rfl:=qa hF
 exact qaj qc (ρ:=ByteArray) [_] h ⟨rfl,trivial⟩ (qdr _ _)
def qbF (n:Nat) (b:qm) (a_e:qk):Option ByteArray :=
 (qet n b a_e).bind fun r1 =>
 bif (!r1) then some (⟨#[]⟩:ByteArray) else
 (idx ([(⟨#[102,97,108,115,101]⟩:ByteArray),(⟨#[99,121,99,108,101,115]⟩:ByteArray),(⟨#[109,97,120]⟩:ByteArray),(⟨#[109,105,110]⟩:ByteArray)]:List ByteArray) (W64 (a_e.Ap-1))).bind fun y1 =>
 (
  bif (a_e.Ap != 1) then
   (catB y1 (⟨#[32]⟩:ByteArray)).bind fun z5 =>
   (qaV n a_e.Bg).bind fun r5 =>
   (catB z5 r5).bind fun z6 =>
   some z6
  else
   some y1).bind fun z1 =>
 (qdN n b (⟨#[102,114,111,109]⟩:ByteArray) a_e.Av).bind fun r2 =>
 (catB z1 r2).bind fun z2 =>
 (qdN n b (⟨#[116,104,114,111,117,103,104]⟩:ByteArray) a_e.Au).bind fun r3 =>
 (catB z2 r3).bind fun z3 =>
 (qdN n b (⟨#[116,111]⟩:ByteArray) a_e.To).bind fun r4 =>
 (catB z3 r4).bind fun z4 =>
 some z4
theorem qhP {b:qm} {a_e:qk} (ha1:Ro w b cs1) (ha2:Ro w a_e cs2) {r:ByteArray} (hF:qbF n b a_e=some r):RetV Tryz.prog 8 [GoT.v qm cs1,GoT.v qk cs2] w r:=by
 obtain ⟨p1,k1,p2,k2,p3,k3,p4,k4,p5,k5,rfl,s1,s2,s3,s4,s5⟩:=qU ha1
 obtain ⟨p6,k6,p7,k7,p8,k8,rfl,s6,s7,s8⟩:=qac ha2
 refine zV 41 Tryz.func8 rfl fun h=>zSR (qr h rfl rfl fun w1 bb1 h=>qr h rfl rfl fun w2 bb2 h=>X2 7 1 0 h rfl (zcB h hF (qiw (h.old ha1) (h.old ha2)) rfl fun r1 w3 h hF=>X0 2 rfl (qf rfl hF ?_ ?_)))<;>intro hF
 ·refine X0 4 rfl ?_
  obtain rfl:=qa hF
  exact qaj qc (ρ:=ByteArray) [_] h ⟨rfl,trivial⟩ (qdr _ _)
 refine zKSR (qT qc [.const (.string (⟨#[102,97,108,115,101]⟩:ByteArray)),.const (.string (⟨#[99,121,99,108,101,115]⟩:ByteArray)),.const (.string (⟨#[109,97,120]⟩:ByteArray)),.const (.string (⟨#[109,105,110]⟩:ByteArray))] _ ([(⟨#[102,97,108,115,101]⟩:ByteArray),(⟨#[99,121,99,108,101,115]⟩:ByteArray),(⟨#[109,97,120]⟩:ByteArray),(⟨#[109,105,110]⟩:ByteArray)]:List ByteArray) h rfl rfl rfl rfl rfl rfl rfl rfl rfl ⟨rfl,rfl,rfl,rfl,trivial⟩ rfl fun w4 p9 S1 h=>X1 3 1 h rfl ?_)
 obtain ⟨y1,hy1,hF,he1,b1,_,q1,cs3,hp1,hq1,rfl,hc2⟩:=(h.sl 0 rfl).1.ix hF
 refine zx hp1 hq1 ⟨he1.1,qap he1.2.1 (h.sl 0 rfl).2⟩ rfl (zc 0 hc2 rfl (X1 9 1 h rfl ?_))
 obtain ⟨KF1,hKF1,o1,hF,hK1⟩:=bindE hF
 refine qcX (fun e w'=>∃ (z1:ByteArray),KF1 z1=some r∧e=[(2,.pointer (some ⟨bb1,0,none⟩)),(3,.pointer (some ⟨bb2,0,none⟩)),(5,.string z1)]∧SH w w' [Ch.box bb2 (qe9 a_e p6 p7 p8 k6 k7 k8) 50,Ch.box bb1 (qb5 b p1 p2 p3 p4 p5 k1 k2 k3 k4 k5) 48]) ?_ ?_
 ·refine qf rfl hF ?_ ?_<;>intro hF
  ·refine X0 2 rfl ?_
   obtain ⟨z5,hx4,hF⟩:=qe hF
   obtain ⟨g4,hx4⟩:=qad hx4
   refine r_v (qdC g4 rfl rfl) rfl ?_
   rw [hx4]
   refine X1 2 1 h rfl (zcS h hF qi0 rfl fun r5 w6 h hF=>?_)
   obtain ⟨z6,hx5,hF⟩:=qe hF
   obtain ⟨g5,hx5⟩:=qad hx5
   refine r_v (qdC g5 rfl rfl) rfl ?_
   rw [hx5]
   refine X0 2 rfl ?_
   replace h:=h.pick [1,2] rfl
   obtain rfl:=qa hF
   exact rG ⟨_,hK1,rfl,h⟩ rfl
  refine qe7 ?_
  replace h:=h.pick [1,2] rfl
  obtain rfl:=qa hF
  exact rG ⟨_,hK1,rfl,h⟩ rfl
 rintro e1 w7 ⟨z1,hF,rfl,h⟩
 subst hKF1
 refine qeu (rD (Y1 2 1 h rfl ?_))
 refine Y1 2 0 h rfl ?_
 obtain ⟨r2,hr3,hF⟩:=qe hF
 refine qa4 r2 (vsS _) (cB 31 rfl) (fun _ hb=>qfl ((h.ext hb).old ha1) ⟨_,_,rfl,((h.ext hb).oldS s6)⟩ hr3) rfl rfl rfl rfl ?_
 obtain ⟨z2,hx1,hF⟩:=qe hF
 obtain ⟨g1,hx1⟩:=qad hx1
 refine d_v (fun _ hb=>qdC g1 rfl rfl) rfl ?_
 rw [hx1]
 refine Y1 1 1 h rfl ?_
 refine Y1 2 0 h rfl ?_
 obtain ⟨r3,hr4,hF⟩:=qe hF
 refine qa4 r3 (vsS _) (cB 31 rfl) (fun _ hb=>qfl ((h.ext hb).old ha1) ⟨_,_,rfl,((h.ext hb).oldS s7)⟩ hr4) rfl rfl rfl rfl ?_
 obtain ⟨z3,hx2,hF⟩:=qe hF
 obtain ⟨g2,hx2⟩:=qad hx2
 refine d_v (fun _ hb=>qdC g2 rfl rfl) rfl ?_
 rw [hx2]
 refine Y1 1 1 h rfl ?_
 refine Y1 2 0 h rfl ?_
 obtain ⟨r4,hr5,hF⟩:=qe hF
 refine qa4 r4 (vsS _) (cB 31 rfl) (fun _ hb=>qfl ((h.ext hb).old ha1) ⟨_,_,rfl,((h.ext hb).oldS s8)⟩ hr5) rfl rfl rfl rfl ?_
 obtain ⟨z4,hx3,hF⟩:=qe hF
 obtain ⟨g3,hx3⟩:=qad hx3
 refine d_v (fun _ hb=>qdC g3 rfl rfl) rfl ?_
 rw [hx3]
 refine zd1 rfl (dN h fun w5 h=>?_)
 obtain rfl:=qa hF
 exact qaj qc (ρ:=ByteArray) [_] h ⟨rfl,trivial⟩ (qdr _ _)
def qdV (_:Nat) (i base:Int):Option ByteArray :=
 if base=10∧-9223372036854775808≤i∧i≤9223372036854775807 then some ⟨(Lib.itoa i).toArray⟩ else none
theorem qh8 {i base:Int} (hgv2:GV 2 (Lib.pow10Tab.map (Value.int .u64)) w (old w)) {r:ByteArray} (hF:qdV n i base=some r):RetV Tryz.prog 124 [.int .i64 i,.int .i64 base] w r:=by
 unfold qdV at hF
 split at hF
 ·rename_i hh
  obtain rfl:=qa hF
  obtain ⟨rfl,h0,h1⟩:=hh
  refine (Tryz.strconv_FormatInt_10 i h0 h1 w ((hgv2.var (by kernel_rfl)).trans rfl)).mono ?_
  rintro e w' ⟨rfl,k,os,rfl⟩
  exact ⟨_,rfl,Lib.below_grow _ w (je _) k os,[.string _],rfl,qdr _ _⟩
 cases hF
def qgg (n:Nat) (a_n:Int):Option ByteArray :=
 (qdV n a_n 10).bind fun r1 =>
 some r1
theorem qjX {a_n:Int} (hgv2:GV 2 (Lib.pow10Tab.map (Value.int .u64)) w (old w)) {r:ByteArray} (hF:qgg n a_n=some r):RetV Tryz.prog 80 [.int .i64 a_n] w r:=by
 refine zV 5 Tryz.func80 rfl fun h=>X0 7 rfl (zcS h hF (qh8 (h.old hgv2)) rfl fun r1 w1 h hF=>X0 2 rfl ?_)
 obtain rfl:=qa hF
 exact qaj qc (ρ:=ByteArray) [_] h ⟨rfl,trivial⟩ (qdr _ _)
def qcs (_:Nat) (d:qb) (l:qh) (p:Tplace):Option ByteArray :=
 bif decide (p.instance_<0) then
  (idx d.Ac p.pin).bind fun y1 =>
  some y1.Am
 else
  (idx d.Aa p.instance_).bind fun y2 =>
  (catB y2.Am (⟨#[47]⟩:ByteArray)).bind fun z1 =>
  (idx l.Aj y2.Be).bind fun y3 =>
  (idx y3.Ak p.pin).bind fun y4 =>
  (catB z1 y4.Am).bind fun z2 =>
  some z2
theorem qdP {d:qb} {l:qh} {p:Tplace} (ha1:Ro w d cs1) (ha2:Ro w l cs2) (ha3:Ro w p cs3) {r:ByteArray} (hF:qcs n d l p=some r):RetV Tryz.prog 81 [GoT.v qb cs1,GoT.v qh cs2,GoT.v Tplace cs3] w r:=by
 obtain ⟨p1,k1,p2,k2,p3,k3,rfl,s1,s2,s3⟩:=qK ha1
 obtain ⟨p4,k4,rfl,s4⟩:=qZ ha2
 obtain rfl:=qea ha3
 refine zV 40 Tryz.func81 rfl fun h=>zSR (qr h rfl rfl fun w1 bb1 h=>qr h rfl rfl fun w2 bb2 h=>qr h rfl rfl fun w3 bb3 h=>X1 9 0 h rfl (qf rfl hF ?_ ?_))<;>intro hF
 ·refine X2 6 2 0 h rfl ?_
  obtain ⟨y1,hy1,hF,he1,b1,_,q1,cs4,hp1,hq1,hr1,hc2⟩:=s3.ix hF
  obtain rfl:=qab hr1
  refine zxe hp1 hq1 he1 rfl (zp1 rfl (zc 0 (hc2.below h.below) rfl (X0 2 rfl ?_)))
  obtain rfl:=qa hF
  exact qaj qc (ρ:=ByteArray) [_] h ⟨rfl,trivial⟩ (qdr _ _)
 refine X2 7 2 0 h rfl ?_
 obtain ⟨y2,hy2,hF,he2,b2,_,q2,cs5,hp2,hq2,hr2,hc3⟩:=s1.ix hF
 obtain ⟨p5,k5,rfl,s5⟩:=qA hr2
 refine zxe hp2 hq2 he2 rfl (zc 0 (hc3.below h.below) rfl (qC qc h rfl rfl rfl fun w4 bb4 h=>zs 0 h rfl fun w5 h=>zNS (rD (Y1 2 0 h rfl ?_))))
 obtain ⟨z1,hx1,hF⟩:=qe hF
 obtain ⟨g1,hx1⟩:=qad hx1
 refine d_v (fun _ hb=>qdC g1 rfl rfl) rfl ?_
 rw [hx1]
 refine Y1 2 2 h rfl ?_
 refine Y1 2 0 h rfl ?_
 obtain ⟨y3,hy3,hF,he3,b3,_,q3,cs6,hp3,hq3,hr3,hc4⟩:=s4.ix hF
 obtain ⟨p6,k6,p7,k7,p8,k8,rfl,s6,s7,s8⟩:=qE hr3
 refine zdxe hp3 hq3 he3 rfl (zd1 rfl (zdc 2 (hc4.below h.below) rfl (Y1 2 1 h rfl ?_)))
 obtain ⟨y4,hy4,hF,he4,b4,_,q4,cs7,hp4,hq4,hr4,hc5⟩:=s6.ix hF
 obtain rfl:=qaz hr4
 refine zdxe hp4 hq4 he4 rfl (zd1 rfl (zdc 0 (hc5.below h.below) rfl ?_))
 obtain ⟨z2,hx2,hF⟩:=qe hF
 obtain ⟨g2,hx2⟩:=qad hx2
 refine d_v (fun _ hb=>qdC g2 rfl rfl) rfl ?_
 rw [hx2]
 refine zd1 rfl (dN h fun w6 h=>?_)
 obtain rfl:=qa hF
 exact qaj qc (ρ:=ByteArray) [_] h ⟨rfl,trivial⟩ (qdr _ _)
def qQ (a_0:(Option Tview)) (i1:Int) (y2:(List Int)):Nat→ByteArray→Int→Option (ByteArray × Int)
 | 0,_,_=>none
 | n+1,z3,i2 =>
  bif decide (i2<(y2.length:Int)) then
   (idx y2 i2).bind fun y3 =>
   (a_0).bind fun y4 =>
   (idx ([(⟨#[32,102,114,111,109,32]⟩:ByteArray),(⟨#[32,116,104,114,111,117,103,104,32]⟩:ByteArray),(⟨#[32,116,111,32]⟩:ByteArray)]:List ByteArray) i1).bind fun y5 =>
   (idx y4.places y3).bind fun y6 =>
   (qcs n (⟨y4.Bi.Ab.Aa,y4.Bi.Ab.Af,y4.Bi.Ab.Ac⟩:qb) (⟨y4.Bi.Aq.Aj⟩:qh) y6).bind fun r1 =>
   (catB y5 r1).bind fun z4 =>
   (catB z3 z4).bind fun z5 =>
   qQ a_0 i1 y2 n z5 (W64 (i2+1))
  else
   some (z3,i2)
def qR (a_0:(Option Tview)) (a_1:qk):Nat→ByteArray→Int→Option (ByteArray × Int)
 | 0,_,_=>none
 | n+1,z2,i1 =>
  bif decide (i1<((3:Nat):Int)) then
   (idx ([a_1.Av,a_1.Au,a_1.To]:List (List Int)) i1).bind fun y2 =>
   (qQ a_0 i1 y2 n z2 0).bind fun o=>match o with
   | (z3,_) =>
    qR a_0 a_1 n z3 (W64 (i1+1))
  else
   some (z2,i1)
def qbW (n:Nat) (a_0:(Option Tview)) (a_1:qk):Option ByteArray :=
 (idx exWords a_1.Ap).bind fun y1 =>
 (
  bif (a_1.Ap != 1) then
   (qgg n a_1.Bg).bind fun r2 =>
   (catB (⟨#[32]⟩:ByteArray) r2).bind fun z6 =>
   (catB y1 z6).bind fun z7 =>
   some z7
  else
   some y1).bind fun z1 =>
 (qR a_0 a_1 n z1 0).bind fun o=>match o with
 | (z2,_) =>
  some z2
theorem qgC {a_0:(Option Tview)} {a_1:qk} (ha1:Ro w a_0 cs1) (ha2:Ro w a_1 cs2) (hgv0:GV 0 (exWords.map Value.string) w (old w)) (hgv2:GV 2 (Lib.pow10Tab.map (Value.int .u64)) w (old w)) {r:ByteArray} (hF:qbW n a_0 a_1=some r):RetV Tryz.prog 39 [GoT.v (Option Tview) cs1,GoT.v qk cs2] w r:=by
 obtain ⟨p1,rfl,s1⟩:=qkX ha1
 obtain ⟨p2,k1,p3,k2,p4,k3,rfl,s2,s3,s4⟩:=qac ha2
 refine zV 70 Tryz.func39 rfl fun h=>zSR (qr h rfl rfl fun w1 bb1 h=>X1 6 0 h rfl ?_)
 obtain ⟨y1,hy1,hF⟩:=qe hF
 have he1:=qa9 hy1
 refine r_v (qqr qc rfl rfl ⟨he1.1,he1.2.1⟩ ⟨rfl,rfl⟩ rfl rfl) rfl (r_v (qqx qc (h.old hgv0) (qp5 hy1) rfl rfl rfl) rfl (X1 9 0 h rfl ?_))
 obtain ⟨KF1,hKF1,o3,hF,hK3⟩:=bindE hF
 refine qcX (fun e w'=>∃ (z1:ByteArray),KF1 z1=some r∧e=[(0,.pointer p1),(3,.pointer (some ⟨bb1,0,none⟩)),(5,.string z1)]∧SH w w' [Ch.box bb1 (qe9 a_1 p2 p3 p4 k1 k2 k3) 50]) ?_ ?_
 ·refine qf rfl hF ?_ ?_<;>intro hF
  ·refine X1 4 0 h rfl (zcS h hF (qjX (h.old hgv2)) rfl fun r2 w19 h hF=>?_)
   obtain ⟨z6,hx3,hF⟩:=qe hF
   obtain ⟨g15,hx3⟩:=qad hx3
   refine r_v (qdC g15 rfl rfl) rfl ?_
   rw [hx3]
   obtain ⟨z7,hx4,hF⟩:=qe hF
   obtain ⟨g16,hx4⟩:=qad hx4
   refine r_v (qdC g16 rfl rfl) rfl ?_
   rw [hx4]
   refine X0 2 rfl ?_
   obtain rfl:=qa hF
   exact rG ⟨_,hK3,rfl,h⟩ rfl
  refine qe7 ?_
  obtain rfl:=qa hF
  exact rG ⟨_,hK3,rfl,h⟩ rfl
 rintro e4 w20 ⟨z1,hF,rfl,h⟩
 subst hKF1
 refine X3 9 0 0 0 h rfl (qlx qc [.tmp 24,.tmp 26,.tmp 28] _ ([a_1.Av,a_1.Au,a_1.To]:List (List Int)) h rfl rfl rfl rfl rfl rfl rfl rfl rfl ⟨⟨_,_,rfl,s2⟩,⟨_,_,rfl,s3⟩,⟨_,_,rfl,s4⟩,trivial⟩ rfl fun w2 p5 S1 h=>X0 3 rfl ?_)
 obtain ⟨o1,hF,hK1⟩:=qe hF
 refine ql ?_
 replace h:=h.pick [0] rfl
 refine rL (fun m e w'=>∃ (z2:ByteArray) (i1:Int),qR a_0 a_1 m z2 i1=some o1∧e=[(0,.pointer p1),(5,.string z2),(29,.slice p5 3 3),(30,.int .i64 ((3:Nat):Int)),(31,.int .i64 i1)]∧SH w w' [Ch.rowD w S1 (([a_1.Av,a_1.Au,a_1.To]:List (List Int)):List (List Int)) p5 3]) n ⟨_,_,hF,rfl,h⟩ rfl ?_
 rintro m1 e1 w3 ⟨z2,i1,hF,rfl,h⟩
 rcases m1 with _|m1
 ·cases hF
 refine X0 5 rfl (qf rfl hF ?_ ?_)<;>intro hF
 ·refine X0 6 rfl ?_
  obtain ⟨y2,hy2,hF⟩:=qe hF
  have he2:=qa9 hy2
  obtain ⟨b1,o_1,q1,cs3,hp1,hq1,-,hr1,hc2⟩:=h.atD 0 rfl hy2
  obtain ⟨p6,k4,rfl,s5⟩:=hr1
  refine zxe hp1 hq1 he2 rfl (zc 0 hc2 rfl (X0 9 rfl ?_))
  obtain ⟨o2,hF,hK2⟩:=qe hF
  refine ql (rL (fun m e w'=>∃ (z3:ByteArray) (i2:Int),qQ a_0 i1 y2 m z3 i2=some o2∧e=[(0,.pointer p1),(5,.string z3),(6,.int .i64 i1),(29,.slice p5 3 3),(30,.int .i64 ((3:Nat):Int)),(31,.int .i64 i1),(36,.slice p6 y2.length k4),(37,.int .i64 (y2.length:Int)),(38,.int .i64 i2)]∧SH w w' [Ch.rowD w S1 (([a_1.Av,a_1.Au,a_1.To]:List (List Int)):List (List Int)) p5 3]) m1 ⟨_,_,hF,rfl,h⟩ rfl ?_)
  rintro m2 e2 w4 ⟨z3,i2,hF,rfl,h⟩
  rcases m2 with _|m2
  ·cases hF
  refine X0 5 rfl (qf rfl hF ?_ ?_)<;>intro hF
  ·refine zKSBSR ?_
   obtain ⟨y3,hy3,hF,he3,b2,_,q2,cs4,hp2,hq2,rfl,hc4⟩:=s5.ix hF
   refine zxe hp2 hq2 he3 rfl (zc 0 (hc4.below h.below) rfl (X0 2 rfl ?_))
   obtain ⟨y4,hy4,hF⟩:=qe hF
   obtain ⟨b3,o_3,cs5,rfl,-,hr3,hc5⟩:=PtR.get s1 hy4
   obtain ⟨p7,k5,p8,k6,p9,k7,p10,k8,p11,k9,p12,k10,p13,k11,p14,k12,p15,k13,p16,k14,rfl,s6,s7,s8,s9,s10,s11,s12,s13,s14,s15⟩:=qkq hr3
   obtain ⟨y5,hy5,hF⟩:=qe hF
   obtain ⟨y6,hy6,hF⟩:=qe hF
   obtain ⟨r1,hr6,hF⟩:=qe hF
   obtain ⟨z4,hx1,hF⟩:=qe hF
   obtain ⟨z5,hx2,hF⟩:=qe hF
   refine qcX (fun e w'=>e=[(0,.pointer (some ⟨b3,o_3,none⟩)),(5,.string z5),(6,.int .i64 i1),(29,.slice p5 3 3),(30,.int .i64 ((3:Nat):Int)),(31,.int .i64 i1),(36,.slice p6 y2.length k4),(37,.int .i64 (y2.length:Int)),(38,.int .i64 i2)]∧SH w w' [Ch.rowD w S1 (([a_1.Av,a_1.Au,a_1.To]:List (List Int)):List (List Int)) p5 3]) ?_ ?_
   ·refine rA [] [] h rfl fun w7 h=>M0 485 [0,2,5,6,7,8] (h.pick [] rfl) rfl (Al 9 997 1 hc5 (h.pick [] rfl) rfl (M0 16357 [10,11,12,13] (h.pick [] rfl) rfl (Al 14 32741 0 hc5 (h.pick [] rfl) rfl (M0 262117 [15,16,17] (h.pick [] rfl) rfl (Al 18 524261 5 hc5 (h.pick [] rfl) rfl (M0 1048549 [19] (h.pick [] rfl) rfl ?_))))))
    have he9:=qa9 hy6
    obtain ⟨b9,o_9,q8,cs11,hp8,hq8,-,hr10,hc11⟩:=s11.at hy6
    obtain rfl:=qea hr10
    refine Ae 20 2097125 hp8 hq8 he9 (h.pick [] rfl) rfl (Al 21 4194277 0 hc11 (h.pick [] rfl) rfl (At 1 22 4194279 8388581 rfl ?_ ?_))
    ·refine qT qc [.const (.string (⟨#[32,102,114,111,109,32]⟩:ByteArray)),.const (.string (⟨#[32,116,104,114,111,117,103,104,32]⟩:ByteArray)),.const (.string (⟨#[32,116,111,32]⟩:ByteArray))] _ ([(⟨#[32,102,114,111,109,32]⟩:ByteArray),(⟨#[32,116,104,114,111,117,103,104,32]⟩:ByteArray),(⟨#[32,116,111,32]⟩:ByteArray)]:List ByteArray) h rfl rfl rfl rfl rfl rfl rfl rfl rfl ⟨rfl,rfl,rfl,trivial⟩ rfl fun w13 p20 S5 h=>Ag (h.pick [] rfl) ?_
     have he10:=qa9 hy5
     obtain ⟨b10,o_10,q9,cs12,hp9,hq9,-,hr11,hc12⟩:=(h.sl 0 rfl).1.at hy5
     obtain rfl:=hr11
     refine Ax 3 4194287 hp9 hq9 ⟨he10.1,qap he10.2.1 (h.sl 0 rfl).2⟩ (h.pick [] rfl) rfl (At 4 22 4194303 8388591 rfl ?_ ?_)
     ·refine r_v (qhN qc (qdK (w1:=w) (S1:=fun _=>False) h 0 rfl hy5 hp9 hq9 rfl) (j:=0) rfl rfl rfl) rfl (Ag (h.pick [] rfl) (Ao 22 8388607 rfl (qhG r1 h (cB 81 rfl) (qdP (qar _ (h.oldS s7) (h.oldS s8) (h.oldS s9)) (qbk _ (h.oldS s6)) (qeM y6) hr6) rfl rfl rfl rfl fun w14 h=>Ag (h.pick [] rfl) ?_)))
      obtain ⟨g9,hx1⟩:=qad hx1
      refine Aw 23 16777215 (fun w' hw=>qdC g9 rfl rfl) (h.pick [] rfl) rfl ?_
      rw [hx1]
      obtain ⟨g10,hx2⟩:=qad hx2
      refine Aw 24 33554431 (fun w' hw=>qdC g10 rfl rfl) (h.pick [] rfl) rfl ?_
      rw [hx2]
      refine M0 67108863 [25] (h.pick [] rfl) rfl (Ad ?_)
      replace h:=h.pick [1] rfl
      exact rG ⟨rfl,h⟩ rfl
     refine qhG r1 h (cB 81 rfl) (qdP (qar _ (h.oldS s7) (h.oldS s8) (h.oldS s9)) (qbk _ (h.oldS s6)) (qeM y6) hr6) rfl rfl rfl rfl fun w15 h=>Ag (h.pick [] rfl) (Ao 4 8388607 rfl (r_v (qhN qc (qdK (w1:=w) (S1:=fun _=>False) h 0 rfl hy5 hp9 hq9 rfl) (j:=0) rfl rfl rfl) rfl (Ag (h.pick [] rfl) ?_)))
     obtain ⟨g11,hx1⟩:=qad hx1
     refine Aw 23 16777215 (fun w' hw=>qdC g11 rfl rfl) (h.pick [] rfl) rfl ?_
     rw [hx1]
     obtain ⟨g12,hx2⟩:=qad hx2
     refine Aw 24 33554431 (fun w' hw=>qdC g12 rfl rfl) (h.pick [] rfl) rfl ?_
     rw [hx2]
     refine M0 67108863 [25] (h.pick [] rfl) rfl (Ad ?_)
     replace h:=h.pick [1] rfl
     exact rG ⟨rfl,h⟩ rfl
    refine qhG r1 h (cB 81 rfl) (qdP (qar _ (h.oldS s7) (h.oldS s8) (h.oldS s9)) (qbk _ (h.oldS s6)) (qeM y6) hr6) rfl rfl rfl rfl fun w16 h=>Ag (h.pick [] rfl) (Ao 1 8388583 rfl (qT qc [.const (.string (⟨#[32,102,114,111,109,32]⟩:ByteArray)),.const (.string (⟨#[32,116,104,114,111,117,103,104,32]⟩:ByteArray)),.const (.string (⟨#[32,116,111,32]⟩:ByteArray))] _ ([(⟨#[32,102,114,111,109,32]⟩:ByteArray),(⟨#[32,116,104,114,111,117,103,104,32]⟩:ByteArray),(⟨#[32,116,111,32]⟩:ByteArray)]:List ByteArray) h rfl rfl rfl rfl rfl rfl rfl rfl rfl ⟨rfl,rfl,rfl,trivial⟩ rfl fun w17 p21 S6 h=>Ag (h.pick [] rfl) ?_))
    have he11:=qa9 hy5
    obtain ⟨b11,o_11,q10,cs13,hp10,hq10,-,hr12,hc13⟩:=(h.sl 0 rfl).1.at hy5
    obtain rfl:=hr12
    refine Ax 3 8388591 hp10 hq10 ⟨he11.1,qap he11.2.1 (h.sl 0 rfl).2⟩ (h.pick [] rfl) rfl (Ao 4 8388607 rfl (r_v (qhN qc (qdK (w1:=w) (S1:=fun _=>False) h 0 rfl hy5 hp10 hq10 rfl) (j:=0) rfl rfl rfl) rfl (Ag (h.pick [] rfl) ?_)))
    obtain ⟨g13,hx1⟩:=qad hx1
    refine Aw 23 16777215 (fun w' hw=>qdC g13 rfl rfl) (h.pick [] rfl) rfl ?_
    rw [hx1]
    obtain ⟨g14,hx2⟩:=qad hx2
    refine Aw 24 33554431 (fun w' hw=>qdC g14 rfl rfl) (h.pick [] rfl) rfl ?_
    rw [hx2]
    refine M0 67108863 [25] (h.pick [] rfl) rfl (Ad ?_)
    replace h:=h.pick [1] rfl
    exact rG ⟨rfl,h⟩ rfl
   rintro e3 w18 ⟨rfl,h⟩
   exact X0 5 rfl (rK ⟨_,_,hF,rfl,h⟩ rfl)
  refine qq rfl ?_
  obtain rfl:=qa hF;replace hF:=hK2
  exact X0 5 rfl (rK ⟨_,_,hF,rfl,h⟩ rfl)
 refine qq rfl ?_
 obtain rfl:=qa hF;replace hF:=hK1
 refine X0 5 rfl ?_
 obtain rfl:=qa hF
 exact qaj qc (ρ:=ByteArray) [_] h ⟨rfl,trivial⟩ (qdr _ _)
def qbA (n:Nat) (b:qm) (a_e:qk):Option ByteArray :=
 (qge n b).bind fun r1 =>
 bif (!r1) then some (⟨#[]⟩:ByteArray) else
 (qgq n b).bind fun r2 =>
 (qcv n r2 a_e).bind fun r3 =>
 bif (!r3) then some (⟨#[]⟩:ByteArray) else
 (qbW n r2 a_e).bind fun r4 =>
 some r4
theorem qhK {b:qm} {a_e:qk} (ha1:Ro w b cs1) (ha2:Ro w a_e cs2) (hgv0:GV 0 (exWords.map Value.string) w (old w)) (hgv2:GV 2 (Lib.pow10Tab.map (Value.int .u64)) w (old w)) {r:ByteArray} (hF:qbA n b a_e=some r):RetV Tryz.prog 11 [GoT.v qm cs1,GoT.v qk cs2] w r:=by
 obtain ⟨p1,k1,p2,k2,p3,k3,p4,k4,p5,k5,rfl,s1,s2,s3,s4,s5⟩:=qU ha1
 obtain ⟨p6,k6,p7,k7,p8,k8,rfl,s6,s7,s8⟩:=qac ha2
 refine zV 18 Tryz.func11 rfl fun h=>zSR (qr h rfl rfl fun w1 bb1 h=>qr h rfl rfl fun w2 bb2 h=>X1 6 1 h rfl (zcB h hF (qj7 (h.old ha1)) rfl fun r1 w3 h hF=>X0 2 rfl (qf rfl hF ?_ ?_)))<;>intro hF
 ·refine X0 4 rfl ?_
  obtain rfl:=qa hF
  exact qaj qc (ρ:=ByteArray) [_] h ⟨rfl,trivial⟩ (qdr _ _)
 refine X1 4 1 h rfl ?_
 have hg1:Rg (old w) w (old w) w:=.start (fun _ h=>h)
 obtain ⟨r2,hr2,hF⟩:=qe hF
 refine qpd r2 hg1 h (cB 37 rfl) (qj5 (hg1.regOld h) (hg1.inR h ha1) hr2) rfl rfl rfl rfl fun w4 us1 B1 hg2 hu1 hz1 hv1=>?_
 have hL1:=h.ext hu1.below
 have hc2:=Up.box 0 h hu1 rfl
 have s9:=Up.S hg1 h hu1 s6
 have s10:=Up.S hg1 h hu1 s7
 have s11:=Up.S hg1 h hu1 s8
 have s12:=Up.R hg1 h hu1 ha2
 have ha3:=Up.boxP (x:=a_e) hg1 0 h hu1 rfl (hg1.inR h ha2)
 have s13:=Up.R hg1 h hu1 hgv0
 have s14:=Up.R hg1 h hu1 hgv2
 have hb1:=h.below.trans (hu1.below.mono h.below.size)
 replace h:=hz1
 obtain ⟨cs3,rfl,hr3⟩:=qqj hv1
 obtain ⟨p9,rfl,s15⟩:=qkX hr3
 refine X0 6 rfl (zc 0 (hc2.below h.below) rfl (zcB h hF (qhb (h.old (GoT.mono s15 hg2.old)) (h.old (GoT.mono s12 hg2.old))) rfl fun r3 w5 h hF=>X0 2 rfl (qf rfl hF ?_ ?_)))<;>intro hF
 ·refine X0 4 rfl ?_
  replace h:=h.unbase hg2.below (show NoD [] from trivial)
  obtain rfl:=qa hF
  exact qaj qc (ρ:=ByteArray) [_] h ⟨rfl,trivial⟩ (qdr _ _)
 refine X0 4 rfl (zc 0 (hc2.below h.below) rfl (zcS h hF (qgC (h.old (GoT.mono s15 hg2.old)) (h.old (GoT.mono s12 hg2.old)) (h.old (GoT.mono s13 hg2.old)) (h.old (GoT.mono s14 hg2.old))) rfl fun r4 w6 h hF=>X0 2 rfl ?_))
 replace h:=h.unbase hg2.below (show NoD [] from trivial)
 obtain rfl:=qa hF
 exact qaj qc (ρ:=ByteArray) [_] h ⟨rfl,trivial⟩ (qdr _ _)
end Go.Fw


namespace Go.Fw
open Go
set_option maxRecDepth 100000
theorem qoF:∃ F:ByteArray→ByteArray→ByteArray,∀ a b,F a b=a++b:=⟨fun a b=>a++b,fun _ _=>rfl⟩
noncomputable def apB:ByteArray→ByteArray→ByteArray:=Classical.choose qoF
theorem ql3 (a b:ByteArray):apB a b=a++b:=Classical.choose_spec qoF a b
theorem qbz (a b:ByteArray):(apB a b).size=a.size+b.size:=by rw [ql3,ByteArray.size_append]
theorem qjk (a b c:ByteArray):apB (apB a b) c=apB a (apB b c):=by simp only [ql3,ByteArray.append_assoc]
theorem qi2 (a b:ByteArray):(apB a b).data=a.data++b.data:=by rw [ql3,ByteArray.data_append]
theorem qpz (a:ByteArray):apB a ⟨#[]⟩=a:=by
 refine ByteArray.ext ?_
 rw [qi2]
 exact Array.append_empty
theorem catK {a b:ByteArray} (h:a.size+b.size≤1073741824):catB a b=some (apB a b):=by
 unfold catB
 rw [ql3]
 exact if_pos (by show ((a.size+b.size:Nat):Int)≤9223372036854775807;omega)
theorem bN {α β:Type} {o:Option α} {a:α} {f:α→Option β} {r:Option β} (h:o=some a) (k:f a=r):o.bind f=r:=by rw [h];exact k
theorem cF {α:Type} {c:Bool} {a b r:α} (h:c=false) (k:b=r):(bif c then a else b)=r:=by rw [h];exact k
theorem cT {α:Type} {c:Bool} {a b r:α} (h:c=true) (k:a=r):(bif c then a else b)=r:=by rw [h];exact k
def decT (n:Int):ByteArray:=⟨(Lib.itoa n).toArray⟩
theorem qjp {n:Int} (h0:0≤n) (h1:n≤1000000000):(decT n).size≤21:=by
 have:=Lib.itoa_length_le n (by omega) (by omega)
 unfold decT
 show (Lib.itoa n).toArray.size≤21
 simpa using this
theorem qjy {u:Nat} (h:u<10):strOf ([(⟨IntKind.wrap .u8 (W64 (48+(u:Int)))⟩:IntK .u8)])=⟨#[UInt8.ofNat (48+u)]⟩:=by
 have:∀ v:Fin 10,strOf ([(⟨IntKind.wrap .u8 (W64 (48+((v.val:Nat):Int)))⟩:IntK .u8)])=⟨#[UInt8.ofNat (48+v.val)]⟩:=by decide
 exact this ⟨u,h⟩
theorem qnz:∀ (d u:Nat),u<10 ^ (d+1)→d≤15→Ev (fun n=>qaV n (u:Int)) ⟨(Lib.decDigits u).toArray⟩:=by
 intro d
 induction d with
 | zero =>
  intro u hu _
  refine Ev.succ ?_
  simp only [qaV]
  rw [Lib.decDigits,dif_pos (by omega)]
  exact Ev.ff (by simp) (Ev.tt (by simp;omega) (Ev.now (by rw [qjy (by omega)])))
 | succ d ih =>
  intro u hu hd
  have hp:(10:Nat) ^ (d+1+1)=10*10 ^ (d+1):=by rw [Nat.pow_succ,Nat.mul_comm]
  have hb:(10:Nat) ^ (d+1+1)≤10 ^ 17:=Nat.pow_le_pow_right (by decide) (by omega)
  refine Ev.succ ?_
  simp only [qaV]
  refine Ev.ff (by simp) ?_
  by_cases h10:u<10
  ·rw [Lib.decDigits,dif_pos h10]
   exact Ev.tt (by simp;omega) (Ev.now (by rw [qjy h10]))
  ·rw [Lib.decDigits,dif_neg h10]
   refine Ev.ff (by simp;omega) ?_
   have hq:W64 ((u:Int).tdiv 10)=((u / 10:Nat):Int):=by
    rw [Int.tdiv_eq_ediv_of_nonneg (by omega),qew (by omega) (by omega)];omega
   have hr:(u:Int).tmod 10=((u % 10:Nat):Int):=by rw [Int.tmod_eq_emod_of_nonneg (by omega)];omega
   simp only [hq,hr,qjy (show u % 10<10 by omega)]
   refine Ev.bind (ih (u / 10) (by omega) (by omega)) ?_
   have hl:(Lib.decDigits (u / 10)).length≤21:=by
    have:=Lib.itoa_length_le ((u / 10:Nat):Int) (by omega) (by omega)
    rwa [Lib.itoa_nonneg] at this
   have hsz:(⟨(Lib.decDigits (u / 10)).toArray⟩:ByteArray).size≤21:=by
    show (Lib.decDigits (u / 10)).toArray.size≤21
    simpa using hl
   refine Ev.bindN (catK (b:=⟨#[UInt8.ofNat (48+u % 10)]⟩) (by have:(⟨#[UInt8.ofNat (48+u % 10)]⟩:ByteArray).size=1:=rfl;omega)) (Ev.now ?_)
   refine congrArg some (ByteArray.ext ?_)
   rw [qi2]
   simp
theorem qpb {v:Int} (h0:0≤v) (h1:v≤1000000000):Ev (fun n=>qaV n v) (decT v):=by
 obtain ⟨u,rfl⟩:∃ u:Nat,v=(u:Int):=⟨v.toNat,by omega⟩
 unfold decT
 rw [Lib.itoa_nonneg]
 exact qnz 9 u (by omega) (by decide)
theorem qmW {n:Nat} {v:Int} (h0:0≤v) (h1:v≤1000000000):qgg n v=some (decT v):=by
 unfold qgg qdV
 rw [if_pos ⟨rfl,by omega,by omega⟩]
 rfl
noncomputable def nmP (b:qm) (p:Tplace):ByteArray :=
 bif decide (p.instance_<0) then (gt b.Ab.Ac p.pin.toNat).Am else apB (apB (gt b.Ab.Aa p.instance_.toNat).Am ⟨#[47]⟩) (gt (cellAt b p.instance_).Ak p.pin.toNat).Am
theorem qkf {b:qm} (hok:qb3 b) (h:blockB b=true) {j n:Nat} (hj:j<(places b.Ab).length) :
  qcs n b.Ab b.Aq (gt (places b.Ab) j)=some (nmP b (gt (places b.Ab) j))∧qeR n b.Aq b.Ab (toSp (gt (places b.Ab) j))=some (nmP b (gt (places b.Ab) j))∧(nmP b (gt (places b.Ab) j)).size≤2097153:=by
 rcases qjL hj with ⟨i,k,hi,hk,_,e⟩|⟨i,hi,_,e⟩
 ·obtain ⟨⟨c0,c1⟩,hn,_⟩:=qjn (qc0 h) hi
  have hc:(gt b.Ab.Aa i).Be.toNat<b.Aq.Aj.length:=by omega
  have hk':k<(gt b.Aq.Aj (gt b.Ab.Aa i).Be.toNat).Ak.length:=by omega
  have s1:(gt b.Ab.Aa i).Am.size≤1048576:=(qgL hok.Ab.Aa hi).Am
  have s2:(gt (gt b.Aq.Aj (gt b.Ab.Aa i).Be.toNat).Ak k).Am.size≤1048576:=(qgL (qgL hok.Aq.Aj hc).Ak hk').Am
  have s3:(⟨#[47]⟩:ByteArray).size=1:=rfl
  have hneg:∀ D:Decidable ((place1 b.Ab i k).instance_<0),@decide ((place1 b.Ab i k).instance_<0) D=false:=fun D=>by
   cases D with
   | isFalse=>rfl
   | isTrue hh=>exact absurd hh (by show ¬ ((i:Int)<0);omega)
  have g1:=catK (show (gt b.Ab.Aa i).Am.size+(⟨#[47]⟩:ByteArray).size≤1073741824 by omega)
  have g2:=catK (show (apB (gt b.Ab.Aa i).Am ⟨#[47]⟩).size+(gt (gt b.Aq.Aj (gt b.Ab.Aa i).Be.toNat).Ak k).Am.size≤1073741824 by rw [qbz];omega)
  have hi1:idx b.Ab.Aa (place1 b.Ab i k).instance_=some (gt b.Ab.Aa i):=qM hi
  have hk1:idx (gt b.Aq.Aj (gt b.Ab.Aa i).Be.toNat).Ak (place1 b.Ab i k).pin=some (gt (gt b.Aq.Aj (gt b.Ab.Aa i).Be.toNat).Ak k):=qM hk'
  have en:nmP b (place1 b.Ab i k)=apB (apB (gt b.Ab.Aa i).Am ⟨#[47]⟩) (gt (gt b.Aq.Aj (gt b.Ab.Aa i).Be.toNat).Ak k).Am:=by
   unfold nmP cellAt
   rw [hneg]
   simp only [cond_false,place1,jE]
  rw [e,en]
  refine ⟨?_,?_,?_⟩
  ·unfold qcs
   exact cF (hneg _) (bN hi1 (bN g1 (bN (qeK c0 c1) (bN hk1 (bN g2 rfl)))))
  ·unfold qeR toSp
   exact cF (hneg _) (bN hi1 (bN g1 (bN (qeK c0 c1) (bN hk1 (bN g2 rfl)))))
  ·rw [qbz,qbz]
   omega
 ·have s1:(gt b.Ab.Ac i).Am.size≤1048576:=(qgL hok.Ab.Ac hi).Am
  have hneg:∀ D:Decidable ((place2 b.Ab i).instance_<0),@decide ((place2 b.Ab i).instance_<0) D=true:=fun D=>by
   cases D with
   | isTrue=>rfl
   | isFalse hh=>exact absurd (show (-1:Int)<0 by decide) hh
  have hi1:idx b.Ab.Ac (place2 b.Ab i).pin=some (gt b.Ab.Ac i):=qM hi
  have en:nmP b (place2 b.Ab i)=(gt b.Ab.Ac i).Am:=by
   unfold nmP
   rw [hneg]
   simp only [cond_true,place2,jE]
  rw [e,en]
  refine ⟨?_,?_,by omega⟩
  ·unfold qcs
   exact cT (hneg _) (bN hi1 rfl)
  ·unfold qeR toSp
   exact cT (hneg _) (bN hi1 rfl)
theorem ql1 {b:qm} (hok:qb3 b) (h:blockB b=true) {j:Nat} (hj:j<(places b.Ab).length):Ev (fun n=>qeY n b.Aq b.Ab (j:Int)) (nmP b (gt (places b.Ab) j)):=by
 unfold qeY
 refine Ev.bind (qo3 hok h hj) ?_
 exact Ev.bind (b:=nmP b (gt (places b.Ab) j)) (.now (qkf (n:=0) hok h hj).2.1) .done
noncomputable def wds (b:qm) (word:ByteArray) (xs:List Int):Nat→ByteArray
 | 0=>⟨#[]⟩
 | j+1=>apB (wds b word xs j) (apB word (nmP b (gt (places b.Ab) (at0 xs j).toNat)))
theorem qiZ {b:qm} {word:ByteArray} {xs:List Int} (hok:qb3 b) (h:blockB b=true) (hw:word.size≤16) (hp:allN (fun j=>inPl b (at0 xs j)) xs.length=true):∀ j,j≤xs.length→(wds b word xs j).size≤j*2097169
 | 0,_=>by have:(⟨#[]⟩:ByteArray).size=0:=rfl;simp only [wds];omega
 | j+1,hj=>by
  have ih:=qiZ hok h hw hp j (by omega)
  have hx:=qbp.1 (qW.1 hp j (by omega))
  have:=(qkf (n:=0) hok h (show (at0 xs j).toNat<(places b.Ab).length by omega)).2.2
  simp only [wds,qbz]
  omega
theorem qkE {b:qm} {word ww:ByteArray} {xs:List Int} (hok:qb3 b) (h:blockB b=true) (hw:ww.size≤16) (he:apB (apB ⟨#[32]⟩ word) ⟨#[32]⟩=ww) (hp:plsB b xs=true):Ev (fun n=>qdN n b word xs) (wds b ww xs xs.length):=by
 unfold plsB at hp
 simp only [jg,decide_eq_true_eq] at hp
 obtain ⟨hl,hp⟩:=hp
 have hs:(⟨#[32]⟩:ByteArray).size=1:=rfl
 have hw':word.size+2≤16:=by rw [←he] at hw;simp only [qbz] at hw;omega
 have e0:wds b ww xs 0=⟨#[]⟩:=rfl
 have hL:Ev (fun n=>qbC b word xs n (wds b ww xs 0) 0) (wds b ww xs xs.length,(xs.length:Int)):=by
  refine loopF (len:=xs.length) (Lf:=fun n z i=>qbC b word xs n z i) (fun j=>wds b ww xs j) (fun n=>?_) (fun j hj X hX=>?_)
  ·simp only [qbC,qj (je _),cond_false]
  ·have hz:=qiZ hok h hw hp j (by omega)
   have hx:=qbp.1 (qW.1 hp j hj)
   have hjp:(at0 xs j).toNat<(places b.Ab).length:=by omega
   have hn:=(qkf (n:=0) hok h hjp).2.2
   have hq:=ql1 hok h hjp
   rw [←qjw hx.1] at hq
   simp only [qbC]
   refine Ev.tt (qi hj) ?_
   refine Ev.bindN (catK (by omega)) (Ev.bindN (catK (by simp only [qbz];omega)) (Ev.bindN (catK (by simp only [qbz];omega)) (Ev.bindN (qbc hj) (Ev.bind hq (Ev.bindN (catK (by simp only [qbz];omega)) ?_)))))
   rw [wS j]
   have e2:apB (apB (apB (apB (wds b ww xs j) ⟨#[32]⟩) word) ⟨#[32]⟩) (nmP b (gt (places b.Ab) (at0 xs j).toNat))=wds b ww xs (j+1):=by
    simp only [wds,←he,qjk]
   rw [e2]
   exact hX
 unfold qdN
 rw [e0] at hL
 exact Ev.bind hL .done
theorem qjm {b:qm} {V:Tview} {ww z:ByteArray} {i:Int} {xs:List Int} (hok:qb3 b) (h:blockB b=true) (hV:V.Bi=b) (hP:V.places=places b.Ab) (hw:ww.size≤16) (hz:z.size≤100000000)
  (hi:idx ([(⟨#[32,102,114,111,109,32]⟩:ByteArray),(⟨#[32,116,104,114,111,117,103,104,32]⟩:ByteArray),(⟨#[32,116,111,32]⟩:ByteArray)]:List ByteArray) i=some ww) (hp:plsB b xs=true) :
  Ev (fun n=>qQ (some V) i xs n z 0) (apB z (wds b ww xs xs.length),(xs.length:Int)):=by
 unfold plsB at hp
 simp only [jg,decide_eq_true_eq] at hp
 obtain ⟨hl,hp⟩:=hp
 have e0:apB z (wds b ww xs 0)=z:=qpz z
 have hL:Ev (fun n=>qQ (some V) i xs n (apB z (wds b ww xs 0)) 0) (apB z (wds b ww xs xs.length),(xs.length:Int)):=by
  refine loopF (len:=xs.length) (Lf:=fun n z i1=>qQ (some V) i xs n z i1) (fun j=>apB z (wds b ww xs j)) (fun n=>?_) (fun j hj X hX=>?_)
  ·simp only [qQ,qj (je _),cond_false]
  ·have hz:=qiZ hok h hw hp j (by omega)
   have hx:=qbp.1 (qW.1 hp j hj)
   have hjp:(at0 xs j).toNat<(places b.Ab).length:=by omega
   have hn:=qkf (n:=0) hok h hjp
   have hq:idx V.places (at0 xs j)=some (gt (places b.Ab) (at0 xs j).toNat):=by
    have hh:=qM hjp
    rw [←qjw hx.1] at hh
    rw [hP,hh]
   subst hV
   simp only [qQ,qi hj,cond_true,jd]
   refine Ev.bindN (qbc hj) (Ev.bindN hi (Ev.bindN hq (Ev.bind (.now hn.1) (Ev.bindN (catK (by omega)) (Ev.bindN (catK (by simp only [qbz];omega)) ?_)))))
   rw [wS j]
   have e2:apB (apB z (wds V.Bi ww xs j)) (apB ww (nmP V.Bi (gt (places V.Bi.Ab) (at0 xs j).toNat)))=apB z (wds V.Bi ww xs (j+1)):=by
    simp only [wds,qjk]
   rw [e2]
   exact hX
 rwa [e0] at hL
def wFrom:ByteArray:=⟨#[32,102,114,111,109,32]⟩
def wThr:ByteArray:=⟨#[32,116,104,114,111,117,103,104,32]⟩
def wTo:ByteArray:=⟨#[32,116,111,32]⟩
def kwE (k:Int):ByteArray:=gt exWords k.toNat
noncomputable def headE (e:qk):ByteArray:=bif e.Ap != 1 then apB (kwE e.Ap) (apB ⟨#[32]⟩ (decT e.Bg)) else kwE e.Ap
noncomputable def txtE (b:qm) (e:qk):ByteArray:=apB (apB (apB (headE e) (wds b wFrom e.Av e.Av.length)) (wds b wThr e.Au e.Au.length)) (wds b wTo e.To e.To.length)
theorem eWord {w ww:ByteArray} (h:#[(32:UInt8)]++w.data++#[(32:UInt8)]=ww.data):apB (apB ⟨#[32]⟩ w) ⟨#[32]⟩=ww:=by
 refine ByteArray.ext ?_
 rw [qi2,qi2]
 exact h
theorem ewFrom:apB (apB ⟨#[32]⟩ ⟨#[102,114,111,109]⟩) ⟨#[32]⟩=wFrom:=eWord (by decide)
theorem ewThr:apB (apB ⟨#[32]⟩ ⟨#[116,104,114,111,117,103,104]⟩) ⟨#[32]⟩=wThr:=eWord (by decide)
theorem ewTo:apB (apB ⟨#[32]⟩ ⟨#[116,111]⟩) ⟨#[32]⟩=wTo:=eWord (by decide)
theorem qig {k v:Int} (h:valB k v=true):(1≤k∧k≤4)∧0≤v∧v≤1000000000:=by
 unfold valB at h
 by_cases h1:k=1
 ·subst h1;simp at h;omega
 ·by_cases h2:k=2
  ·subst h2;simp [inI] at h;omega
  ·by_cases h3:k=3
   ·subst h3;simp [inI] at h;omega
   ·by_cases h4:k=4
    ·subst h4;simp [inI] at h;omega
    ·simp [h1,h2,h3,h4] at h
theorem qkN {k:Int} (h:1≤k∧k≤4):(kwE k).size≤6:=by
 obtain ⟨h1,h2⟩:=h
 obtain rfl|rfl|rfl|rfl:k=1∨k=2∨k=3∨k=4:=by omega
 all_goals decide
theorem qk0 {e:qk} (h:valB e.Ap e.Bg=true):(headE e).size≤28:=by
 obtain ⟨hk,h0,h1⟩:=qig h
 have a1:=qkN hk
 have a2:=qjp h0 h1
 have a3:(⟨#[32]⟩:ByteArray).size=1:=rfl
 unfold headE
 cases (e.Ap != 1)
 ·simp only [cond_false];omega
 ·simp only [cond_true,qbz];omega
theorem qiW {b:qm} {ww:ByteArray} {xs:List Int} (hok:qb3 b) (h:blockB b=true) (hw:ww.size≤16) (hp:plsB b xs=true):(wds b ww xs xs.length).size≤8388676:=by
 unfold plsB at hp
 simp only [jg,decide_eq_true_eq] at hp
 have:=qiZ hok h hw hp.2 xs.length (je _)
 have:xs.length*2097169≤4*2097169:=jm _ hp.1
 omega
theorem qks {b:qm} {e:qk} (h:excB b e=true):plsB b e.Av=true∧plsB b e.Au=true∧plsB b e.To=true∧valB e.Ap e.Bg=true:=by
 unfold excB at h
 simp only [jg] at h
 exact ⟨h.1.1,h.1.2.1,h.1.2.2,h.2.1⟩
theorem qjA {b:qm} {V:Tview} {e:qk} (hok:qb3 b) (h:blockB b=true) (hV:V.Bi=b) (hP:V.places=places b.Ab) (he:excB b e=true):Ev (fun n=>qbW n (some V) e) (txtE b e):=by
 obtain ⟨p1,p2,p3,hv⟩:=qks he
 obtain ⟨hk,h0,h1⟩:=qig hv
 have hs:=qk0 hv
 have s1:=qiW (ww:=wFrom) hok h (by decide) p1
 have s2:=qiW (ww:=wThr) hok h (by decide) p2
 have hL:Ev (fun n=>qR (some V) e n (headE e) 0) (txtE b e,3):=by
  refine Ev.succ ?_
  simp only [qR]
  refine Ev.tt rfl (Ev.bindN (b:=e.Av) rfl (Ev.bind (qjm (ww:=wFrom) hok h hV hP (by decide) (by omega) rfl p1) (Ev.succ ?_)))
  simp only [qR]
  refine Ev.tt rfl (Ev.bindN (b:=e.Au) rfl (Ev.bind (qjm (ww:=wThr) hok h hV hP (by decide) (by rw [qbz];omega) rfl p2) (Ev.succ ?_)))
  simp only [qR]
  refine Ev.tt rfl (Ev.bindN (b:=e.To) rfl (Ev.bind (qjm (ww:=wTo) hok h hV hP (by decide) (by rw [qbz,qbz];omega) rfl p3) (Ev.succ ?_)))
  simp only [qR]
  exact Ev.ff rfl .done
 unfold qbW
 have hkw:idx exWords e.Ap=some (kwE e.Ap):=by
  have hh:=qM (xs:=exWords) (j:=e.Ap.toNat) (by show e.Ap.toNat<5;omega)
  rw [←qjw (show 0≤e.Ap by omega)] at hh
  exact hh
 refine Ev.bindN hkw ?_
 refine Ev.bind (b:=headE e) ?_ (Ev.bind hL .done)
 have a1:=qkN hk
 have a2:=qjp h0 h1
 have a3:(⟨#[32]⟩:ByteArray).size=1:=rfl
 unfold headE
 cases (e.Ap != 1)
 ·exact .done
 ·exact Ev.tt rfl (Ev.bind (.now (qmW (n:=0) h0 h1)) (Ev.bindN (catK (by omega)) (Ev.bindN (catK (by rw [qbz];omega)) .done)))
theorem qo6 {b:qm} {e:qk} (hok:qb3 b) (he:qds e):Ev (fun n=>qbF n b e) (bif blockB b&&excB b e then txtE b e else ByteArray.empty):=by
 unfold qbF
 refine Ev.bind (qjP hok he) ?_
 cases hb:(blockB b&&excB b e)
 ·exact .done
 ·simp only [jg] at hb
  obtain ⟨h,hx⟩:=hb
  obtain ⟨p1,p2,p3,hv⟩:=qks hx
  obtain ⟨hk,h0,h1⟩:=qig hv
  have hs:=qk0 hv
  have s1:=qiW (ww:=wFrom) hok h (by decide) p1
  have s2:=qiW (ww:=wThr) hok h (by decide) p2
  have s3:=qiW (ww:=wTo) hok h (by decide) p3
  refine Ev.ff rfl ?_
  have hkw:idx ([(⟨#[102,97,108,115,101]⟩:ByteArray),(⟨#[99,121,99,108,101,115]⟩:ByteArray),(⟨#[109,97,120]⟩:ByteArray),(⟨#[109,105,110]⟩:ByteArray)]:List ByteArray) (W64 (e.Ap-1))=some (kwE e.Ap):=by
   obtain hq|hq|hq|hq:e.Ap=1∨e.Ap=2∨e.Ap=3∨e.Ap=4:=by omega
   all_goals rw [hq];rfl
  refine Ev.bindN hkw ?_
  have a1:=qkN hk
  have a2:=qjp h0 h1
  have a3:(⟨#[32]⟩:ByteArray).size=1:=rfl
  refine Ev.bind (b:=headE e) ?_ ?_
  ·unfold headE
   cases (e.Ap != 1)
   ·exact .done
   ·refine Ev.tt rfl ?_
    refine Ev.bindN (catK (by omega)) (Ev.bind (qpb h0 h1) (Ev.bindN (catK (by rw [qbz];omega)) (Ev.now ?_)))
    rw [qjk,cond_true]
  ·refine Ev.bind (qkE (ww:=wFrom) hok h (by decide) ewFrom p1) (Ev.bindN (catK (by omega)) (Ev.bind (qkE (ww:=wThr) hok h (by decide) ewThr p2) (Ev.bindN (catK (by rw [qbz];omega)) (Ev.bind (qkE (ww:=wTo) hok h (by decide) ewTo p3) (Ev.bindN (catK (by rw [qbz,qbz];omega)) ?_)))))
   exact .done
theorem qor {b:qm} {e:qk} (hok:qb3 b) (he:qds e):Ev (fun n=>qbA n b e) (bif blockB b&&excB b e then txtE b e else ByteArray.empty):=by
 unfold qbA
 refine Ev.bind (qnk hok) ?_
 cases h:blockB b
 ·exact .done
 ·simp only [jI,cond_false,jx]
  obtain ⟨ls,lo,de,ev⟩:=qm6 h
  refine Ev.bind ev (Ev.bind (qkt h rfl he) ?_)
  cases hx:excB b e
  ·exact .done
  ·simp only [jI,cond_false,cond_true]
   exact Ev.bind (qjA hok h rfl rfl hx) .done
theorem qjr {b:qm} {e:qk} (hok:qb3 b) (he:qds e):∃ R:ByteArray,Ev (fun n=>qbF n b e) R∧Ev (fun n=>qbA n b e) R :=
 ⟨_,qo6 hok he,qor hok he⟩
end Go.Fw


namespace Go.Fw
open Go Go.Proofs
open Go.RowKit (Below)
set_option maxRecDepth 100000
set_option maxHeartbeats 6400000
variable {n:Nat} {w:World} {cs1 cs2 cs3 cs4 cs5 cs6 cs7 cs8 cs9:List Value}
def qcz (n:Nat) (aB:qm) (aE:qk):Option Bool :=
 (qgm n aB 1048576).bind fun r1 =>
 bif decide (r1<0) then some true else
 (qed n aE r1).bind fun r2 =>
 bif decide (r2<0) then some true else
 (qes n aB).bind fun r3 =>
 (qcf n aE).bind fun r4 =>
 (qbF n r3 r4).bind fun r5 =>
 (qes n aB).bind fun r6 =>
 (qcf n aE).bind fun r7 =>
 (qbA n r6 r7).bind fun r8 =>
 bif (r8.toList != r5.toList) then some false else
 (qes n aB).bind fun r9 =>
 (qgb n r6 r9).bind fun r10 =>
 bif (!r10) then some false else
 (qcf n aE).bind fun r11 =>
 (qeg n r7 r11).bind fun r12 =>
 bif (!r12) then some false else
 some true
theorem qfZ {aB:qm} {aE:qk} (ha1:Ro w aB cs1) (ha2:Ro w aE cs2) (hgv0:GV 0 (exWords.map Value.string) w (old w)) (hgv2:GV 2 (Lib.pow10Tab.map (Value.int .u64)) w (old w)) {r:Bool} (hF:qcz n aB aE=some r):RetV Tryz.prog 3 [GoT.v qm cs1,GoT.v qk cs2] w r:=by
 obtain ⟨p1,k1,p2,k2,p3,k3,p4,k4,p5,k5,rfl,s1,s2,s3,s4,s5⟩:=qU ha1
 obtain ⟨p6,k6,p7,k7,p8,k8,rfl,s6,s7,s8⟩:=qac ha2
 refine zV 45 Tryz.func3 rfl fun h=>zSR (qr h rfl rfl fun w1 bb1 h=>qr h rfl rfl fun w2 bb2 h=>X1 10 1 h rfl (zcI h hF (qj3 (h.old ha1)) rfl fun r1 w3 h hF=>X0 8 rfl (qf rfl hF ?_ ?_)))<;>intro hF
 ·exact X0 4 rfl (rb h hF rfl)
 refine X1 5 0 h rfl (zcI h hF (qis (h.old ha2)) rfl fun r2 w4 h hF=>X0 8 rfl (qf rfl hF ?_ ?_))<;>intro hF
 ·exact X0 4 rfl (rb h hF rfl)
 refine zKS (rA [] [0,1] h rfl fun w5 h=>M2 5 [0,2] 1 0 (h.pick [0,1] rfl) rfl (Ao 1 7 rfl (zcO h hF (qf0 (h.old ha1)) rfl fun r3 w6 S1 cs3 h hF=>?_)))
 obtain ⟨p9,k9,p10,k10,p11,k11,p12,k12,p13,k13,rfl,-,-,-,-,-⟩:=qU (h.own 0 rfl)
 refine Ag (h.pick [1,2] rfl) (Ao 3 15 rfl (zcO h hF (qev (h.old ha2)) rfl fun r4 w7 S2 cs4 h hF=>?_))
 obtain ⟨p14,k14,p15,k15,p16,k16,rfl,-,-,-⟩:=qac (h.own 0 rfl)
 refine Ag (h.pick [2,3] rfl) (Ao 4 31 rfl (zcS h hF (qhP (h.own 1 rfl) (h.own 0 rfl)) rfl fun r5 w8 h hF=>G0 63 [5] (h.pick [2,3] rfl) rfl (Ad (X1 3 3 h rfl (zcO h hF (qf0 (h.old ha1)) rfl fun r6 w9 S3 cs5 h hF=>?_)))))
 obtain ⟨p17,k17,p18,k18,p19,k19,p20,k20,p21,k21,rfl,-,-,-,-,-⟩:=qU (h.own 0 rfl)
 refine qC qc h rfl rfl rfl fun w10 bb3 h=>zs 0 h rfl fun w11 h=>X1 4 4 h rfl (zcO h hF (qev (h.old ha2)) rfl fun r7 w12 S4 cs6 h hF=>?_)
 obtain ⟨p22,k22,p23,k23,p24,k24,rfl,-,-,-⟩:=qac (h.own 0 rfl)
 refine qC qc h rfl rfl rfl fun w13 bb4 h=>zs 0 h rfl fun w14 h=>X2 5 2 0 h rfl (zcS h hF (qhK (h.own 3 rfl) (h.own 1 rfl) (h.old hgv0) (h.old hgv2)) rfl fun r8 w15 h hF=>X0 9 rfl (qf rfl hF ?_ ?_))<;>intro hF
 ·exact X0 4 rfl (rb h hF rfl)
 refine zKSS (rA [] [2,7] h rfl fun w16 h=>M2 3 [0,1] 0 1 (h.pick [2,7] rfl) rfl (Ao 2 7 rfl (zcO h hF (qf0 (h.old ha1)) rfl fun r9 w17 S5 cs7 h hF=>?_)))
 obtain ⟨p25,k25,p26,k26,p27,k27,p28,k28,p29,k29,rfl,-,-,-,-,-⟩:=qU (h.own 0 rfl)
 refine Ag (h.pick [3,8] rfl) (Ao 3 15 rfl (zcB h hF (qj8 (h.own 4 rfl) (h.own 0 rfl)) rfl fun r10 w18 h hF=>G0 31 [4] (h.pick [3,8] rfl) rfl (Ad (qf rfl hF ?_ ?_))))<;>intro hF
 ·exact X0 4 rfl (rb h hF rfl)
 refine zKSS (rA [] [1,7] h rfl fun w19 h=>M2 3 [0,1] 0 1 (h.pick [1,7] rfl) rfl (Ao 2 7 rfl (zcO h hF (qev (h.old ha2)) rfl fun r11 w20 S6 cs8 h hF=>?_)))
 obtain ⟨p30,k30,p31,k31,p32,k32,rfl,-,-,-⟩:=qac (h.own 0 rfl)
 refine Ag (h.pick [2,8] rfl) (Ao 3 15 rfl (zcB h hF (qit (h.own 3 rfl) (h.own 0 rfl)) rfl fun r12 w21 h hF=>G0 31 [4] (h.pick [2,8] rfl) rfl (Ad (qf rfl hF ?_ ?_))))<;>intro hF
 ·exact X0 4 rfl (rb h hF rfl)
 exact X0 5 rfl (rb h hF rfl)
end Go.Fw


namespace Go.Fw
open Go
set_option maxRecDepth 100000
theorem qi4 {b:qm} {x:qk} (hok:qb3 b) (he:qds x):∃ R:ByteArray,Ev (fun n=>qbF n b x) R∧Ev (fun n=>qbA n b x) R:=qjr hok he
theorem qhc {b:qm} {x:qk} (h0:qim b) (h1:qfC x):Ev (fun n=>qcz n b x) true:=by
 unfold qcz
 obtain ⟨r1,e1,q1⟩:=qoC (a:=b) (left:=1048576) h0 (by omega) (by omega)
 refine Ev.bind e1 ?_
 rcases q1 with q1|⟨p1,q1⟩
 ·exact Ev.tt (by simpa using q1) .done
 refine Ev.ff (by simp;omega) ?_
 obtain ⟨r2,e2,q2⟩:=qlS (a:=x) (left:=r1) h1 p1 (by omega)
 refine Ev.bind e2 ?_
 rcases q2 with q2|⟨p2,q2⟩
 ·exact Ev.tt (by simpa using q2) .done
 refine Ev.ff (by simp;omega) ?_
 have w0:qe2 b≤1048576:=by omega
 have k0:=qmY h0 w0
 have w1:qbR x≤1048576:=by omega
 have k1:=qkG h1 w1
 obtain ⟨R0,hs,hi⟩:=qi4 (b:=b) (x:=x) k0 k1
 refine Ev.bind (qkF w0) ?_
 refine Ev.bind (qhB w1) ?_
 refine Ev.bind hs ?_
 refine Ev.bind (qkF w0) ?_
 refine Ev.bind (qhB w1) ?_
 refine Ev.bind hi ?_
 refine Ev.ff (by simp) ?_
 refine Ev.bind (qkF w0) ?_
 refine Ev.bind (qos w0) (Ev.ff rfl ?_)
 refine Ev.bind (qhB w1) ?_
 refine Ev.bind (qlQ w1) (Ev.ff rfl ?_)
 exact .done
end Go.Fw
