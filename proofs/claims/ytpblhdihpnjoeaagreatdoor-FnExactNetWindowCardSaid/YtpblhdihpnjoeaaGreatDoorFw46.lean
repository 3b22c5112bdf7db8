/- By a program of mine (gen.py): for each function a plain function and the proof that the code computes it. -/
import Derived.Test.YtpblhdihpnjoeaaGreatDoorB7
import Derived.Test.YtpblhdihpnjoeaaGreatDoorFw36
import Derived.Test.YtpblhdihpnjoeaaGreatDoorA2
open Option renaming bind_some → jd
open Nat renaming le_refl → je, mul_le_mul_right → jn, lt_of_lt_of_le → jp, le_of_ble_eq_true → jq, succ_mul → jB, zero_add → jL
open Bool renaming and_eq_true → jf, eq_iff_iff → ji, not_eq_true' → jx, true_and → jC
open Go.Result renaming andThen_ok → jg
open List renaming getElem?_eq_getElem → jh, length_append → jm, mem_cons_of_mem → jo, getElem?_append_left → jr, mem_cons_self → js, getElem_mem → jt, getElem?_take → ju, getElem?_append_right → jv, getElem?_toArray → jw, append_assoc → jy, eq_nil_of_length_eq_zero → jA, length_singleton → jD, size_toArray → jE, getD_eq_getElem?_getD → jF, length_map → jG, getElem_of_mem → jH, mem_of_getElem? → jI, not_mem_nil → jJ, take_length → jK, mem_cons → jM
open Go.Sem renaming run_bind → jj, run_pure → jk
open Int renaming toNat_natCast → jz

namespace Go.Fw
open Go Go.Proofs
open Go.RowKit (Below)
set_option maxRecDepth 100000
set_option maxHeartbeats 1600000
variable {n:Nat} {w:World} {cs1 cs2 cs3 cs4 cs5 cs6 cs7 cs8 cs9:List Value}
def qbo (net:Int) (r1:(List Tl05Place)):Nat→Int→Option (Flow Int Int)
 | 0,_=>none
 | n+1,i1 =>
  bif decide (i1<(r1.length:Int)) then
   (idx r1 i1).bind fun y1 =>
   bif (y1.net==net) then
    (idx r1 i1).bind fun y2 =>
    bif y2.drives then some (.ret i1) else
    qbo net r1 n (W64 (i1+1))
   else
    qbo net r1 n (W64 (i1+1))
  else
   some (.nxt i1)
def qfl (n:Nat) (d:qb) (net:Int):Option Int :=
 (qdh n d).bind fun r1 =>
 (qbo net r1 n 0).bind fun o=>match o with
 | .ret r=>some r
 | .nxt _ =>
  some (-1)
theorem qjP {d:qb} {net:Int} (ha1:GoT.R w (old w) d cs1) {r:Int} (hF:qfl n d net=some r):RetV Tryz.prog 156 [GoT.v qb cs1,.int .i64 net] w r:=by
 obtain ⟨p1,k1,p2,k2,p3,k3,rfl,s1,s2,s3⟩:=qW ha1
 refine zV 30 Tryz.func156 rfl fun h=>zSR (qt h rfl rfl fun w1 bb1 h=>X1 5 0 h rfl (zcL h hF (qfi (h.old ha1)) rfl fun r1 w2 S1 p4 k4 h hF=>X0 7 rfl ?_))
 obtain ⟨o1,hF,hK1⟩:=qg hF
 refine qm ?_
 replace h:=h.pick [0] rfl
 refine rL (fun m e w'=>∃ (i1:Int),qbo net r1 m i1=some o1∧e=[(1,.int .i64 net),(5,.slice p4 r1.length k4),(6,.int .i64 i1)]∧SH w w' [Ch.own S1 (r1:List Tl05Place) [.slice p4 r1.length k4]]) n ⟨_,hF,rfl,h⟩ rfl ?_
 rintro m1 e1 w3 ⟨i1,hF,rfl,h⟩
 rcases m1 with _|m1
 ·cases hF
 refine X0 8 rfl (qf rfl hF ?_ ?_)<;>intro hF
 ·refine X0 7 rfl ?_
  obtain ⟨y1,hy1,hF,he1,b1,_,q1,cs2,hp1,hq1,hr2,hc2⟩:=(h.sl 0 rfl).1.ix hF
  obtain rfl:=qe9 hr2
  refine zx hp1 hq1 ⟨he1.1,qak he1.2.1 (h.sl 0 rfl).2⟩ rfl (zp1 rfl (zc 2 hc2 rfl (zp3 rfl (qd (t:=22) hF rfl ?_ ?_))))<;>intro hF
  ·refine X0 5 rfl ?_
   obtain ⟨y2,hy2,hF,he2,b2,_,q2,cs3,hp2,hq2,hr3,hc3⟩:=(h.sl 0 rfl).1.ix hF
   obtain rfl:=qe9 hr3
   refine zx hp2 hq2 ⟨he2.1,qak he2.2.1 (h.sl 0 rfl).2⟩ rfl (X0 3 rfl (zc 3 hc3 rfl (X0 2 rfl (qf rfl hF ?_ ?_))))<;>intro hF
   ·refine X0 5 rfl ?_
    obtain rfl:=qa hF;replace hF:=hK1
    exact ri h hF rfl
   exact X0 7 rfl (rK ⟨_,hF,rfl,h⟩ rfl)
  exact X0 7 rfl (qd3 rfl rfl (X0 7 rfl (rK ⟨_,hF,rfl,h⟩ rfl)))
 refine qr rfl ?_
 obtain rfl:=qa hF;replace hF:=hK1
 exact X0 4 rfl (ri h hF rfl)
def qcQ (_:Nat) (a:qL):Option (List qz) :=
 bif (a.Av==2) then some ([(⟨0,0⟩:qz),(⟨0,1⟩:qz)]:List qz) else
 bif (a.Av==3) then some ([(⟨1,0⟩:qz),(⟨1,1⟩:qz)]:List qz) else
 bif (a.Av != 1) then some [] else
 bif (a.Bi==1) then some ([(⟨0,0⟩:qz),(⟨1,1⟩:qz)]:List qz) else
 bif (a.Bi==2) then some ([(⟨0,1⟩:qz),(⟨1,0⟩:qz)]:List qz) else
 some ([(⟨0,0⟩:qz),(⟨0,1⟩:qz),(⟨1,0⟩:qz),(⟨1,1⟩:qz)]:List qz)
theorem qhH {a:qL} (ha1:GoT.R w (old w) a cs1) {r:(List qz)} (hF:qcQ n a=some r):RetV Tryz.prog 247 [GoT.v qL cs1] w r:=by
 obtain ⟨p1,k1,p2,k2,rfl,s1,s2⟩:=qab ha1
 refine zV 44 Tryz.func247 rfl fun h=>zSR (qt h rfl rfl fun w1 bb1 h=>X0 4 rfl (r_v (qdy qc [0,1] [.const (.int .i64 (0)),.const (.int .i64 (0))] rfl rfl rfl rfl rfl rfl rfl rfl rfl) rfl (r_v (qdy qc [0,1] [.const (.int .i64 (1)),.const (.int .i64 (1))] rfl rfl rfl rfl rfl rfl rfl rfl rfl) rfl (qal qc [.tmp 5,.tmp 6] _ ([(⟨0,0⟩:qz),(⟨1,1⟩:qz)]:List qz) h rfl rfl rfl rfl rfl rfl rfl rfl rfl ⟨(qbu (⟨0,0⟩:qz)),(qbu (⟨1,1⟩:qz)),trivial⟩ rfl fun w2 p3 S1 h=>X0 4 rfl (r_v (qdy qc [0,1] [.const (.int .i64 (0)),.const (.int .i64 (1))] rfl rfl rfl rfl rfl rfl rfl rfl rfl) rfl (r_v (qdy qc [0,1] [.const (.int .i64 (1)),.const (.int .i64 (0))] rfl rfl rfl rfl rfl rfl rfl rfl rfl) rfl (qal qc [.tmp 8,.tmp 9] _ ([(⟨0,1⟩:qz),(⟨1,0⟩:qz)]:List qz) h rfl rfl rfl rfl rfl rfl rfl rfl rfl ⟨(qbu (⟨0,1⟩:qz)),(qbu (⟨1,0⟩:qz)),trivial⟩ rfl fun w3 p4 S2 h=>X1 11 2 h rfl (qf rfl hF ?_ ?_))))))))<;>intro hF
 ·refine zSR (r_v (qdy qc [0,1] [.const (.int .i64 (0)),.const (.int .i64 (0))] rfl rfl rfl rfl rfl rfl rfl rfl rfl) rfl (r_v (qdy qc [0,1] [.const (.int .i64 (0)),.const (.int .i64 (1))] rfl rfl rfl rfl rfl rfl rfl rfl rfl) rfl (qal qc [.tmp 15,.tmp 16] _ ([(⟨0,0⟩:qz),(⟨0,1⟩:qz)]:List qz) h rfl rfl rfl rfl rfl rfl rfl rfl rfl ⟨(qbu (⟨0,0⟩:qz)),(qbu (⟨0,1⟩:qz)),trivial⟩ rfl fun w4 p5 S3 h=>X0 2 rfl ?_)))
  obtain rfl:=qa hF
  exact rO 0 h rfl ⟨rfl,trivial⟩
 refine X1 7 2 h rfl (qf rfl hF ?_ ?_)<;>intro hF
 ·refine zSR (r_v (qdy qc [0,1] [.const (.int .i64 (1)),.const (.int .i64 (0))] rfl rfl rfl rfl rfl rfl rfl rfl rfl) rfl (r_v (qdy qc [0,1] [.const (.int .i64 (1)),.const (.int .i64 (1))] rfl rfl rfl rfl rfl rfl rfl rfl rfl) rfl (qal qc [.tmp 22,.tmp 23] _ ([(⟨1,0⟩:qz),(⟨1,1⟩:qz)]:List qz) h rfl rfl rfl rfl rfl rfl rfl rfl rfl ⟨(qbu (⟨1,0⟩:qz)),(qbu (⟨1,1⟩:qz)),trivial⟩ rfl fun w5 p6 S4 h=>X0 2 rfl ?_)))
  obtain rfl:=qa hF
  exact rO 0 h rfl ⟨rfl,trivial⟩
 refine X1 7 2 h rfl (qf rfl hF ?_ ?_)<;>intro hF
 ·refine X0 4 rfl ?_
  obtain rfl:=qa hF
  exact qax qc (ρ:=(List qz)) [GoT.v (List qz) [.slice none 0 0]] h ⟨rfl,trivial⟩ (PV.done h (qaD qqw))
 refine X1 7 2 h rfl (qf rfl hF ?_ ?_)<;>intro hF
 ·refine X0 5 rfl ?_
  obtain rfl:=qa hF
  exact rO 1 h rfl ⟨rfl,trivial⟩
 refine X1 7 2 h rfl (qf rfl hF ?_ ?_)<;>intro hF
 ·refine X0 5 rfl ?_
  obtain rfl:=qa hF
  exact rO 0 h rfl ⟨rfl,trivial⟩
 refine X0 4 rfl (r_v (qdy qc [0,1] [.const (.int .i64 (0)),.const (.int .i64 (0))] rfl rfl rfl rfl rfl rfl rfl rfl rfl) rfl (r_v (qdy qc [0,1] [.const (.int .i64 (0)),.const (.int .i64 (1))] rfl rfl rfl rfl rfl rfl rfl rfl rfl) rfl (r_v (qdy qc [0,1] [.const (.int .i64 (1)),.const (.int .i64 (0))] rfl rfl rfl rfl rfl rfl rfl rfl rfl) rfl (r_v (qdy qc [0,1] [.const (.int .i64 (1)),.const (.int .i64 (1))] rfl rfl rfl rfl rfl rfl rfl rfl rfl) rfl (qal qc [.tmp 39,.tmp 40,.tmp 41,.tmp 42] _ ([(⟨0,0⟩:qz),(⟨0,1⟩:qz),(⟨1,0⟩:qz),(⟨1,1⟩:qz)]:List qz) h rfl rfl rfl rfl rfl rfl rfl rfl rfl ⟨(qbu (⟨0,0⟩:qz)),(qbu (⟨0,1⟩:qz)),(qbu (⟨1,0⟩:qz)),(qbu (⟨1,1⟩:qz)),trivial⟩ rfl fun w6 p7 S5 h=>X0 2 rfl ?_)))))
 obtain rfl:=qa hF
 exact rO 0 h rfl ⟨rfl,trivial⟩
def qaq (first:Int) (i1:Int) (y2:qL) (r1:(List qz)):Nat→(List qT)→Int→Option ((List qT) × Int)
 | 0,_,_=>none
 | n+1,x2,i2 =>
  bif decide (i2<(r1.length:Int)) then
   (idx r1 i2).bind fun y3 =>
   (appS x2 ([(⟨W64 ((W64 (2*(W64 (first+y2.Bb))))+y3.e0),W64 ((W64 (2*(W64 (first+y2.To))))+y3.e1),1,i1⟩:qT)]:List qT)).bind fun x3 =>
   qaq first i1 y2 r1 n x3 (W64 (i2+1))
  else
   some (x2,i2)
def qar (first:Int) (y1:qn):Nat→(List qT)→Int→Option ((List qT) × Int)
 | 0,_,_=>none
 | n+1,x1,i1 =>
  bif decide (i1<(y1.Aj.length:Int)) then
   (idx y1.Aj i1).bind fun y2 =>
   (qcQ n y2).bind fun r1 =>
   (qaq first i1 y2 r1 n x1 0).bind fun o=>match o with
   | (x2,_) =>
    qar first y1 n x2 (W64 (i1+1))
  else
   some (x1,i1)
def qcT (n:Nat) (b:qk) (x:qe) (first:Int):Option (List qT) :=
 (idx b.As.Ak x.Bl).bind fun y1 =>
 (qar first y1 n ([]:List qT) 0).bind fun o=>match o with
 | (x1,_) =>
  some x1
theorem qhK {b:qk} {x:qe} {first:Int} (ha1:GoT.R w (old w) b cs1) (ha2:GoT.R w (old w) x cs2) {r:(List qT)} (hF:qcT n b x first=some r):RetV Tryz.prog 187 [GoT.v qk cs1,GoT.v qe cs2,.int .i64 first] w r:=by
 obtain ⟨p1,k1,p2,k2,p3,k3,p4,k4,p5,k5,rfl,s1,s2,s3,s4,s5⟩:=qY ha1
 obtain ⟨p6,k6,rfl,s6⟩:=qI ha2
 refine zV 57 Tryz.func187 rfl fun h=>zSR (qt h rfl rfl fun w1 bb1 h=>qt h rfl rfl fun w2 bb2 h=>X2 14 1 0 h rfl ?_)
 obtain ⟨y1,hy1,hF,he1,b1,_,q1,cs3,hp1,hq1,hr1,hc1⟩:=s1.ix hF
 obtain ⟨p7,k7,p8,k8,p9,k9,rfl,s7,s8,s9⟩:=qN hr1
 refine zxe hp1 hq1 he1 rfl (zp1 rfl (zc 3 (hc1.below h.below) rfl (X0 3 rfl ?_)))
 replace h:=h.nil (α:=qT)
 obtain ⟨o1,hF,hK1⟩:=qg hF
 refine qm ?_
 replace h:=h.pick [0] rfl
 refine rL (fun m e w'=>∃ (S1:Nat→Prop) (p10:Option Addr) (ln1:Nat) (k10:Nat) (x1:(List qT)) (i1:Int),qar first y1 m x1 i1=some o1∧e=[(2,.int .i64 first),(7,.slice p10 ln1 k10),(19,.slice p8 y1.Aj.length k8),(20,.int .i64 (y1.Aj.length:Int)),(21,.int .i64 i1)]∧SH w w' [Ch.own S1 (x1:List qT) [.slice p10 ln1 k10]]) n ⟨_,_,_,_,_,_,hF,rfl,h⟩ rfl ?_
 rintro m1 e1 w3 ⟨S1,p10,ln1,k10,x1,i1,hF,rfl,h⟩
 obtain rfl:=(h.sl 0 rfl).2
 rcases m1 with _|m1
 ·cases hF
 refine X0 5 rfl (qf rfl hF ?_ ?_)<;>intro hF
 ·refine X0 6 rfl ?_
  obtain ⟨y2,hy2,hF,he2,b2,_,q2,cs4,hp2,hq2,hr2,hc3⟩:=s8.ix hF
  obtain ⟨p11,k11,p12,k12,rfl,s10,s11⟩:=qab hr2
  refine zxe hp2 hq2 he2 rfl (zc 0 (hc3.below h.below) rfl (qv qc h rfl rfl rfl fun w4 bb3 h=>zp1 rfl (zs 0 h rfl fun w5 h=>X1 4 0 h rfl (zcL h hF (qhH (qeE y2 (h.oldS s10) (h.oldS s11))) rfl fun r1 w6 S2 p13 k13 h hF=>X0 3 rfl ?_))))
  obtain ⟨o2,hF,hK2⟩:=qg hF
  refine qm (rL (fun m e w'=>∃ (S3:Nat→Prop) (p14:Option Addr) (ln2:Nat) (k14:Nat) (x2:(List qT)) (i2:Int),qaq first i1 y2 r1 m x2 i2=some o2∧e=[(2,.int .i64 first),(7,.slice p14 ln2 k14),(8,.int .i64 i1),(9,.pointer (some ⟨bb3,0,none⟩)),(19,.slice p8 y1.Aj.length k8),(20,.int .i64 (y1.Aj.length:Int)),(21,.int .i64 i1),(27,.slice p13 r1.length k13),(28,.int .i64 (r1.length:Int)),(29,.int .i64 i2)]∧SH w w' [Ch.own S2 (r1:List qz) [.slice p13 r1.length k13],Ch.box bb3 (qh3 y2 p11 p12 k11 k12) 266,Ch.own S3 (x2:List qT) [.slice p14 ln2 k14]]) m1 ⟨_,_,_,_,_,_,hF,rfl,h⟩ rfl ?_)
  rintro m2 e2 w7 ⟨S3,p14,ln2,k14,x2,i2,hF,rfl,h⟩
  obtain rfl:=(h.sl 2 rfl).2
  rcases m2 with _|m2
  ·cases hF
  refine X0 5 rfl (qf rfl hF ?_ ?_)<;>intro hF
  ·refine zKSBSR ?_
   obtain ⟨y3,hy3,hF,he3,b3,_,q3,cs5,hp3,hq3,hr4,hc5⟩:=(h.sl 0 rfl).1.ix hF
   obtain rfl:=qmS hr4
   refine zx hp3 hq3 ⟨he3.1,qak he3.2.1 (h.sl 0 rfl).2⟩ rfl (zc 0 hc5 rfl (qv qc h rfl rfl rfl fun w8 bb4 h=>zs 0 h rfl fun w9 h=>X1 8 2 h rfl (r_v (qrt (iv:=0) qc rfl rfl (by decide) ⟨rfl,rfl⟩ rfl rfl) rfl (X2 7 0 2 h rfl (r_v (qrt (iv:=1) qc rfl rfl (by decide) ⟨rfl,rfl⟩ rfl rfl) rfl (X1 3 0 h rfl (r_v (qbf qc [0,1,2,3] [.tmp 41,.tmp 49,.const (.int .i64 (1)),.tmp 50] rfl rfl rfl rfl rfl rfl rfl rfl) rfl (qal qc [.tmp 51] _ ([(⟨W64 ((W64 (2*(W64 (first+y2.Bb))))+y3.e0),W64 ((W64 (2*(W64 (first+y2.To))))+y3.e1),1,i1⟩:qT)]:List qT) h rfl rfl rfl rfl rfl rfl rfl rfl rfl ⟨(qmg (⟨W64 ((W64 (2*(W64 (first+y2.Bb))))+y3.e0),W64 ((W64 (2*(W64 (first+y2.To))))+y3.e1),1,i1⟩:qT)),trivial⟩ rfl fun w10 p15 S4 h=>?_))))))))
   obtain ⟨x3,hx1,hF⟩:=qg hF
   obtain ⟨g1,hx1⟩:=qaP hx1
   refine qdT qc 4 h rfl (h.sl 0 rfl).1 (h.sl 0 rfl).2 rfl rfl rfl rfl rfl rfl rfl rfl rfl g1 hx1 rfl fun w11 p16 k15 S5 h=>X0 7 rfl ?_
   replace h:=h.pick [2,3,4] rfl
   exact rK ⟨_,_,_,_,_,_,hF,rfl,h⟩ rfl
  refine qr rfl ?_
  obtain rfl:=qa hF;replace hF:=hK2
  refine X0 5 rfl ?_
  replace h:=h.pick [2] rfl
  exact rK ⟨_,_,_,_,_,_,hF,rfl,h⟩ rfl
 refine qr rfl ?_
 obtain rfl:=qa hF;replace hF:=hK1
 refine X0 5 rfl ?_
 obtain rfl:=qa hF
 exact rO 0 h rfl ⟨rfl,trivial⟩
def qeP (_:Nat) (s:(List Int)):Option (List Int) :=
 appS ([]:List Int) s
theorem qic {s:(List Int)} (ha1:GoT.R w (old w) s cs1) {r:(List Int)} (hF:qeP n s=some r):RetV Tryz.prog 248 [GoT.v (List Int) cs1] w r:=by
 obtain ⟨p,k,rfl,s1⟩:=ha1
 obtain ⟨g1,hx⟩:=qaP (show appS ([]:List Int) s=some r from hF)
 cases p with
 | none =>
  obtain rfl:=qpM s1
  obtain rfl:[]=r:=hx
  exact zV 8 Tryz.func248 rfl fun h=>X0 8 rfl (r_v (qm5 qc rfl rfl rfl rfl rfl) rfl (qcz (qbH rfl rfl (X0 4 rfl (qax qc (ρ:=(List Int)) [GoT.v (List Int) [.slice none 0 0]] h ⟨rfl,trivial⟩ (PV.done h (qaD qqw)))))))
 | some a =>
  refine zV 8 Tryz.func248 rfl fun h=>X0 8 rfl (r_v (qm5 qc rfl rfl rfl rfl rfl) rfl (qcz (qd3 rfl rfl (zKSR (qal qc [] _ ([]:List Int) h rfl rfl rfl rfl rfl rfl rfl rfl rfl trivial rfl fun w1 p1 S1 h=>zp1 rfl (qru qc 0 h rfl (h.oldS s1) rfl rfl rfl rfl rfl rfl rfl rfl rfl rfl g1 rfl fun w2 p2 k2 S2 h=>?_))))))
  rw [hx] at h
  exact X0 2 rfl (qax qc (ρ:=(List Int)) [GoT.v (List Int) [.slice p2 (([]:List Int).length+s.length) k2]] h ⟨rfl,trivial⟩ (PV.done h (qaD (qbc 0 h rfl))))
def qai (net:Int) (r1:(List Tplace)):Nat→(List Int)→Int→Option ((List Int) × Int)
 | 0,_,_=>none
 | n+1,x1,i1 =>
  bif decide (i1<(r1.length:Int)) then
   (idx r1 i1).bind fun y1 =>
   bif (y1.net==net) then
    bif (!y1.drives) then
     (appS x1 ([i1]:List Int)).bind fun x2 =>
     qai net r1 n x2 (W64 (i1+1))
    else
     qai net r1 n x1 (W64 (i1+1))
   else
    qai net r1 n x1 (W64 (i1+1))
  else
   some (x1,i1)
def qdY (n:Nat) (d:qb) (net:Int):Option (List Int) :=
 (qa4 n d).bind fun r1 =>
 (qai net r1 n ([]:List Int) 0).bind fun o=>match o with
 | (x1,_) =>
  some x1
theorem qin {d:qb} {net:Int} (ha1:GoT.R w (old w) d cs1) {r:(List Int)} (hF:qdY n d net=some r):RetV Tryz.prog 249 [GoT.v qb cs1,.int .i64 net] w r:=by
 obtain ⟨p1,k1,p2,k2,p3,k3,rfl,s1,s2,s3⟩:=qW ha1
 refine zV 31 Tryz.func249 rfl fun h=>zSR (qt h rfl rfl fun w1 bb1 h=>X1 10 0 h rfl (zcL h hF (qcv (h.old ha1)) rfl fun r1 w2 S1 p4 k4 h hF=>X0 3 rfl ?_))
 replace h:=h.nil (α:=Int)
 obtain ⟨o1,hF,hK1⟩:=qg hF
 refine qm ?_
 replace h:=h.pick [0,1] rfl
 refine rL (fun m e w'=>∃ (S2:Nat→Prop) (p5:Option Addr) (ln1:Nat) (k5:Nat) (x1:(List Int)) (i1:Int),qai net r1 m x1 i1=some o1∧e=[(1,.int .i64 net),(5,.slice p5 ln1 k5),(9,.slice p4 r1.length k4),(10,.int .i64 (r1.length:Int)),(11,.int .i64 i1)]∧SH w w' [Ch.own S2 (x1:List Int) [.slice p5 ln1 k5],Ch.own S1 (r1:List Tplace) [.slice p4 r1.length k4]]) n ⟨_,_,_,_,_,_,hF,rfl,h⟩ rfl ?_
 rintro m1 e1 w3 ⟨S2,p5,ln1,k5,x1,i1,hF,rfl,h⟩
 obtain rfl:=(h.sl 0 rfl).2
 rcases m1 with _|m1
 ·cases hF
 refine X0 5 rfl (qf rfl hF ?_ ?_)<;>intro hF
 ·refine X0 6 rfl ?_
  obtain ⟨y1,hy1,hF,he1,b1,_,q1,cs2,hp1,hq1,hr2,hc2⟩:=(h.sl 1 rfl).1.ix hF
  obtain rfl:=qd9 hr2
  refine zx hp1 hq1 ⟨he1.1,qak he1.2.1 (h.sl 1 rfl).2⟩ rfl (zc 0 hc2 rfl (qv qc h rfl rfl rfl fun w4 bb2 h=>zp1 rfl (zs 0 h rfl fun w5 h=>X1 8 0 h rfl (qd (t:=20) hF rfl ?_ ?_))))<;>intro hF
  ·refine X1 8 0 h rfl (qf rfl hF ?_ ?_)<;>intro hF
   ·refine X0 3 rfl (qal qc [.tmp 26] _ ([i1]:List Int) h rfl rfl rfl rfl rfl rfl rfl rfl rfl ⟨rfl,trivial⟩ rfl fun w6 p6 S3 h=>?_)
    obtain ⟨x2,hx1,hF⟩:=qg hF
    obtain ⟨g1,hx1⟩:=qaP hx1
    refine qdT qc 2 h rfl (h.sl 0 rfl).1 (h.sl 0 rfl).2 rfl rfl rfl rfl rfl rfl rfl rfl rfl g1 hx1 rfl fun w7 p7 k6 S4 h=>X0 7 rfl ?_
    replace h:=h.pick [2,3] rfl
    exact rK ⟨_,_,_,_,_,_,hF,rfl,h⟩ rfl
   refine X0 6 rfl ?_
   replace h:=h.pick [1,2] rfl
   exact rK ⟨_,_,_,_,_,_,hF,rfl,h⟩ rfl
  refine X0 5 rfl (qd3 rfl rfl (X0 6 rfl ?_))
  replace h:=h.pick [1,2] rfl
  exact rK ⟨_,_,_,_,_,_,hF,rfl,h⟩ rfl
 refine qr rfl ?_
 obtain rfl:=qa hF;replace hF:=hK1
 refine X0 5 rfl ?_
 obtain rfl:=qa hF
 exact rO 0 h rfl ⟨rfl,trivial⟩
def qdV (_:Nat) (d:qb) (l:ql) (p:Tplace):Option Int :=
 bif decide (p.instance_<0) then some 0 else
 (idx d.Aa p.instance_).bind fun y1 =>
 (idx l.Ak y1.Bl).bind fun y2 =>
 (idx y2.Ap p.pin).bind fun y3 =>
 some y3.Bk
theorem qik {d:qb} {l:ql} {p:Tplace} (ha1:GoT.R w (old w) d cs1) (ha2:GoT.R w (old w) l cs2) (ha3:GoT.R w (old w) p cs3) {r:Int} (hF:qdV n d l p=some r):RetV Tryz.prog 250 [GoT.v qb cs1,GoT.v ql cs2,GoT.v Tplace cs3] w r:=by
 obtain ⟨p1,k1,p2,k2,p3,k3,rfl,s1,s2,s3⟩:=qW ha1
 obtain ⟨p4,k4,rfl,s4⟩:=qaQ ha2
 obtain rfl:=qd9 ha3
 refine zV 27 Tryz.func250 rfl fun h=>zSR (qt h rfl rfl fun w1 bb1 h=>qt h rfl rfl fun w2 bb2 h=>qt h rfl rfl fun w3 bb3 h=>X1 9 0 h rfl (qf rfl hF ?_ ?_))<;>intro hF
 ·exact X0 4 rfl (ri h hF rfl)
 refine zKS (rD (Y1 2 1 h rfl ?_))
 refine Y1 2 2 h rfl ?_
 refine Y1 2 0 h rfl ?_
 obtain ⟨y1,hy1,hF,he1,b1,_,q1,cs4,hp1,hq1,hr1,hc2⟩:=s1.ix hF
 obtain ⟨p5,k5,rfl,s5⟩:=qI hr1
 refine zdxe hp1 hq1 he1 rfl (zd1 rfl (zdc 1 (hc2.below h.below) rfl ?_))
 obtain ⟨y2,hy2,hF,he2,b2,_,q2,cs5,hp2,hq2,hr2,hc3⟩:=s4.ix hF
 obtain ⟨p6,k6,p7,k7,p8,k8,rfl,s6,s7,s8⟩:=qN hr2
 refine zdxe hp2 hq2 he2 rfl (zd1 rfl (zdc 2 (hc3.below h.below) rfl (Y1 2 0 h rfl ?_)))
 obtain ⟨y3,hy3,hF,he3,b3,_,q3,cs6,hp3,hq3,hr3,hc4⟩:=s6.ix hF
 obtain rfl:=qaG hr3
 exact zdxe hp3 hq3 he3 rfl (zd1 rfl (zdc 2 (hc4.below h.below) rfl (zd1 rfl (dN h fun w4 h=>ri h hF rfl))))
def qaw (y1:qC):Nat→(List Int)→Int→Option ((List Int) × Int)
 | 0,_,_=>none
 | n+1,x2,i2 =>
  bif decide (i2 > 0) then
   (idx y1.Ai i2).bind fun y7 =>
   (idx x2 y7).bind fun y8 =>
   (idx x2 i2).bind fun y9 =>
   (idx x2 y7).bind fun _ =>
   qaw y1 n (setS x2 y7 (W64 (y8+y9))) (W64 (i2-1))
  else
   some (x2,i2)
def qas (a_0:qk) (y1:qC) (r2:(List Tplace)) (r3:(List Int)):Nat→(List Int)→Int→Option ((List Int) × Int)
 | 0,_,_=>none
 | n+1,x1,i1 =>
  bif decide (i1<(r3.length:Int)) then
   (idx r3 i1).bind fun y2 =>
   (idx y1.Bc i1).bind fun y3 =>
   (idx x1 y3).bind fun y4 =>
   (idx r2 y2).bind fun y5 =>
   (qdV n (⟨a_0.Ab.Aa,a_0.Ab.Ah,a_0.Ab.Af⟩:qb) (⟨a_0.As.Ak⟩:ql) y5).bind fun r4 =>
   (idx x1 y3).bind fun _ =>
   qas a_0 y1 r2 r3 n (setS x1 y3 (W64 (y4+r4))) (W64 (i1+1))
  else
   some (x1,i1)
def qbN (n:Nat) (a_0:qk) (a_1:Int):Option (List Int) :=
 (idx a_0.Ac a_1).bind fun y1 =>
 (qeP n y1.Bk).bind fun r1 =>
 (qa4 n (⟨a_0.Ab.Aa,a_0.Ab.Ah,a_0.Ab.Af⟩:qb)).bind fun r2 =>
 (qdY n (⟨a_0.Ab.Aa,a_0.Ab.Ah,a_0.Ab.Af⟩:qb) a_1).bind fun r3 =>
 (qas a_0 y1 r2 r3 n r1 0).bind fun o=>match o with
 | (x1,_) =>
  (qaw y1 n x1 (W64 ((r1.length:Int)-1))).bind fun o=>match o with
  | (x2,_) =>
   some x2
theorem qc9 {a_0:qk} {a_1:Int} (ha1:GoT.R w (old w) a_0 cs1) {r:(List Int)} (hF:qbN n a_0 a_1=some r):RetV Tryz.prog 189 [GoT.v qk cs1,.int .i64 a_1] w r:=by
 obtain ⟨p1,k1,p2,k2,p3,k3,p4,k4,p5,k5,rfl,s1,s2,s3,s4,s5⟩:=qY ha1
 refine zV 74 Tryz.func189 rfl fun h=>zSR (qt h rfl rfl fun w1 bb1 h=>X1 7 0 h rfl ?_)
 obtain ⟨y1,hy1,hF,he1,b1,_,q1,cs2,hp1,hq1,hr1,hc1⟩:=s5.ix hF
 obtain ⟨p6,k6,p7,k7,p8,k8,p9,k9,rfl,s6,s7,s8,s9⟩:=qaN hr1
 refine zxe hp1 hq1 he1 rfl (zc 0 (hc1.below h.below) rfl (qv qc h rfl rfl rfl fun w2 bb2 h=>zs 0 h rfl fun w3 h=>X1 5 0 h rfl (zcL h hF (qic ⟨_,_,rfl,(h.oldS s8)⟩) rfl fun r1 w4 S1 p10 k10 h hF=>X1 6 2 h rfl (zcL h hF (qcv (qaJ _ (h.oldS s2) (h.oldS s3) (h.oldS s4))) rfl fun r2 w5 S2 p11 k11 h hF=>X1 8 3 h rfl (zcL h hF (qin (qaJ _ (h.oldS s2) (h.oldS s3) (h.oldS s4))) rfl fun r3 w6 S3 p12 k12 h hF=>X0 3 rfl ?_)))))
 obtain ⟨o1,hF,hK1⟩:=qg hF
 refine qm (rL (fun m e w'=>∃ (x1:(List Int)) (i1:Int),qas a_0 y1 r2 r3 m x1 i1=some o1∧e=[(2,.pointer (some ⟨bb1,0,none⟩)),(5,.pointer (some ⟨bb2,0,none⟩)),(6,.slice p10 r1.length k10),(7,.slice p11 r2.length k11),(25,.slice p12 r3.length k12),(26,.int .i64 (r3.length:Int)),(27,.int .i64 i1)]∧SH w w' [Ch.own S3 (r3:List Int) [.slice p12 r3.length k12],Ch.own S2 (r2:List Tplace) [.slice p11 r2.length k11],Ch.own S1 (x1:List Int) [.slice p10 r1.length k10],Ch.box bb2 (qfn y1 p6 p7 p8 p9 k6 k7 k8 k9) 215,Ch.box bb1 (qbL a_0 p1 p2 p3 p4 p5 k1 k2 k3 k4 k5) 48]) n ⟨_,_,hF,rfl,h⟩ rfl ?_)
 rintro m1 e1 w7 ⟨x1,i1,hF,rfl,h⟩
 rcases m1 with _|m1
 ·cases hF
 refine X0 5 rfl (qf rfl hF ?_ ?_)<;>intro hF
 ·refine X0 6 rfl ?_
  obtain ⟨y2,hy2,hF,he2,b2,_,q2,cs3,hp2,hq2,rfl,hc3⟩:=(h.sl 0 rfl).1.ix hF
  refine zx hp2 hq2 ⟨he2.1,qak he2.2.1 (h.sl 0 rfl).2⟩ rfl (zc 0 hc3 rfl (X0 3 rfl (rA [19] [1,2,3,4] h rfl fun w8 h=>M1 15 [0,1,2,3] 2 (h.pick [1,2,3,4] rfl) rfl ?_)))
  obtain ⟨y3,hy3,hF,he3,b3,_,q3,cs4,hp3,hq3,rfl,hc4⟩:=s9.ix hF
  refine Ae 4 31 hp3 hq3 he3 (h.pick [1,2,3,4] rfl) rfl (Al 5 63 0 hc4 (h.pick [1,2,3,4] rfl) rfl ?_)
  obtain ⟨y4,hy4,hF,he4,b4,_,q4,cs5,hp4,hq4,rfl,hc5⟩:=(h.sl 2 rfl).1.ix hF
  refine Ax 6 127 hp4 hq4 ⟨he4.1,qak he4.2.1 (h.sl 2 rfl).2⟩ (h.pick [1,2,3,4] rfl) rfl (Aw 7 255 (fun w' hw=>qjr qc (qfC (w1:=w) (S1:=fun _=>False) hw 1 rfl hy4 hp4 hq4 rfl) (j:=0) rfl rfl rfl) (h.pick [1,2,3,4] rfl) rfl ?_)
  refine M2 16383 [8,9,10,11,12,13] 3 3 (h.pick [1,2,3,4] rfl) rfl ?_
  obtain ⟨y5,hy5,hF,he5,b5,_,q5,cs6,hp5,hq5,hr8,hc6⟩:=(h.sl 1 rfl).1.ix hF
  obtain rfl:=qd9 hr8
  refine Ax 14 32767 hp5 hq5 ⟨he5.1,qak he5.2.1 (h.sl 1 rfl).2⟩ (h.pick [1,2,3,4] rfl) rfl (Aw 15 65535 (fun w' hw=>qjr qc (qfC hw 0 rfl hy5 hp5 hq5 (qg5 (w:=w) (S:=fun _=>False) y5)) (j:=0) rfl rfl rfl) (h.pick [1,2,3,4] rfl) rfl ?_)
  refine Ao 16 131071 rfl (zcI h hF (qik (qaJ _ (h.oldS s2) (h.oldS s3) (h.oldS s4)) (qdj _ (h.oldS s1)) (qg5 y5)) rfl fun r4 w9 h hF=>G0 262143 [17] (h.pick [1,2,3,4] rfl) rfl ?_)
  obtain ⟨y6,hy6,hF,he6,b6,_,q6,cs7,hp6,hq6,rfl,hc7⟩:=(h.sl 2 rfl).1.ix hF
  exact Ax 18 524287 hp6 hq6 ⟨he6.1,qak he6.2.1 (h.sl 2 rfl).2⟩ (h.pick [1,2,3,4] rfl) rfl (Ao 19 1048575 rfl (qc1 qc 2 0 (W64 (y4+r4)) h rfl hy6 hp6 hq6 rfl hc7 rfl rfl rfl rfl rfl rfl rfl fun w10 h=>qgU (fun hs=>absurd (hs 19 (by decide)) (by decide)) (Ad (X0 5 rfl (rK ⟨_,_,hF,rfl,h⟩ rfl)))))
 refine qr rfl ?_
 obtain rfl:=qa hF;replace hF:=hK1
 refine X0 8 rfl ?_
 obtain ⟨o2,hF,hK2⟩:=qg hF
 refine qm ?_
 replace h:=h.pick [2,3] rfl
 refine rL (fun m e w'=>∃ (x2:(List Int)) (i2:Int),qaw y1 m x2 i2=some o2∧e=[(5,.pointer (some ⟨bb2,0,none⟩)),(6,.slice p10 r1.length k10),(10,.int .i64 i2)]∧SH w w' [Ch.own S1 (x2:List Int) [.slice p10 r1.length k10],Ch.box bb2 (qfn y1 p6 p7 p8 p9 k6 k7 k8 k9) 215]) n ⟨_,_,hF,rfl,h⟩ rfl ?_
 rintro m2 e2 w11 ⟨x2,i2,hF,rfl,h⟩
 rcases m2 with _|m2
 ·cases hF
 refine X0 6 rfl (qf rfl hF ?_ ?_)<;>intro hF
 ·refine zKSB (rA [14] [0,1] h rfl fun w12 h=>M1 15 [0,1,2,3] 1 (h.pick [0,1] rfl) rfl ?_)
  obtain ⟨y7,hy7,hF,he7,b7,_,q7,cs8,hp7,hq7,rfl,hc9⟩:=s6.ix hF
  refine Ae 4 31 hp7 hq7 he7 (h.pick [0,1] rfl) rfl (Al 5 63 0 hc9 (h.pick [0,1] rfl) rfl ?_)
  obtain ⟨y8,hy8,hF,he8,b8,_,q8,cs9,hp8,hq8,rfl,hc10⟩:=(h.sl 0 rfl).1.ix hF
  refine Ax 6 127 hp8 hq8 ⟨he8.1,qak he8.2.1 (h.sl 0 rfl).2⟩ (h.pick [0,1] rfl) rfl (Aw 7 255 (fun w' hw=>qjr qc (qfC (w1:=w) (S1:=fun _=>False) hw 0 rfl hy8 hp8 hq8 rfl) (j:=0) rfl rfl rfl) (h.pick [0,1] rfl) rfl ?_)
  refine M0 1023 [8,9] (h.pick [0,1] rfl) rfl ?_
  obtain ⟨y9,hy9,hF,he9,b9,_,q9,cs10,hp9,hq9,rfl,hc11⟩:=(h.sl 0 rfl).1.ix hF
  refine Ax 10 2047 hp9 hq9 ⟨he9.1,qak he9.2.1 (h.sl 0 rfl).2⟩ (h.pick [0,1] rfl) rfl (Aw 11 4095 (fun w' hw=>qjr qc (qfC (w1:=w) (S1:=fun _=>False) hw 0 rfl hy9 hp9 hq9 rfl) (j:=0) rfl rfl rfl) (h.pick [0,1] rfl) rfl ?_)
  refine M0 8191 [12] (h.pick [0,1] rfl) rfl ?_
  obtain ⟨y10,hy10,hF,he10,b10,_,q10,cs11,hp10,hq10,rfl,hc12⟩:=(h.sl 0 rfl).1.ix hF
  exact Ax 13 16383 hp10 hq10 ⟨he10.1,qak he10.2.1 (h.sl 0 rfl).2⟩ (h.pick [0,1] rfl) rfl (Ao 14 32767 rfl (qc1 qc 0 0 (W64 (y8+y9)) h rfl hy10 hp10 hq10 rfl hc12 rfl rfl rfl rfl rfl rfl rfl fun w13 h=>qgU (fun hs=>absurd (hs 14 (by decide)) (by decide)) (Ad (X0 6 rfl (rK ⟨_,_,hF,rfl,h⟩ rfl)))))
 refine qr rfl ?_
 obtain rfl:=qa hF;replace hF:=hK2
 refine X0 5 rfl ?_
 obtain rfl:=qa hF
 exact rO 0 h rfl ⟨rfl,trivial⟩
def qaH (y1:qC) (r1:(List Int)) (x1:(List Int)):Nat→(List Int)→Int→Option ((List Int) × Int)
 | 0,_,_=>none
 | n+1,x2,i1 =>
  bif decide (i1<(x1.length:Int)) then
   (idx y1.Ai i1).bind fun y2 =>
   (idx x2 y2).bind fun y3 =>
   (idx y1.Bn i1).bind fun y4 =>
   (idx r1 i1).bind fun y5 =>
   (idx x2 i1).bind fun _ =>
   qaH y1 r1 x1 n (setS x2 i1 (W64 (y3+(W64 (y4*y5))))) (W64 (i1+1))
  else
   some (x2,i1)
def qcu (n:Nat) (b:qk) (net:Int):Option (List Int) :=
 (idx b.Ac net).bind fun y1 =>
 (qbN n b net).bind fun r1 =>
 (mkS (r1.length:Int) (0:Int)).bind fun x1 =>
 (qaH y1 r1 x1 n x1 1).bind fun o=>match o with
 | (x2,_) =>
  some x2
theorem qhB {b:qk} {net:Int} (ha1:GoT.R w (old w) b cs1) {r:(List Int)} (hF:qcu n b net=some r):RetV Tryz.prog 251 [GoT.v qk cs1,.int .i64 net] w r:=by
 obtain ⟨p1,k1,p2,k2,p3,k3,p4,k4,p5,k5,rfl,s1,s2,s3,s4,s5⟩:=qY ha1
 refine zV 49 Tryz.func251 rfl fun h=>zSR (qt h rfl rfl fun w1 bb1 h=>X0 3 rfl (rA [] [0] h rfl fun w2 h=>M1 7 [0,1,2] 0 (h.pick [0] rfl) rfl ?_))
 obtain ⟨y1,hy1,hF,he1,b1,_,q1,cs2,hp1,hq1,hr1,hc1⟩:=s5.ix hF
 obtain ⟨p6,k6,p7,k7,p8,k8,p9,k9,rfl,s6,s7,s8,s9⟩:=qaN hr1
 refine Ae 3 15 hp1 hq1 he1 (h.pick [0] rfl) rfl (Al 4 31 0 hc1 (h.pick [0] rfl) rfl (M1 127 [5,6] 0 (h.pick [0] rfl) rfl ?_))
 obtain ⟨r1,hr2,hF⟩:=qg hF
 refine qrd (fun e w'=>∃ (bb6:Nat) (S5:Nat→Prop) (p14:Option Addr) (k14:Nat),e=[(5,.pointer (some ⟨bb6,0,none⟩)),(6,.slice p14 r1.length k14)]∧SH w w' [Ch.box bb6 (qfn y1 p6 p7 p8 p9 k6 k7 k8 k9) 215,Ch.own S5 (r1:List Int) [.slice p14 r1.length k14],Ch.box bb1 (qbL b p1 p2 p3 p4 p5 k1 k2 k3 k4 k5) 48]) 0 (bits 11 2047) ?_ ?_
 ·intro K
  refine At 7 8 255 383 rfl ?_ ?_
  ·exact qmD r1 h (cB 189 rfl) (qc9 (h.old ha1) hr2) rfl rfl rfl rfl fun w10 S4 p13 k13 h=>Ag (h.pick [1] rfl) (Ao 8 511 rfl (qv qc h rfl rfl rfl fun w11 bb5 h=>Ag (h.pick [2] rfl) (Ao 9 1023 rfl (zs 0 h rfl fun w12 h=>G0 2047 [10] (h.pick [2] rfl) rfl (qrs [(5,_),(6,_)] ⟨rfl,rfl,trivial⟩ (K _ _ ⟨_,_,_,_,rfl,h⟩))))))
  refine qv qc h rfl rfl rfl fun w10 bb5 h=>Ag (h.pick [1] rfl) (Ao 7 511 rfl (qmD r1 h (cB 189 rfl) (qc9 (h.old ha1) hr2) rfl rfl rfl rfl fun w11 S4 p13 k13 h=>Ag (h.pick [2] rfl) (Ao 9 1023 rfl (zs 1 h rfl fun w12 h=>G0 2047 [10] (h.pick [2] rfl) rfl ?_))))
  replace h:=h.pick [1,0,2] rfl
  exact qrs [(5,_),(6,_)] ⟨rfl,rfl,trivial⟩ (K _ _ ⟨_,_,_,_,rfl,h⟩)
 rintro e2 w13 ⟨bb6,S5,p14,k14,rfl,h⟩
 refine Ad (X0 4 rfl ?_)
 obtain ⟨x1,hx1,hF⟩:=qg hF
 obtain ⟨g1,g2,hx1⟩:=qbz hx1
 refine qcw qc Int h rfl rfl rfl rfl rfl rfl rfl rfl rfl g1 g2 hx1 rfl fun w14 S6 p15 h=>X0 7 rfl ?_
 obtain ⟨o1,hF,hK1⟩:=qg hF
 refine qm ?_
 replace h:=h.pick [0,1,2] rfl
 refine rL (fun m e w'=>∃ (x2:(List Int)) (i1:Int),qaH y1 r1 x1 m x2 i1=some o1∧e=[(5,.pointer (some ⟨bb6,0,none⟩)),(6,.slice p14 r1.length k14),(7,.slice p15 x1.length x1.length),(8,.int .i64 i1)]∧SH w w' [Ch.own S6 (x2:List Int) [.slice p15 x1.length x1.length],Ch.box bb6 (qfn y1 p6 p7 p8 p9 k6 k7 k8 k9) 215,Ch.own S5 (r1:List Int) [.slice p14 r1.length k14]]) n ⟨_,_,hF,rfl,h⟩ rfl ?_
 rintro m1 e3 w15 ⟨x2,i1,hF,rfl,h⟩
 rcases m1 with _|m1
 ·cases hF
 refine X0 8 rfl (qf rfl hF ?_ ?_)<;>intro hF
 ·refine zKSB (rA [22] [0,1,2] h rfl fun w16 h=>M1 63 [0,1,2,3,4,5] 1 (h.pick [0,1,2] rfl) rfl ?_)
  obtain ⟨y2,hy2,hF,he2,b2,_,q2,cs3,hp2,hq2,rfl,hc3⟩:=s6.ix hF
  refine Ae 6 127 hp2 hq2 he2 (h.pick [0,1,2] rfl) rfl (Al 7 255 0 hc3 (h.pick [0,1,2] rfl) rfl ?_)
  obtain ⟨y3,hy3,hF,he3,b3,_,q3,cs4,hp3,hq3,rfl,hc4⟩:=(h.sl 0 rfl).1.ix hF
  refine Ax 8 511 hp3 hq3 ⟨he3.1,qak he3.2.1 (h.sl 0 rfl).2⟩ (h.pick [0,1,2] rfl) rfl (Aw 9 1023 (fun w' hw=>qjr qc (qfC (w1:=w) (S1:=fun _=>False) hw 0 rfl hy3 hp3 hq3 rfl) (j:=0) rfl rfl rfl) (h.pick [0,1,2] rfl) rfl ?_)
  refine M1 8191 [10,11,12] 1 (h.pick [0,1,2] rfl) rfl ?_
  obtain ⟨y4,hy4,hF,he4,b4,_,q4,cs5,hp4,hq4,rfl,hc5⟩:=s7.ix hF
  refine Ae 13 16383 hp4 hq4 he4 (h.pick [0,1,2] rfl) rfl (Al 14 32767 0 hc5 (h.pick [0,1,2] rfl) rfl (M0 131071 [15,16] (h.pick [0,1,2] rfl) rfl ?_))
  obtain ⟨y5,hy5,hF,he5,b5,_,q5,cs6,hp5,hq5,rfl,hc6⟩:=(h.sl 2 rfl).1.ix hF
  refine Ax 17 262143 hp5 hq5 ⟨he5.1,qak he5.2.1 (h.sl 2 rfl).2⟩ (h.pick [0,1,2] rfl) rfl (Aw 18 524287 (fun w' hw=>qjr qc (qfC (w1:=w) (S1:=fun _=>False) hw 2 rfl hy5 hp5 hq5 rfl) (j:=0) rfl rfl rfl) (h.pick [0,1,2] rfl) rfl ?_)
  refine M0 2097151 [19,20] (h.pick [0,1,2] rfl) rfl ?_
  obtain ⟨y6,hy6,hF,he6,b6,_,q6,cs7,hp6,hq6,rfl,hc7⟩:=(h.sl 0 rfl).1.ix hF
  exact Ax 21 4194303 hp6 hq6 ⟨he6.1,qak he6.2.1 (h.sl 0 rfl).2⟩ (h.pick [0,1,2] rfl) rfl (Ao 22 8388607 rfl (qc1 qc 0 0 (W64 (y3+(W64 (y4*y5)))) h rfl hy6 hp6 hq6 rfl hc7 rfl rfl rfl rfl rfl rfl rfl fun w17 h=>qgU (fun hs=>absurd (hs 22 (by decide)) (by decide)) (Ad (X0 6 rfl (rK ⟨_,_,hF,rfl,h⟩ rfl)))))
 refine qr rfl ?_
 obtain rfl:=qa hF;replace hF:=hK1
 refine X0 5 rfl ?_
 obtain rfl:=qa hF
 exact rO 0 h rfl ⟨rfl,trivial⟩
def qae (r1:(List Int)) (y1:qC):Nat→(List Int)→Int→Option ((List Int) × Int)
 | 0,_,_=>none
 | n+1,x1,i1 =>
  bif decide (i1<(y1.Bc.length:Int)) then
   (idx y1.Bc i1).bind fun y2 =>
   (idx r1 y2).bind fun y3 =>
   (appS x1 ([y3]:List Int)).bind fun x2 =>
   qae r1 y1 n x2 (W64 (i1+1))
  else
   some (x1,i1)
def qcb (n:Nat) (b:qk) (net:Int):Option (List Int) :=
 (qcu n b net).bind fun r1 =>
 (idx b.Ac net).bind fun y1 =>
 (qae r1 y1 n ([]:List Int) 0).bind fun o=>match o with
 | (x1,_) =>
  some x1
theorem qhd {b:qk} {net:Int} (ha1:GoT.R w (old w) b cs1) {r:(List Int)} (hF:qcb n b net=some r):RetV Tryz.prog 190 [GoT.v qk cs1,.int .i64 net] w r:=by
 obtain ⟨p1,k1,p2,k2,p3,k3,p4,k4,p5,k5,rfl,s1,s2,s3,s4,s5⟩:=qY ha1
 refine zV 32 Tryz.func190 rfl fun h=>zSR (qt h rfl rfl fun w1 bb1 h=>X1 6 0 h rfl (zcL h hF (qhB (h.old ha1)) rfl fun r1 w2 S1 p6 k6 h hF=>X1 12 1 h rfl ?_))
 obtain ⟨y1,hy1,hF,he1,b1,_,q1,cs2,hp1,hq1,hr2,hc1⟩:=s5.ix hF
 obtain ⟨p7,k7,p8,k8,p9,k9,p10,k10,rfl,s6,s7,s8,s9⟩:=qaN hr2
 refine zxe hp1 hq1 he1 rfl (zp1 rfl (zc 3 (hc1.below h.below) rfl (X0 3 rfl ?_)))
 replace h:=h.nil (α:=Int)
 obtain ⟨o1,hF,hK1⟩:=qg hF
 refine qm ?_
 replace h:=h.pick [0,1] rfl
 refine rL (fun m e w'=>∃ (S2:Nat→Prop) (p11:Option Addr) (ln1:Nat) (k11:Nat) (x1:(List Int)) (i1:Int),qae r1 y1 m x1 i1=some o1∧e=[(5,.slice p6 r1.length k6),(6,.slice p11 ln1 k11),(17,.slice p10 y1.Bc.length k10),(18,.int .i64 (y1.Bc.length:Int)),(19,.int .i64 i1)]∧SH w w' [Ch.own S2 (x1:List Int) [.slice p11 ln1 k11],Ch.own S1 (r1:List Int) [.slice p6 r1.length k6]]) n ⟨_,_,_,_,_,_,hF,rfl,h⟩ rfl ?_
 rintro m1 e1 w3 ⟨S2,p11,ln1,k11,x1,i1,hF,rfl,h⟩
 obtain rfl:=(h.sl 0 rfl).2
 rcases m1 with _|m1
 ·cases hF
 refine X0 5 rfl (qf rfl hF ?_ ?_)<;>intro hF
 ·refine zKSBSR ?_
  obtain ⟨y2,hy2,hF,he2,b2,_,q2,cs3,hp2,hq2,rfl,hc3⟩:=s9.ix hF
  refine zxe hp2 hq2 he2 rfl (zc 0 (hc3.below h.below) rfl (X0 6 rfl ?_))
  obtain ⟨y3,hy3,hF,he3,b3,_,q3,cs4,hp3,hq3,rfl,hc4⟩:=(h.sl 1 rfl).1.ix hF
  refine zx hp3 hq3 ⟨he3.1,qak he3.2.1 (h.sl 1 rfl).2⟩ rfl (zc 0 hc4 rfl (qal qc [.tmp 27] _ ([y3]:List Int) h rfl rfl rfl rfl rfl rfl rfl rfl rfl ⟨rfl,trivial⟩ rfl fun w4 p12 S3 h=>?_))
  obtain ⟨x2,hx1,hF⟩:=qg hF
  obtain ⟨g1,hx1⟩:=qaP hx1
  refine qdT qc 1 h rfl (h.sl 0 rfl).1 (h.sl 0 rfl).2 rfl rfl rfl rfl rfl rfl rfl rfl rfl g1 hx1 rfl fun w5 p13 k12 S4 h=>X0 7 rfl ?_
  replace h:=h.pick [1,2] rfl
  exact rK ⟨_,_,_,_,_,_,hF,rfl,h⟩ rfl
 refine qr rfl ?_
 obtain rfl:=qa hF;replace hF:=hK1
 refine X0 5 rfl ?_
 obtain rfl:=qa hF
 exact rO 0 h rfl ⟨rfl,trivial⟩
end Go.Fw


namespace Go.Fw
open Go Go.Proofs
open Go.RowKit (Below)
set_option maxRecDepth 100000
set_option maxHeartbeats 1600000
variable {n:Nat} {w:World} {cs1 cs2 cs3 cs4 cs5 cs6 cs7 cs8 cs9:List Value}
def qbY (x6:(List Int)) (i4:Int) (i5:Int) (y7:Int):Nat→(List qT)→Int→Option ((List qT) × Int)
 | 0,_,_=>none
 | n+1,x14,i6 =>
  bif decide (i6<2) then
   (idx x6 i4).bind fun y8 =>
   (appS x14 ([(⟨W64 ((W64 (2*y8))+i6),W64 ((W64 (2*y7))+i6),2,i5⟩:qT)]:List qT)).bind fun x15 =>
   qbY x6 i4 i5 y7 n x15 (W64 (i6+1))
  else
   some (x14,i6)
def qb3 (x6:(List Int)) (i4:Int) (y6:(List Int)):Nat→(List qT)→Int→Option ((List qT) × Int)
 | 0,_,_=>none
 | n+1,x13,i5 =>
  bif decide (i5<(y6.length:Int)) then
   (idx y6 i5).bind fun y7 =>
   (qbY x6 i4 i5 y7 n x13 0).bind fun o=>match o with
   | (x14,_) =>
    qb3 x6 i4 y6 n x14 (W64 (i5+1))
  else
   some (x13,i5)
def qb1 (a_0:qk) (x5:(List (List Int))) (x6:(List Int)):Nat→(List (List Int))→(List Int)→(List qT)→Int→Option ((List (List Int)) × (List Int) × (List qT) × Int)
 | 0,_,_,_,_=>none
 | n+1,x8,x9,x10,i4 =>
  bif decide (i4<(a_0.Ac.length:Int)) then
   (qbN n a_0 i4).bind fun r4 =>
   (idx r4 0).bind fun y5 =>
   (appS x9 ([y5]:List Int)).bind fun x11 =>
   (qcb n a_0 i4).bind fun r5 =>
   (appS x8 ([r5]:List (List Int))).bind fun x12 =>
   (idx x5 i4).bind fun y6 =>
   (qb3 x6 i4 y6 n x10 0).bind fun o=>match o with
   | (x13,_) =>
    qb1 a_0 x5 x6 n x12 x11 x13 (W64 (i4+1))
  else
   some (x8,x9,x10,i4)
def qbx (r1:(List Tplace)):Nat→(List (List Int))→(List Int)→Int→Option ((List (List Int)) × (List Int) × Int)
 | 0,_,_,_=>none
 | n+1,x5,x6,i3 =>
  bif decide (i3<(r1.length:Int)) then
   (idx r1 i3).bind fun y2 =>
   bif y2.drives then
    (idx x6 y2.net).bind fun _ =>
    qbx r1 n x5 (setS x6 y2.net i3) (W64 (i3+1))
   else
    (idx x5 y2.net).bind fun y4 =>
    (appS y4 ([i3]:List Int)).bind fun x7 =>
    qbx r1 n (setS x5 y2.net x7) x6 (W64 (i3+1))
  else
   some (x5,x6,i3)
def qbZ (a_0:qk):Nat→(List qT)→Int→Int→Option ((List qT) × Int × Int)
 | 0,_,_,_=>none
 | n+1,x1,i1,i2 =>
  bif decide (i2<(a_0.Ab.Aa.length:Int)) then
   (idx a_0.Ab.Aa i2).bind fun y1 =>
   (qcT n a_0 y1 i1).bind fun r2 =>
   (appS x1 r2).bind fun x2 =>
   (qaA n y1.Ah).bind fun r3 =>
   qbZ a_0 n x2 (W64 (i1+r3)) (W64 (i2+1))
  else
   some (x1,i1,i2)
def qgv (n:Nat) (a_0:qk):Option (Option Tview) :=
 (qa4 n (⟨a_0.Ab.Aa,a_0.Ab.Ah,a_0.Ab.Af⟩:qb)).bind fun r1 =>
 (qbZ a_0 n ([]:List qT) 0 0).bind fun o=>match o with
 | (x1,_,_) =>
  (mkS (a_0.Ac.length:Int) (0:Int)).bind fun x3 =>
  (mkS (a_0.Ac.length:Int) ([]:(List Int))).bind fun x4 =>
  (qbx r1 n x4 x3 0).bind fun o=>match o with
  | (x5,x6,_) =>
   (qb1 a_0 x5 x6 n ([]:List (List Int)) ([]:List Int) x1 0).bind fun o=>match o with
   | (x8,x9,x10,_) =>
    some (some (⟨(⟨(⟨a_0.As.Ak⟩:ql),(⟨a_0.Ab.Aa,a_0.Ab.Ah,a_0.Ab.Af⟩:qb),a_0.Ac⟩:qk),r1,x10,x9,x8,[]⟩:Tview))
theorem qkw {A:Nat→Prop} (hA:∀ b,A b→old w b) {a_0:qk} (ha1:GoT.R w A a_0 cs1) {r:(Option Tview)} (hF:qgv n a_0=some r):RetG Tryz.prog 112 [GoT.v qk cs1] w A r:=by
 obtain ⟨p1,k1,p2,k2,p3,k3,p4,k4,p5,k5,rfl,s1,s2,s3,s4,s5⟩:=qY ha1
 have hg:=Rg.start hA
 refine qkr Tryz.func112 rfl (m:=156) rfl rfl (fun h=>?_)
 refine zSR (qt h rfl rfl fun w1 bb1 h=>X0 3 rfl (rA [] [0] h rfl fun w2 h=>M2 7 [0,1,2] 0 0 (h.pick [0] rfl) rfl (Ao 3 15 rfl (zcL h hF (qcv (qaJ _ (h.oldS (s2.mono hg.old)) (h.oldS (s3.mono hg.old)) (h.oldS (s4.mono hg.old)))) rfl fun r1 w3 S1 p6 k6 h hF=>Ag (h.pick [1] rfl) (Aw 4 31 (fun w' hw=>qbf qc [0,1] [.tmp 15,.tmp 18] rfl rfl rfl rfl rfl rfl rfl rfl) (h.pick [1] rfl) rfl ?_)))))
 refine Ao 5 63 rfl (qt h rfl rfl fun w4 bb2 h=>G0 127 [6] (h.pick [2] rfl) rfl (Ad (X1 13 2 h rfl ?_)))
 replace h:=h.nil (α:=qT)
 obtain ⟨o1,hF,hK1⟩:=qg hF
 refine qm (rL (fun m e w'=>∃ (S2:Nat→Prop) (p7:Option Addr) (ln1:Nat) (k7:Nat) (x1:(List qT)) (i1:Int) (i2:Int),qbZ a_0 m x1 i1 i2=some o1∧e=[(1,.pointer (some ⟨bb1,0,none⟩)),(3,.pointer (some ⟨bb2,0,none⟩)),(4,.int .i64 i1),(23,.slice p2 a_0.Ab.Aa.length k2),(24,.int .i64 (a_0.Ab.Aa.length:Int)),(25,.int .i64 i2)]∧SH w w' [Ch.own S2 (x1:List qT) [.slice p7 ln1 k7],Ch.box bb2 [.slice p1 a_0.As.Ak.length k1,.slice p2 a_0.Ab.Aa.length k2,.slice p3 a_0.Ab.Ah.length k3,.slice p4 a_0.Ab.Af.length k4,.slice p5 a_0.Ac.length k5,.slice p6 r1.length k6,.slice p7 ln1 k7,.slice none 0 0,.slice none 0 0,.slice none 0 0] 167,Ch.own S1 (r1:List Tplace) [.slice p6 r1.length k6],Ch.box bb1 (qbL a_0 p1 p2 p3 p4 p5 k1 k2 k3 k4 k5) 48]) n ⟨_,_,_,_,_,_,_,hF,rfl,h⟩ rfl ?_)
 rintro m1 e1 w5 ⟨S2,p7,ln1,k7,x1,i1,i2,hF,rfl,h⟩
 obtain rfl:=(h.sl 0 rfl).2
 rcases m1 with _|m1
 ·cases hF
 refine X0 5 rfl (qf rfl hF ?_ ?_)<;>intro hF
 ·refine zKSBSR ?_
  obtain ⟨y1,hy1,hF,he1,b1,_,q1,cs2,hp1,hq1,hr2,hc2⟩:=s2.ix hF
  obtain ⟨p8,k8,rfl,s6⟩:=qI hr2
  refine zxe hp1 hq1 he1 rfl (zc 0 (hc2.below h.below) rfl (qv qc h rfl rfl rfl fun w6 bb3 h=>zs 0 h rfl fun w7 h=>zNS (rA [12] [0,2,4] h rfl fun w8 h=>M3 255 [0,1,2,3,4,5,6,7] 1 2 0 (h.pick [0,2,4] rfl) rfl (Ao 8 511 rfl (zcL h hF (qhK (h.old (GoT.mono ha1 hg.old)) (qdN y1 (h.oldS (s6.mono hg.old)))) rfl fun r2 w9 S3 p9 k9 h hF=>Ag (h.pick [1,3,5] rfl) (Ao 9 1023 rfl ?_))))))
  obtain ⟨x2,hx1,hF⟩:=qg hF
  obtain ⟨g1,hx1⟩:=qaP hx1
  refine qdT qc 2 h rfl (h.sl 0 rfl).1 (h.sl 0 rfl).2 rfl rfl rfl rfl rfl rfl rfl rfl rfl g1 hx1 rfl fun w10 p10 k10 S4 h=>Ag (h.pick [1,3,5] rfl) (Ao 10 2047 rfl (zp1 rfl (G0 4095 [11] (h.pick [1,3,5] rfl) rfl (Ao 12 8191 rfl (zs 3 h rfl fun w11 h=>qgU (fun hs=>absurd (hs 12 (by decide)) (by decide)) (Ad (X1 4 1 h rfl (zcI h hF (qa7 ⟨_,_,rfl,(h.oldS (s6.mono hg.old))⟩) rfl fun r3 w12 h hF=>X0 8 rfl ?_))))))))
  replace h:=h.pick [2,3,4,5] rfl
  exact rK ⟨_,_,_,_,_,_,_,hF,rfl,h⟩ rfl
 refine qr rfl ?_
 obtain rfl:=qa hF;replace hF:=hK1
 refine X1 5 3 h rfl ?_
 obtain ⟨x3,hx2,hF⟩:=qg hF
 obtain ⟨g2,g3,hx2⟩:=qbz hx2
 refine qcw qc Int h rfl rfl rfl rfl rfl rfl rfl rfl rfl g2 g3 hx2 rfl fun w13 S5 p11 h=>X1 7 4 h rfl ?_
 obtain ⟨x4,hx3,hF⟩:=qg hF
 obtain ⟨g4,g5,hx3⟩:=qbz hx3
 refine qcw qc (List Int) h rfl rfl rfl rfl rfl rfl rfl rfl rfl g4 g5 hx3 rfl fun w14 S6 p12 h=>X1 12 3 h rfl ?_
 obtain ⟨o2,hF,hK2⟩:=qg hF
 refine qm (rL (fun m e w'=>∃ (S7:Nat→Prop) (x5:(List (List Int))) (x6:(List Int)) (i3:Int),qbx r1 m x5 x6 i3=some o2∧e=[(1,.pointer (some ⟨bb1,0,none⟩)),(3,.pointer (some ⟨bb2,0,none⟩)),(7,.slice p11 x3.length x3.length),(8,.slice p12 x4.length x4.length),(58,.slice p6 r1.length k6),(59,.int .i64 (r1.length:Int)),(60,.int .i64 i3)]∧SH w w' [Ch.own S7 (x5:List (List Int)) [.slice p12 x4.length x4.length],Ch.own S5 (x6:List Int) [.slice p11 x3.length x3.length],Ch.own S2 (x1:List qT) [.slice p7 x1.length k7],Ch.box bb2 [.slice p1 a_0.As.Ak.length k1,.slice p2 a_0.Ab.Aa.length k2,.slice p3 a_0.Ab.Ah.length k3,.slice p4 a_0.Ab.Af.length k4,.slice p5 a_0.Ac.length k5,.slice p6 r1.length k6,.slice p7 x1.length k7,.slice none 0 0,.slice none 0 0,.slice none 0 0] 167,Ch.own S1 (r1:List Tplace) [.slice p6 r1.length k6],Ch.box bb1 (qbL a_0 p1 p2 p3 p4 p5 k1 k2 k3 k4 k5) 48]) n ⟨_,_,_,_,hF,rfl,h⟩ rfl ?_)
 rintro m2 e2 w15 ⟨S7,x5,x6,i3,hF,rfl,h⟩
 rcases m2 with _|m2
 ·cases hF
 refine X0 5 rfl (qf rfl hF ?_ ?_)<;>intro hF
 ·refine X0 6 rfl ?_
  obtain ⟨y2,hy2,hF,he2,b2,_,q2,cs3,hp2,hq2,hr5,hc4⟩:=(h.sl 4 rfl).1.ix hF
  obtain rfl:=qd9 hr5
  refine zx hp2 hq2 ⟨he2.1,qak he2.2.1 (h.sl 4 rfl).2⟩ rfl (zc 0 hc4 rfl (qv qc h rfl rfl rfl fun w16 bb4 h=>zp1 rfl (zs 0 h rfl fun w17 h=>X1 6 0 h rfl (qf rfl hF ?_ ?_))))<;>intro hF
  ·refine X1 5 0 h rfl ?_
   obtain ⟨y3,hy3,hF,he3,b3,_,q3,cs4,hp3,hq3,rfl,hc6⟩:=(h.sl 2 rfl).1.ix hF
   refine zx hp3 hq3 ⟨he3.1,qak he3.2.1 (h.sl 2 rfl).2⟩ rfl (qc1 qc 2 0 i3 h rfl hy3 hp3 hq3 rfl hc6 rfl rfl rfl rfl rfl rfl rfl fun w18 h=>X0 6 rfl ?_)
   replace h:=h.pick [1,2,3,4,5,6] rfl
   exact rK ⟨_,_,_,_,hF,rfl,h⟩ rfl
  obtain ⟨y4,hy4,hF⟩:=qg hF
  have he4:=qdI hy4
  replace h:=h.pick [1,0,2,3,4,5,6] rfl
  obtain ⟨S8,S9,cs5,h⟩:=h.take hy4
  obtain ⟨p13,k11,rfl,-⟩:=h.own 0 rfl
  refine rA [12] [1,2] h rfl fun w19 h=>M2 63 [0,1,2,3,4,5] 1 1 (h.pick [1,2] rfl) rfl ?_
  obtain ⟨b4,hp4,-,-,hl2⟩:=h.holeAt 1 rfl
  obtain ⟨q4,hq4⟩:∃ q,q=0+(y2.net).toNat*GoT.k (List Int):=⟨_,rfl⟩
  refine Ax 6 127 hp4 hq4 ⟨he4.1,qak he4.2.1 hl2⟩ (h.pick [1,2] rfl) rfl (Aw 7 255 (fun w' hw=>qjr qc (qnU hw 0 rfl hp4 hq4) (j:=0) rfl rfl rfl) (h.pick [1,2] rfl) rfl ?_)
  refine M0 511 [8] (h.pick [1,2] rfl) rfl (Ao 9 1023 rfl (qal qc [.tmp 80] _ ([i3]:List Int) h rfl rfl rfl rfl rfl rfl rfl rfl rfl ⟨rfl,trivial⟩ rfl fun w20 p14 S10 h=>Ag (h.pick [2,3] rfl) (Ao 10 2047 rfl ?_)))
  obtain ⟨x7,hx4,hF⟩:=qg hF
  obtain ⟨g6,hx4⟩:=qaP hx4
  refine qdT qc 1 h rfl (h.sl 0 rfl).1 (h.sl 0 rfl).2 rfl rfl rfl rfl rfl rfl rfl rfl rfl g6 hx4 rfl fun w21 p15 k12 S11 h=>Ag (h.pick [2,3] rfl) ?_
  obtain ⟨b5,hp5,-,-,hl4⟩:=h.holeAt 2 rfl
  obtain ⟨q5,hq5⟩:∃ q,q=0+(y2.net).toNat*GoT.k (List Int):=⟨_,rfl⟩
  refine Ax 11 4095 hp5 hq5 ⟨he4.1,qak he4.2.1 hl4⟩ (h.pick [2,3] rfl) rfl (Ao 12 8191 rfl (qqe qc 2 0 h rfl hp5 hq5 rfl rfl rfl rfl rfl rfl fun w22 h=>?_))
  replace h:SH _ _ [Ch.own S10 (([i3]:List Int):List Int) [.slice p14 1 1],Ch.own S11 (x7:List Int) [.slice p15 x7.length k12],Ch.hole S9 (x5:List (List Int)) p12 x4.length x4.length (y2.net).toNat [.slice p15 x7.length k12],Ch.box bb4 (qlu y2) 224,Ch.own S5 (x6:List Int) [.slice p11 x3.length x3.length],Ch.own S2 (x1:List qT) [.slice p7 x1.length k7],Ch.box bb2 [.slice p1 a_0.As.Ak.length k1,.slice p2 a_0.Ab.Aa.length k2,.slice p3 a_0.Ab.Ah.length k3,.slice p4 a_0.Ab.Af.length k4,.slice p5 a_0.Ac.length k5,.slice p6 r1.length k6,.slice p7 x1.length k7,.slice none 0 0,.slice none 0 0,.slice none 0 0] 167,Ch.own S1 (r1:List Tplace) [.slice p6 r1.length k6],Ch.box bb1 (qbL a_0 p1 p2 p3 p4 p5 k1 k2 k3 k4 k5) 48]:=h
  refine qgU (fun hs=>absurd (hs 12 (by decide)) (by decide)) (Ad (X0 5 rfl ?_))
  replace h:=h.pick [1,2,0,3,4,5,6,7,8] rfl
  replace h:=h.put
  obtain ⟨S12,h⟩:=qrV (S:=_) h
  replace h:=h.pick [0,3,4,5,6,7] rfl
  exact rK ⟨_,_,_,_,hF,rfl,h⟩ rfl
 refine qr rfl ?_
 obtain rfl:=qa hF;replace hF:=hK2
 refine X1 8 5 h rfl ?_
 replace h:=h.nil (α:=Int)
 replace h:=h.nil (α:=(List Int))
 obtain ⟨o3,hF,hK3⟩:=qg hF
 refine qm (rL (fun m e w'=>∃ (S13:Nat→Prop) (p16:Option Addr) (ln2:Nat) (k13:Nat) (x8:(List (List Int))) (S14:Nat→Prop) (p17:Option Addr) (ln3:Nat) (k14:Nat) (x9:(List Int)) (S15:Nat→Prop) (p18:Option Addr) (ln4:Nat) (k15:Nat) (x10:(List qT)) (i4:Int),qb1 a_0 x5 x6 m x8 x9 x10 i4=some o3∧e=[(1,.pointer (some ⟨bb1,0,none⟩)),(3,.pointer (some ⟨bb2,0,none⟩)),(7,.slice p11 x3.length x3.length),(8,.slice p12 x4.length x4.length),(87,.int .i64 (a_0.Ac.length:Int)),(88,.int .i64 i4)]∧SH w w' [Ch.own S13 (x8:List (List Int)) [.slice p16 ln2 k13],Ch.own S14 (x9:List Int) [.slice p17 ln3 k14],Ch.own S7 (x5:List (List Int)) [.slice p12 x4.length x4.length],Ch.own S5 (x6:List Int) [.slice p11 x3.length x3.length],Ch.own S15 (x10:List qT) [.slice p18 ln4 k15],Ch.box bb2 [.slice p1 a_0.As.Ak.length k1,.slice p2 a_0.Ab.Aa.length k2,.slice p3 a_0.Ab.Ah.length k3,.slice p4 a_0.Ab.Af.length k4,.slice p5 a_0.Ac.length k5,.slice p6 r1.length k6,.slice p18 ln4 k15,.slice p17 ln3 k14,.slice p16 ln2 k13,.slice none 0 0] 167,Ch.own S1 (r1:List Tplace) [.slice p6 r1.length k6],Ch.box bb1 (qbL a_0 p1 p2 p3 p4 p5 k1 k2 k3 k4 k5) 48]) n ⟨_,_,_,_,_,_,_,_,_,_,_,_,_,_,_,_,hF,rfl,h⟩ rfl ?_)
 rintro m3 e3 w23 ⟨S13,p16,ln2,k13,x8,S14,p17,ln3,k14,x9,S15,p18,ln4,k15,x10,i4,hF,rfl,h⟩
 obtain rfl:=(h.sl 0 rfl).2
 obtain rfl:=(h.sl 1 rfl).2
 obtain rfl:=(h.sl 4 rfl).2
 rcases m3 with _|m3
 ·cases hF
 refine X0 5 rfl (qf rfl hF ?_ ?_)<;>intro hF
 ·refine X0 9 rfl (rA [14] [5,7] h rfl fun w24 h=>M2 127 [0,1,2,3,4,5,6] 0 1 (h.pick [5,7] rfl) rfl (Ao 7 255 rfl (zcL h hF (qc9 (h.old (GoT.mono ha1 hg.old))) rfl fun r4 w25 S16 p19 k16 h hF=>Ag (h.pick [6,8] rfl) ?_)))
  obtain ⟨y5,hy5,hF,he5,b6,_,q6,cs6,hp6,hq6,rfl,hc8⟩:=(h.sl 0 rfl).1.ix hF
  refine Ax 8 511 hp6 hq6 ⟨he5.1,qak he5.2.1 (h.sl 0 rfl).2⟩ (h.pick [6,8] rfl) rfl (Ao 9 1023 rfl (zc 0 hc8 rfl (Ag (h.pick [6,8] rfl) (Ao 10 2047 rfl (qal qc [.tmp 100] _ ([y5]:List Int) h rfl rfl rfl rfl rfl rfl rfl rfl rfl ⟨rfl,trivial⟩ rfl fun w26 p20 S17 h=>Ag (h.pick [7,9] rfl) (Ao 11 4095 rfl ?_))))))
  obtain ⟨x11,hx5,hF⟩:=qg hF
  obtain ⟨g7,hx5⟩:=qaP hx5
  refine qdT qc 3 h rfl (h.sl 0 rfl).1 (h.sl 0 rfl).2 rfl rfl rfl rfl rfl rfl rfl rfl rfl g7 hx5 rfl fun w27 p21 k17 S18 h=>Ag (h.pick [7,9] rfl) (Ao 12 8191 rfl (zp1 rfl (G0 16383 [13] (h.pick [7,9] rfl) rfl (Ao 14 32767 rfl (zs 7 h rfl fun w28 h=>qgU (fun hs=>absurd (hs 14 (by decide)) (by decide)) (Ad (qd1 (rA [12] [7,9] h rfl fun w29 h=>M2 127 [0,1,2,3,4,5,6] 0 1 (h.pick [7,9] rfl) rfl (Ao 7 255 rfl (zcL h hF (qhd (h.old (GoT.mono ha1 hg.old))) rfl fun r5 w30 S19 p22 k18 h hF=>Ag (h.pick [8,10] rfl) (Ao 8 511 rfl (qo5 qc [.tmp 112] _ ([r5]:List (List Int)) [1,2,3,4,5,6,7,8,9,10] h rfl rfl rfl rfl rfl rfl rfl rfl rfl (qqc (qbc 0 h rfl) qqP rfl) rfl rfl fun w31 p23 S20 h=>Ag (h.pick [8,10] rfl) (Ao 9 1023 rfl ?_)))))))))))))
  obtain ⟨x12,hx6,hF⟩:=qg hF
  obtain ⟨g8,hx6⟩:=qaP hx6
  replace h:=h.pick [0,3,1,2,4,5,6,7,8,9,10] rfl
  refine qq7 qc h rfl rfl rfl rfl rfl rfl rfl rfl rfl g8 hx6 rfl fun w32 p24 k19 S21 h=>Ag (h.pick [7,9] rfl) (Ao 10 2047 rfl (zp1 rfl (G0 4095 [11] (h.pick [7,9] rfl) rfl (Ao 12 8191 rfl (zs 7 h rfl fun w33 h=>qgU (fun hs=>absurd (hs 12 (by decide)) (by decide)) (Ad (X0 4 rfl ?_)))))))
  obtain ⟨y6,hy6,hF⟩:=qg hF
  have he6:=qdI hy6
  replace h:=h.lrn0 4 rfl
  obtain ⟨b7,o_5,q7,cs7,hp7,hq7,-,hr10,hc9⟩:=(qhu (h.lrnO 4 rfl)).1.at hy6
  have hr11:=hr10
  obtain ⟨p25,k20,rfl,s7⟩:=hr10
  replace h:=h.lrnAdd 4 rfl hr11
  refine zx hp7 hq7 ⟨he6.1,qak he6.2.1 (qhu (h.lrnO 4 rfl)).2⟩ rfl (zc 0 hc9 rfl (X0 3 rfl ?_))
  obtain ⟨o4,hF,hK4⟩:=qg hF
  refine qm ?_
  replace h:=h.pick [0,3,4,5,6,7,8,9] rfl
  refine rL (fun m e w'=>∃ (S22:Nat→Prop) (p26:Option Addr) (ln5:Nat) (k21:Nat) (x13:(List qT)) (i5:Int),qb3 x6 i4 y6 m x13 i5=some o4∧e=[(1,.pointer (some ⟨bb1,0,none⟩)),(3,.pointer (some ⟨bb2,0,none⟩)),(7,.slice p11 x3.length x3.length),(8,.slice p12 x4.length x4.length),(11,.int .i64 i4),(87,.int .i64 (a_0.Ac.length:Int)),(88,.int .i64 i4),(120,.slice p25 y6.length k20),(121,.int .i64 (y6.length:Int)),(122,.int .i64 i5)]∧SH w w' [Ch.own S21 (x12:List (List Int)) [.slice p24 x12.length k19],Ch.own S18 (x11:List Int) [.slice p21 x11.length k17],Ch.lrn S7 (x5:List (List Int)) [.slice p12 x4.length x4.length] [fct (y6:(List Int)) [.slice p25 y6.length k20]],Ch.own S5 (x6:List Int) [.slice p11 x3.length x3.length],Ch.own S22 (x13:List qT) [.slice p26 ln5 k21],Ch.box bb2 [.slice p1 a_0.As.Ak.length k1,.slice p2 a_0.Ab.Aa.length k2,.slice p3 a_0.Ab.Ah.length k3,.slice p4 a_0.Ab.Af.length k4,.slice p5 a_0.Ac.length k5,.slice p6 r1.length k6,.slice p26 ln5 k21,.slice p21 x11.length k17,.slice p24 x12.length k19,.slice none 0 0] 167,Ch.own S1 (r1:List Tplace) [.slice p6 r1.length k6],Ch.box bb1 (qbL a_0 p1 p2 p3 p4 p5 k1 k2 k3 k4 k5) 48]) m3 ⟨_,_,_,_,_,_,hF,rfl,h⟩ rfl ?_
  rintro m4 e4 w34 ⟨S22,p26,ln5,k21,x13,i5,hF,rfl,h⟩
  obtain rfl:=(h.sl 4 rfl).2
  rcases m4 with _|m4
  ·cases hF
  refine X0 5 rfl (qf rfl hF ?_ ?_)<;>intro hF
  ·refine X0 6 rfl ?_
   obtain ⟨y7,hy7,hF,he7,b8,_,q8,cs8,hp8,hq8,rfl,hc11⟩:=(qhu (GoT.mono (h.lrnS 2 0 rfl rfl) (h.lrnB 2 rfl))).1.ix hF
   refine zx hp8 hq8 ⟨he7.1,qak he7.2.1 (qhu (GoT.mono (h.lrnS 2 0 rfl rfl) (h.lrnB 2 rfl))).2⟩ rfl (zc 0 hc11 rfl (X0 7 rfl ?_))
   obtain ⟨o5,hF,hK5⟩:=qg hF
   refine qm (rL (fun m e w'=>∃ (S23:Nat→Prop) (p27:Option Addr) (ln6:Nat) (k22:Nat) (x14:(List qT)) (i6:Int),qbY x6 i4 i5 y7 m x14 i6=some o5∧e=[(1,.pointer (some ⟨bb1,0,none⟩)),(3,.pointer (some ⟨bb2,0,none⟩)),(7,.slice p11 x3.length x3.length),(8,.slice p12 x4.length x4.length),(11,.int .i64 i4),(12,.int .i64 i5),(13,.int .i64 y7),(87,.int .i64 (a_0.Ac.length:Int)),(88,.int .i64 i4),(120,.slice p25 y6.length k20),(121,.int .i64 (y6.length:Int)),(122,.int .i64 i5),(127,.int .i64 i6)]∧SH w w' [Ch.own S21 (x12:List (List Int)) [.slice p24 x12.length k19],Ch.own S18 (x11:List Int) [.slice p21 x11.length k17],Ch.lrn S7 (x5:List (List Int)) [.slice p12 x4.length x4.length] [fct (y6:(List Int)) [.slice p25 y6.length k20]],Ch.own S5 (x6:List Int) [.slice p11 x3.length x3.length],Ch.own S23 (x14:List qT) [.slice p27 ln6 k22],Ch.box bb2 [.slice p1 a_0.As.Ak.length k1,.slice p2 a_0.Ab.Aa.length k2,.slice p3 a_0.Ab.Ah.length k3,.slice p4 a_0.Ab.Af.length k4,.slice p5 a_0.Ac.length k5,.slice p6 r1.length k6,.slice p27 ln6 k22,.slice p21 x11.length k17,.slice p24 x12.length k19,.slice none 0 0] 167,Ch.own S1 (r1:List Tplace) [.slice p6 r1.length k6],Ch.box bb1 (qbL a_0 p1 p2 p3 p4 p5 k1 k2 k3 k4 k5) 48]) m4 ⟨_,_,_,_,_,_,hF,rfl,h⟩ rfl ?_)
   rintro m5 e5 w35 ⟨S23,p27,ln6,k22,x14,i6,hF,rfl,h⟩
   obtain rfl:=(h.sl 4 rfl).2
   rcases m5 with _|m5
   ·cases hF
   refine X0 5 rfl (qf rfl hF ?_ ?_)<;>intro hF
   ·refine X0 8 rfl (rA [22] [3,5] h rfl fun w36 h=>M1 127 [0,1,2,3,4,5,6] 1 (h.pick [3,5] rfl) rfl ?_)
    obtain ⟨y8,hy8,hF,he8,b9,_,q9,cs9,hp9,hq9,rfl,hc13⟩:=(h.sl 3 rfl).1.ix hF
    refine Ax 7 255 hp9 hq9 ⟨he8.1,qak he8.2.1 (h.sl 3 rfl).2⟩ (h.pick [3,5] rfl) rfl (Aw 8 511 (fun w' hw=>qjr qc (qfC (w1:=w) (S1:=fun _=>False) hw 0 rfl hy8 hp9 hq9 rfl) (j:=0) rfl rfl rfl) (h.pick [3,5] rfl) rfl ?_)
    refine M0 131071 [9,10,11,12,13,14,15,16] (h.pick [3,5] rfl) rfl (Aw 17 262143 (fun w' hw=>qbf qc [0,1,2,3] [.tmp 141,.tmp 145,.const (.int .i64 (2)),.tmp 146] rfl rfl rfl rfl rfl rfl rfl rfl) (h.pick [3,5] rfl) rfl ?_)
    refine Ao 18 524287 rfl (qal qc [.tmp 147] _ ([(⟨W64 ((W64 (2*y8))+i6),W64 ((W64 (2*y7))+i6),2,i5⟩:qT)]:List qT) h rfl rfl rfl rfl rfl rfl rfl rfl rfl ⟨(qmg (⟨W64 ((W64 (2*y8))+i6),W64 ((W64 (2*y7))+i6),2,i5⟩:qT)),trivial⟩ rfl fun w37 p28 S24 h=>Ag (h.pick [4,6] rfl) (Ao 19 1048575 rfl ?_))
    obtain ⟨x15,hx7,hF⟩:=qg hF
    obtain ⟨g9,hx7⟩:=qaP hx7
    refine qdT qc 5 h rfl (h.sl 0 rfl).1 (h.sl 0 rfl).2 rfl rfl rfl rfl rfl rfl rfl rfl rfl g9 hx7 rfl fun w38 p29 k23 S25 h=>Ag (h.pick [4,6] rfl) (Ao 20 2097151 rfl (zp1 rfl (G0 4194303 [21] (h.pick [4,6] rfl) rfl (Ao 22 8388607 rfl (zs 6 h rfl fun w39 h=>qgU (fun hs=>absurd (hs 22 (by decide)) (by decide)) (Ad (X0 5 rfl ?_)))))))
    replace h:=h.pick [1,2,3,4,5,6,7,8] rfl
    exact rK ⟨_,_,_,_,_,_,hF,rfl,h⟩ rfl
   refine qr rfl ?_
   obtain rfl:=qa hF;replace hF:=hK5
   exact X0 5 rfl (rK ⟨_,_,_,_,_,_,hF,rfl,h⟩ rfl)
  refine qr rfl ?_
  obtain rfl:=qa hF;replace hF:=hK4
  refine X0 5 rfl ?_
  replace h:=h.unlrn 2 rfl
  exact rK ⟨_,_,_,_,_,_,_,_,_,_,_,_,_,_,_,_,hF,rfl,h⟩ rfl
 refine qr rfl ?_
 obtain rfl:=qa hF;replace hF:=hK3
 refine X0 5 rfl ?_
 obtain rfl:=qa hF
 have hv1:GoRs.Rs (ρ:=(Option Tview)) h.wc (reg A w h.wc) (some (⟨(⟨(⟨a_0.As.Ak⟩:ql),(⟨a_0.Ab.Aa,a_0.Ab.Ah,a_0.Ab.Af⟩:qb),a_0.Ac⟩:qk),r1,x10,x9,x8,[]⟩:Tview)) [GoT.v (Option Tview) [.pointer (some ⟨bb2,0,none⟩)]]:=⟨_,rfl,(hg.outR h (Rg.boxR (x:=(⟨(⟨(⟨a_0.As.Ak⟩:ql),(⟨a_0.Ab.Aa,a_0.Ab.Ah,a_0.Ab.Af⟩:qb),a_0.Ac⟩:qk),r1,x10,x9,x8,[]⟩:Tview)) 5 h rfl (⟨[.slice p1 a_0.As.Ak.length k1,.slice p2 a_0.Ab.Aa.length k2,.slice p3 a_0.Ab.Ah.length k3,.slice p4 a_0.Ab.Af.length k4,.slice p5 a_0.Ac.length k5],[.slice p6 r1.length k6,.slice p18 x10.length k15,.slice p17 x9.length k14,.slice p16 x8.length k13,.slice none 0 0],rfl,⟨[.slice p1 a_0.As.Ak.length k1],[.slice p2 a_0.Ab.Aa.length k2,.slice p3 a_0.Ab.Ah.length k3,.slice p4 a_0.Ab.Af.length k4,.slice p5 a_0.Ac.length k5],rfl,⟨_,_,rfl,(hg.inS h s1)⟩,⟨[.slice p2 a_0.Ab.Aa.length k2,.slice p3 a_0.Ab.Ah.length k3,.slice p4 a_0.Ab.Af.length k4],[.slice p5 a_0.Ac.length k5],rfl,⟨[.slice p2 a_0.Ab.Aa.length k2],[.slice p3 a_0.Ab.Ah.length k3,.slice p4 a_0.Ab.Af.length k4],rfl,⟨_,_,rfl,(hg.inS h s2)⟩,⟨[.slice p3 a_0.Ab.Ah.length k3],[.slice p4 a_0.Ab.Af.length k4],rfl,⟨_,_,rfl,(hg.inS h s3)⟩,⟨_,_,rfl,(hg.inS h s4)⟩⟩⟩,⟨_,_,rfl,(hg.inS h s5)⟩⟩⟩,⟨[.slice p6 r1.length k6],[.slice p18 x10.length k15,.slice p17 x9.length k14,.slice p16 x8.length k13,.slice none 0 0],rfl,(Rg.ownR 6 h rfl),⟨[.slice p18 x10.length k15],[.slice p17 x9.length k14,.slice p16 x8.length k13,.slice none 0 0],rfl,(Rg.ownR 4 h rfl),⟨[.slice p17 x9.length k14],[.slice p16 x8.length k13,.slice none 0 0],rfl,(Rg.ownR 1 h rfl),⟨[.slice p16 x8.length k13],[.slice none 0 0],rfl,(Rg.ownR 0 h rfl),⟨_,_,rfl,qq2⟩⟩⟩⟩⟩⟩)))⟩
 exact qmX qc (ρ:=(Option Tview)) (r:=(some (⟨(⟨(⟨a_0.As.Ak⟩:ql),(⟨a_0.Ab.Aa,a_0.Ab.Ah,a_0.Ab.Af⟩:qb),a_0.Ac⟩:qk),r1,x10,x9,x8,[]⟩:Tview))) [GoT.v (Option Tview) [.pointer (some ⟨bb2,0,none⟩)]] h ⟨rfl,trivial⟩ hv1
end Go.Fw


namespace Go.Fw
open Go Go.Proofs
open Go.RowKit (Below)
set_option maxRecDepth 100000
set_option maxHeartbeats 1600000
variable {n:Nat} {w:World} {cs1 cs2 cs3 cs4 cs5 cs6 cs7 cs8 cs9:List Value}
end Go.Fw


namespace Go.Fw
open Go
set_option maxRecDepth 100000
instance:Inhabited qfE:=⟨⟨0,0,0⟩⟩
end Go.Fw


namespace Go.Fw
open Go
set_option maxRecDepth 100000
def off (d:qb) (i:Nat):Nat:=(plI d i).length
def place1 (d:qb) (i k:Nat):Tplace:=⟨(i:Int),(k:Int),at0 (gt d.Aa i).Ah k,decide (k+1=(gt d.Aa i).Ah.length)⟩
def place2 (d:qb) (i:Nat):Tplace:=⟨-1,(i:Int),(gt d.Af i).Bo,(gt d.Af i).Bm==1⟩
theorem qhL {d:qb} {i:Nat}:off d (i+1)=off d i+(gt d.Aa i).Ah.length:=by
 unfold off;rw [qiB,jm,qk0]
theorem qqC {d:qb} {i j:Nat} (h:i≤j):off d i≤off d j:=by
 induction j with
 | zero =>
  obtain rfl:i=0:=by omega
  exact je _
 | succ j ih =>
  rcases Nat.lt_or_eq_of_le h with h|rfl
  ·rw [qhL];have:=ih (by omega);omega
  ·exact je _
theorem qeV {d:qb}:(places d).length=off d d.Aa.length+d.Af.length:=by
 unfold places off;rw [jm,qk1]
theorem qrP {d:qb} {n i k:Nat} (hi:i<n) (hk:k<(gt d.Aa i).Ah.length):off d i+k<off d n∧gt (plI d n) (off d i+k)=place1 d i k:=by
 induction n with
 | zero=>omega
 | succ n ih =>
  rw [qiB,qiW]
  rcases Nat.lt_succ_iff_lt_or_eq.1 hi with h|rfl
  ·obtain ⟨h1,h2⟩:=ih h
   refine ⟨by rw [qhL];omega,?_⟩
   rw [if_pos (show off d i+k<(plI d n).length from h1),h2]
  ·refine ⟨by rw [qhL];omega,?_⟩
   rw [if_neg (by unfold off;omega),show off d i+k-(plI d i).length=k by unfold off;omega]
   exact qlb hk
theorem qj3 {d:qb} {i k:Nat} (hi:i<d.Aa.length) (hk:k<(gt d.Aa i).Ah.length):off d i+k<(places d).length∧gt (places d) (off d i+k)=place1 d i k:=by
 obtain ⟨h1,h2⟩:=qrP hi hk
 refine ⟨by rw [qeV];omega,?_⟩
 unfold places
 rw [qiW,if_pos (show off d i+k<(plI d d.Aa.length).length from h1),h2]
theorem qmq {d:qb} {i:Nat} (hi:i<d.Af.length):off d d.Aa.length+i<(places d).length∧gt (places d) (off d d.Aa.length+i)=place2 d i:=by
 refine ⟨by rw [qeV];omega,?_⟩
 unfold places
 rw [qiW,if_neg (by unfold off;omega),show off d d.Aa.length+i-(plI d d.Aa.length).length=i by unfold off;omega]
 exact qlb hi
theorem qoZ {d:qb} {n j:Nat} (hj:j<off d n):∃ i k,i<n∧k<(gt d.Aa i).Ah.length∧j=off d i+k:=by
 induction n with
 | zero=>exact absurd hj (Nat.not_lt_zero _)
 | succ n ih =>
  by_cases h:j<off d n
  ·obtain ⟨i,k,h1,h2,h3⟩:=ih h
   exact ⟨i,k,by omega,h2,h3⟩
  ·rw [qhL] at hj
   exact ⟨n,j-off d n,by omega,by omega,by omega⟩
theorem qny {d:qb} {j:Nat} (hj:j<(places d).length) :
  (∃ i k,i<d.Aa.length∧k<(gt d.Aa i).Ah.length∧j=off d i+k∧gt (places d) j=place1 d i k) ∨
  (∃ i,i<d.Af.length∧j=off d d.Aa.length+i∧gt (places d) j=place2 d i):=by
 rw [qeV] at hj
 by_cases h:j<off d d.Aa.length
 ·obtain ⟨i,k,h1,h2,rfl⟩:=qoZ h
  exact .inl ⟨i,k,h1,h2,rfl,(qj3 h1 h2).2⟩
 ·refine .inr ⟨j-off d d.Aa.length,by omega,by omega,?_⟩
  have:=(qmq (d:=d) (i:=j-off d d.Aa.length) (by omega)).2
  rwa [show off d d.Aa.length+(j-off d d.Aa.length)=j by omega] at this
def drvQ (d:qb) (k:Int) (j:Nat):Bool:=((gt (places d) j).net==k)&&(gt (places d) j).drives
theorem qnm {q:Nat→Bool} {m n:Nat}:cntP q (m+n)=cntP q m+cntP (fun j=>q (m+j)) n:=by
 induction n with
 | zero=>rfl
 | succ n ih =>
  show cntP q (m+n)+(bif q (m+n) then 1 else 0)=cntP q m+(cntP (fun j=>q (m+j)) n+(bif q (m+n) then 1 else 0))
  rw [ih];omega
theorem qoT {q:Nat→Bool} {n:Nat} {b:Bool} (h:1≤n) (h1:∀ j,j+1<n→q j=false) (h2:q (n-1)=b):cntP q n=bif b then 1 else 0:=by
 obtain ⟨m,rfl⟩:∃ m,n=m+1:=⟨n-1,by omega⟩
 show cntP q m+(bif q m then 1 else 0)=_
 rw [qkm.2 (fun j hj=>h1 j (by omega)),show m=m+1-1 by omega,h2,jL]
theorem qnR {d:qb} {k:Nat} (hs:smallD d):cntP (drvQ d (k:Int)) (places d).length=drvI d k d.Aa.length+drvP d k d.Af.length:=by
 rw [qeV,qnm]
 congr 1
 ·have:∀ n,n≤d.Aa.length→cntP (drvQ d (k:Int)) (off d n)=drvI d k n:=by
   intro n
   induction n with
   | zero=>intro _;rfl
   | succ n ih =>
    intro hn
    rw [qhL,qnm,ih (by omega),qj5]
    congr 1
    have h2:=(hs.nx n (by omega)).1
    refine qoT (by omega) (fun j hj=>?_) ?_
    ·show drvQ d _ (off d n+j)=false
     unfold drvQ
     rw [(qj3 (by omega) (by omega)).2]
     unfold place1
     simp;omega
    ·show drvQ d _ (off d n+_)=_
     unfold drvQ
     rw [(qj3 (by omega) (by omega)).2]
     unfold place1 lastN
     simp;omega
  exact this _ (je _)
 ·refine qoh (fun j hj=>?_)
  show drvQ d _ (off d _+j)=_
  unfold drvQ
  rw [(qmq hj).2]
  unfold place2
  exact Bool.and_comm _ _
theorem qoG {l:ql} {d:qb} (h:designB l d=true) {k:Nat} (hk:k<d.Ah.length):cntP (drvQ d (k:Int)) (places d).length=1:=by
 rw [qnR (qa0 h)]
 unfold designB drvB at h
 simp only [jf] at h
 have:=qag.1 h.2.2.2 k hk
 rw [beq_iff_eq] at this
 omega
theorem qnC {l:ql} {d:qb} (h:designB l d=true) {i j:Nat} (hi:i<(places d).length) (hj:j<(places d).length) (he:(gt (places d) i).net=(gt (places d) j).net) (h1:(gt (places d) i).drives=true) (h2:(gt (places d) j).drives=true):i=j:=by
 obtain ⟨n0,n1⟩:=qjw h hi
 have e:=qii n0
 have:=qoG h (k:=(gt (places d) i).net.toNat) (by omega)
 refine qnq (Nat.le_of_eq this) hi hj ?_ ?_
 ·unfold drvQ;rw [←e,h1];simp
 ·unfold drvQ;rw [←e,h2,he];simp
theorem qrJ {l:ql} {d:qb} (h:designB l d=true) {k:Int} (h0:0≤k) (h1:k<d.Ah.length):∃ j,j<(places d).length∧(gt (places d) j).net=k∧(gt (places d) j).drives=true:=by
 have e:=qii h0
 have:=qoG h (k:=k.toNat) (by omega)
 have hp:decide (0<cntP (drvQ d ((k.toNat:Nat):Int)) (places d).length)=true:=by rw [this];rfl
 rw [qnL,jx,qhV] at hp
 obtain ⟨j,hj,hq⟩:=hp
 rw [Bool.not_eq_false',←e] at hq
 unfold drvQ at hq
 simp only [jf,beq_iff_eq] at hq
 exact ⟨j,hj,hq.1,hq.2⟩
def cellAt (b:qk) (i:Int):qn:=gt b.As.Ak (gt b.Ab.Aa i.toNat).Bl.toNat
theorem qkj {l:ql} {d:qb} (h:designB l d=true) {i:Nat} (hi:i<d.Aa.length) :
  (0≤(gt d.Aa i).Bl∧(gt d.Aa i).Bl<l.Ak.length)∧(gt d.Aa i).Ah.length=(gt l.Ak (gt d.Aa i).Bl.toNat).Ap.length∧cellB (gt l.Ak (gt d.Aa i).Bl.toNat)=true:=by
 unfold designB libB at h
 simp only [jf] at h
 obtain ⟨⟨⟨hc,_⟩,_⟩,hI,_⟩:=h
 rw [qgj,qag] at hI hc
 have:=hI i hi
 unfold instB at this
 simp only [jf,qby,beq_iff_eq] at this
 exact ⟨⟨this.1.1,by omega⟩,by omega,hc _ (by omega)⟩
theorem qm8 {c:qn} (h:cellB c=true) {j:Nat} (hj:j<c.Aj.length):(1≤(gt c.Aj j).Av∧(gt c.Aj j).Av≤5)∧(0≤(gt c.Aj j).Bb∧(gt c.Aj j).Bb<(c.Ap.length:Int)-1)∧(0≤(gt c.Aj j).To∧(gt c.Aj j).To≤(c.Ap.length:Int)-1)∧arcS c.Ap (gt c.Aj j)=true:=by
 unfold cellB at h
 simp only [jf] at h
 obtain ⟨_,hp,⟨ha,_⟩,_,_,hk⟩:=h
 have:=qag.1 ha j hj
 rw [jf,qpK hp (qml hk)] at this
 have h1:=this.1
 refine ⟨qmo h1,?_⟩
 have h2:=h1
 unfold arcS at h2
 simp only [jf,qby] at h2
 refine ⟨⟨h2.1.1.1,by omega⟩,h2.1.2,h1⟩
theorem qld {c:qn} (h:cellB c=true):c.Aj.length≤8:=by
 unfold cellB at h
 simp only [jf,decide_eq_true_eq] at h
 exact h.2.2.1.2
theorem qbX {b:qk} (h:blockB b=true):designB b.As b.Ab=true:=by
 unfold blockB at h;simp only [jf] at h;exact h.1.1
end Go.Fw


namespace Go.Fw
open Go
set_option maxRecDepth 100000
theorem qpa {d:qb} {k:Int} {n i:Nat} (hi:i<(sinksL d k n).length):∃ y:Nat,y<n∧idx (sinksL d k n) (i:Int)=some (y:Int)∧snkQ d k y=true:=by
 rw [qgk hi]
 have hm:(sinksL d k n)[i] ∈ sinksL d k n:=jt hi
 generalize (sinksL d k n)[i]=z at hm
 unfold sinksL at hm
 obtain ⟨y,hy,rfl⟩:=List.mem_map.1 hm
 obtain ⟨h1,h2⟩:=List.mem_filter.1 hy
 exact ⟨y,List.mem_range.1 h1,rfl,h2⟩
theorem qlT {d:qb} {k:Int} (h:smallD d):Ev (fun n=>qdY n d k) (sinksL d k (places d).length):=by
 have hl:=qcW h
 have hL:Ev (fun n=>qai k (places d) n ([]:List Int) 0) (sinksL d k (places d).length,((places d).length:Int)):=by
  refine loopF (Lf:=qai k (places d)) (S:=fun j=>sinksL d k j) (len:=(places d).length) (fun n=>?_) (fun j hj X hX=>?_)
  ·simp only [qai,qj (je _),cond_false]
  ·have hc:(sinksL d k j).length+[(j:Int)].length≤2147483648:=by
    rw [qfv]
    have:cntP (snkQ d k) j≤j:=qdW
    simp;omega
   simp only [qai,qi hj,cond_true,qM hj,jd,wS j]
   rw [qgd] at hX
   unfold snkQ at hX
   cases h1:((gt (places d) j).net==k)
   ·rw [h1] at hX
    simp only [Bool.false_and,cond_false,List.append_nil] at hX ⊢
    exact hX
   ·cases h2:(gt (places d) j).drives
    ·rw [h1,h2] at hX
     simp only [Bool.not_false,Bool.and_self,cond_true,qdq hc,jd] at hX ⊢
     exact hX
    ·rw [h1,h2] at hX
     simp only [Bool.not_true,Bool.and_false,cond_false,List.append_nil,cond_true] at hX ⊢
     exact hX
 unfold qdY
 exact Ev.bind (qiX h) (Ev.bind hL .done)
structure wireOk (b:qk) (i:Nat):Prop where
 lo:1≤(gt b.Ac i).Ai.length
 hi:(gt b.Ac i).Ai.length≤8
 res:(gt b.Ac i).Bn.length=(gt b.Ac i).Ai.length
 cap:(gt b.Ac i).Bk.length=(gt b.Ac i).Ai.length
 par:∀ j,0<j→j<(gt b.Ac i).Ai.length→0≤at0 (gt b.Ac i).Ai j∧at0 (gt b.Ac i).Ai j<j
 snk:(gt b.Ac i).Bc.length=(sinksL b.Ab (i:Int) (places b.Ab).length).length
 sin:∀ j,j<(gt b.Ac i).Bc.length→0≤at0 (gt b.Ac i).Bc j∧at0 (gt b.Ac i).Bc j<(gt b.Ac i).Ai.length
theorem qeW {b:qk} (h:blockB b=true) {i:Nat} (hi:i<b.Ac.length):wireOk b i:=by
 unfold blockB at h
 rw [jf,qag] at h
 have:=h.2 i hi
 unfold wireB lenB at this
 simp only [jf,decide_eq_true_eq,beq_iff_eq] at this
 obtain ⟨⟨h1,h2⟩,h3,h4,h5,_,_,h6,h7⟩:=this
 refine ⟨h1,h2,by omega,by omega,fun j hj0 hj=>?_,?_,fun j hj=>?_⟩
 ·have:=qag.1 h5 j hj
  unfold treeB at this
  rw [show decide (j=0)=false by simp;omega] at this
  simp only [cond_false,qby] at this
  omega
 ·rw [qfv]
  unfold snkN at h6
  omega
 ·rw [qf5 (d:=0),qag] at h7
  have:=h7 j hj
  rw [qby] at this
  unfold at0
  omega
theorem qn7 {b:qk} (h:blockB b=true):b.Ac.length=b.Ab.Ah.length:=by
 unfold blockB at h
 simp only [jf,beq_iff_eq] at h
 omega
end Go.Fw


namespace Go.Fw
open Go
set_option maxRecDepth 100000
instance:Inhabited qT:=⟨⟨0,0,0,0⟩⟩
instance:Inhabited qz:=⟨⟨0,0⟩⟩
theorem qq4 {α:Type} {m:Nat} {z:α} (h:m≤2147483648):mkS (m:Int) z=some (List.replicate m z):=by
 unfold mkS big
 rw [if_pos ⟨by omega,by omega⟩,jz]
end Go.Fw


namespace Go.Fw
open Go
set_option maxRecDepth 100000
def sumZ (f:Nat→Int):Nat→Int
 | 0=>0
 | n+1=>sumZ f n+f n
def pinCap (b:qk) (p:Tplace):Int:=bif decide (p.instance_<0) then 0 else (gt (cellAt b p.instance_).Ap p.pin.toNat).Bk
def capJ (b:qk) (j:Nat):Int:=pinCap b (gt (places b.Ab) j)
theorem qpu {b:qk} (h:blockB b=true) {j:Nat} (hj:j<(places b.Ab).length) {n:Nat}:qdV n b.Ab b.As (gt (places b.Ab) j)=some (capJ b j):=by
 have hd:=qbX h
 unfold capJ pinCap
 rcases qny hj with ⟨i,k,hi,hk,_,e⟩|⟨i,hi,_,e⟩
 ·rw [e]
  obtain ⟨⟨c0,c1⟩,hn,_⟩:=qkj hd hi
  unfold place1 cellAt
  simp only [qdV,show decide ((i:Int)<0)=false by simp,cond_false,qM hi,jd,qgR c0 c1,jz,qM (show k<(gt b.As.Ak (gt b.Ab.Aa i).Bl.toNat).Ap.length by omega)]
 ·rw [e];rfl
def skL (b:qk) (i:Nat):List Int:=sinksL b.Ab (i:Int) (places b.Ab).length
def addSink (b:qk) (w:qC) (sk:List Int) (t:List Int) (j:Nat):List Int:=setS t (at0 w.Bc j) (W64 (gt t (at0 w.Bc j).toNat+capJ b (at0 sk j).toNat))
def ldA (b:qk) (w:qC) (sk:List Int):Nat→List Int
 | 0=>w.Bk
 | j+1=>addSink b w sk (ldA b w sk j) j
def addUp (w:qC) (t:List Int) (j:Nat):List Int:=setS t (at0 w.Ai j) (W64 (gt t (at0 w.Ai j).toNat+gt t j))
def ldB (w:qC):Nat→List Int→List Int
 | 0,t=>t
 | j+1,t=>ldB w j (addUp w t (j+1))
def loadsL (b:qk) (i:Nat):List Int:=ldB (gt b.Ac i) ((gt b.Ac i).Ai.length-1) (ldA b (gt b.Ac i) (skL b i) (skL b i).length)
theorem qmH {b:qk} {w:qC} {sk:List Int} {j:Nat}:(ldA b w sk j).length=w.Bk.length:=by
 induction j with
 | zero=>rfl
 | succ j ih=>unfold ldA addSink;rw [qk6,ih]
theorem qqU {w:qC} {j:Nat} {t:List Int}:(ldB w j t).length=t.length:=by
 induction j generalizing t with
 | zero=>rfl
 | succ j ih=>unfold ldB addUp;rw [ih,qk6]
theorem qll {b:qk} (h:blockB b=true) {i:Nat} (hi:i<b.Ac.length):(loadsL b i).length=(gt b.Ac i).Ai.length:=by
 unfold loadsL;rw [qqU,qmH,(qeW h hi).cap]
theorem qiS {b:qk} (h:blockB b=true) {i:Nat}:(skL b i).length≤78:=by
 have hl:=qcW (qa0 (qbX h))
 unfold skL
 rw [qfv]
 have:cntP (snkQ b.Ab (i:Int)) (places b.Ab).length≤(places b.Ab).length:=qdW
 omega
theorem qp2 {b:qk} {i j:Nat} (hj:j<(skL b i).length):∃ y:Nat,y<(places b.Ab).length∧at0 (skL b i) j=(y:Int)∧snkQ b.Ab (i:Int) y=true:=by
 obtain ⟨y,h1,h2,h3⟩:=qpa hj
 exact ⟨y,h1,by have:=h2;rw [show (sinksL b.Ab (i:Int) (places b.Ab).length)=skL b i from rfl,qbi hj] at this;exact Option.some.inj this,h3⟩
theorem qjY {b:qk} (h:blockB b=true) {i:Nat} (hi:i<b.Ac.length):Ev (fun n=>qbN n b (i:Int)) (loadsL b i):=by
 have hw:=qeW h hi
 have hs:=qa0 (qbX h)
 have hlo:=hw.lo
 have hhi:=hw.hi
 have hcap:=hw.cap
 have hsm:=qiS h (i:=i)
 have e1:Ev (fun n=>qas b (gt b.Ac i) (places b.Ab) (skL b i) n (gt b.Ac i).Bk 0) (ldA b (gt b.Ac i) (skL b i) (skL b i).length,((skL b i).length:Int)):=by
  refine loopF (Lf:=qas b (gt b.Ac i) (places b.Ab) (skL b i)) (S:=ldA b (gt b.Ac i) (skL b i)) (len:=(skL b i).length) (fun n=>?_) (fun j hj X hX=>?_)
  ·simp only [qas,qj (je _),cond_false]
  ·obtain ⟨y,hy,ey,_⟩:=qp2 hj
   have hjs:j<(gt b.Ac i).Bc.length:=by rw [hw.snk];exact hj
   have hsn:=hw.sin j hjs
   have hln:=qmH (b:=b) (w:=gt b.Ac i) (sk:=skL b i) (j:=j)
   simp only [qas,qi hj,cond_true,qbi hj,ey,jd,qbi hjs,qgR hsn.1 (show at0 (gt b.Ac i).Bc j<((ldA b (gt b.Ac i) (skL b i) j).length:Int) by omega),qM hy,qpu h hy,wS j]
   have:ldA b (gt b.Ac i) (skL b i) (j+1)=setS (ldA b (gt b.Ac i) (skL b i) j) (at0 (gt b.Ac i).Bc j) (W64 (gt (ldA b (gt b.Ac i) (skL b i) j) (at0 (gt b.Ac i).Bc j).toNat+capJ b y)):=by
    show addSink _ _ _ _ _=_
    unfold addSink
    rw [ey,jz]
   rw [this] at hX
   exact hX
 have e2:∀ j t,t.length=(gt b.Ac i).Ai.length→j<(gt b.Ac i).Ai.length→Ev (fun n=>qaw (gt b.Ac i) n t (j:Int)) (ldB (gt b.Ac i) j t,0):=by
  intro j
  induction j with
  | zero =>
   intro t _ _
   refine Ev.succ ?_
   show Ev (fun n=>qaw (gt b.Ac i) (n+1) t 0) _
   unfold qaw
   exact Ev.ff rfl .done
  | succ j ih =>
   intro t ht hj
   have hp:=hw.par (j+1) (by omega) hj
   refine Ev.succ ?_
   simp only [qaw,show decide (((j+1:Nat):Int) > 0)=true from decide_eq_true (by omega),cond_true,qbi hj,jd,qgR hp.1 (show at0 (gt b.Ac i).Ai (j+1)<(t.length:Int) by omega),qM (show j+1<t.length by omega),show ((j+1:Nat):Int)-1=(j:Int) by omega,qbK (show -9223372036854775808≤(j:Int) by omega) (by omega)]
   exact ih _ (by rw [qk6];exact ht) (by omega)
 unfold qbN qeP
 rw [qM hi]
 simp only [jd,qdq (show ([]:List Int).length+(gt b.Ac i).Bk.length≤2147483648 by simp;omega),List.nil_append]
 refine Ev.bind (qiX hs) (Ev.bind (qlT hs) (Ev.bind e1 ?_))
 rw [qdJ (show (gt b.Ac i).Bk.length≤9223372036854775807 by omega),show ((gt b.Ac i).Bk.length:Int)-1=(((gt b.Ac i).Ai.length-1:Nat):Int) by omega]
 exact Ev.bind (e2 _ _ (by rw [qmH];exact hcap) (by omega)) .done
structure LdOk (t:List Int) (L:Nat) (S:Int):Prop where
 len:t.length=L
 nn:∀ k,k<L→0≤gt t k
 sum:sumZ (gt t) L≤S
def dlL (w:qC) (ld:List Int):Nat→List Int
 | 0=>[0]
 | k+1=>dlL w ld k++[W64 (gt (dlL w ld k) (at0 w.Ai (k+1)).toNat+W64 (at0 w.Bn (k+1)*gt ld (k+1)))]
theorem qmB {w:qC} {ld:List Int} {k:Nat}:(dlL w ld k).length=k+1:=by
 induction k with
 | zero=>rfl
 | succ k ih=>unfold dlL;rw [jm,ih];rfl
def delaysL (b:qk) (i:Nat):List Int:=dlL (gt b.Ac i) (loadsL b i) ((gt b.Ac i).Ai.length-1)
def exactL (b:qk) (i:Nat):List Int:=(gt b.Ac i).Bc.map fun s=>gt (delaysL b i) s.toNat
theorem qna {b:qk} (h:blockB b=true) {i:Nat} (hi:i<b.Ac.length):(delaysL b i).length=(gt b.Ac i).Ai.length:=by
 unfold delaysL
 rw [qmB]
 have:=(qeW h hi).lo
 omega
theorem qrb {w:qC} {ld:List Int} {k m:Nat} (hm:k+1<m) (hp:at0 w.Ai (k+1)<((k+1:Nat):Int)) (_:0≤at0 w.Ai (k+1)) :
  setS (dlL w ld k++List.replicate (m-(k+1)) 0) ((k+1:Nat):Int) (W64 (gt (dlL w ld k++List.replicate (m-(k+1)) 0) (at0 w.Ai (k+1)).toNat+W64 (at0 w.Bn (k+1)*gt ld (k+1))))=dlL w ld (k+1)++List.replicate (m-(k+1+1)) 0:=by
 have hlen:=qmB (w:=w) (ld:=ld) (k:=k)
 have e1:gt (dlL w ld k++List.replicate (m-(k+1)) 0) (at0 w.Ai (k+1)).toNat=gt (dlL w ld k) (at0 w.Ai (k+1)).toNat:=by
  rw [qiW,if_pos (by omega)]
 rw [e1]
 unfold setS
 rw [jz,List.set_append,if_neg (by omega),hlen,Nat.sub_self,show m-(k+1)=(m-(k+1+1))+1 by omega,List.replicate_succ,List.set_cons_zero]
 show _=(dlL w ld k++[_])++_
 rw [jy]
 rfl
theorem qlN {b:qk} (h:blockB b=true) {i:Nat} (hi:i<b.Ac.length):Ev (fun n=>qcu n b (i:Int)) (delaysL b i):=by
 have hw:=qeW h hi
 have hlo:=hw.lo
 have hhi:=hw.hi
 have hres:=hw.res
 have l1:=qll h hi
 have hmk:mkS ((loadsL b i).length:Int) (0:Int)=some (List.replicate (loadsL b i).length 0):=qeJ (by omega)
 have main:∀ d k,k+1+d=(gt b.Ac i).Ai.length→Ev (fun n=>qaH (gt b.Ac i) (loadsL b i) (List.replicate (loadsL b i).length 0) n (dlL (gt b.Ac i) (loadsL b i) k++List.replicate ((gt b.Ac i).Ai.length-(k+1)) 0) ((k+1:Nat):Int)) (delaysL b i,((loadsL b i).length:Int)):=by
  intro d
  induction d with
  | zero =>
   intro k hk
   refine Ev.succ ?_
   simp only [qaH,List.length_replicate,qj (show (loadsL b i).length≤k+1 by omega),cond_false]
   refine Ev.now ?_
   rw [show (gt b.Ac i).Ai.length-(k+1)=0 by omega,List.replicate_zero,List.append_nil,l1,←hk]
   unfold delaysL
   rw [←hk]
   rfl
  | succ d ih =>
   intro k hk
   have hp:=hw.par (k+1) (by omega) (by omega)
   have hlen:=qmB (w:=gt b.Ac i) (ld:=loadsL b i) (k:=k)
   have hll:(dlL (gt b.Ac i) (loadsL b i) k++List.replicate ((gt b.Ac i).Ai.length-(k+1)) 0).length=(gt b.Ac i).Ai.length:=by rw [jm,List.length_replicate,hlen];omega
   refine Ev.succ ?_
   simp only [qaH,List.length_replicate,qi (show k+1<(loadsL b i).length by omega),cond_true,qbi (show k+1<(gt b.Ac i).Ai.length by omega),jd,qgR hp.1 (show at0 (gt b.Ac i).Ai (k+1)<((dlL (gt b.Ac i) (loadsL b i) k++List.replicate ((gt b.Ac i).Ai.length-(k+1)) 0).length:Int) by omega),
    qbi (show k+1<(gt b.Ac i).Bn.length by omega),qM (show k+1<(loadsL b i).length by omega),qM (show k+1<(dlL (gt b.Ac i) (loadsL b i) k++List.replicate ((gt b.Ac i).Ai.length-(k+1)) 0).length by omega),qiA (show k+1<9223372036854775807 by omega)]
   rw [qrb (by omega) hp.2 hp.1]
   exact ih (k+1) (by omega)
 unfold qcu
 rw [qM hi]
 simp only [jd]
 refine Ev.bind (qjY h hi) ?_
 rw [hmk]
 simp only [jd]
 have:=main ((gt b.Ac i).Ai.length-1) 0 (by omega)
 have e0:dlL (gt b.Ac i) (loadsL b i) 0++List.replicate ((gt b.Ac i).Ai.length-(0+1)) 0=List.replicate (loadsL b i).length 0:=by
  rw [l1]
  show [(0:Int)]++_=_
  rw [show (gt b.Ac i).Ai.length=((gt b.Ac i).Ai.length-(0+1))+1 by omega,List.replicate_succ]
  rfl
 rw [e0] at this
 exact Ev.bind this .done
theorem qlh {b:qk} (h:blockB b=true) {i:Nat} (hi:i<b.Ac.length):Ev (fun n=>qcb n b (i:Int)) (exactL b i):=by
 have hw:=qeW h hi
 have hsl:(gt b.Ac i).Bc.length≤78:=by rw [hw.snk];exact qiS h
 have hdl:=qna h hi
 have e3:Ev (fun n=>qae (delaysL b i) (gt b.Ac i) n ([]:List Int) 0) (exactL b i,((gt b.Ac i).Bc.length:Int)):=by
  refine loopF (Lf:=qae (delaysL b i) (gt b.Ac i)) (S:=fun j=>((gt b.Ac i).Bc.take j).map fun s=>gt (delaysL b i) s.toNat) (len:=(gt b.Ac i).Bc.length) (fun n=>?_) (fun j hj X hX=>?_)
  ·simp only [qae,qj (je _),cond_false,jK];rfl
  ·have hsn:=hw.sin j hj
   simp only [qae,qi hj,cond_true,qbi hj,jd,qgR hsn.1 (show at0 (gt b.Ac i).Bc j<((delaysL b i).length:Int) by omega),wS j]
   rw [qdq (by rw [jG,List.length_take,jD];omega)]
   have:((gt b.Ac i).Bc.take j).map (fun s=>gt (delaysL b i) s.toNat)++[gt (delaysL b i) (at0 (gt b.Ac i).Bc j).toNat]=((gt b.Ac i).Bc.take (j+1)).map fun s=>gt (delaysL b i) s.toNat:=by
    rw [List.take_succ_eq_append_getElem hj,List.map_append,qpI hj];rfl
   rw [this]
   exact hX
 unfold qcb
 refine Ev.bind (qlN h hi) ?_
 rw [qM hi]
 simp only [jd]
 exact Ev.bind e3 .done
end Go.Fw


namespace Go.Fw
open Go
set_option maxRecDepth 100000
def pre {α:Type} (f:Nat→α) (j:Nat):List α:=(List.range j).map f
theorem qoy {α:Type} {f:Nat→α} {j:Nat}:(pre f j).length=j:=by simp [pre]
theorem qqh {α:Type} {f:Nat→α} {j:Nat}:pre f j++[f j]=pre f (j+1):=by unfold pre;rw [List.range_succ,List.map_append];rfl
theorem qoC {α:Type} {f:Nat→α} {j:Nat} (h:j≤1048576):appS (pre f j) [f j]=some (pre f (j+1)):=by
 rw [qdq (by rw [qoy,jD];omega),qqh]
theorem qrX {α:Type} [Inhabited α] {f:Nat→α} {n j:Nat} (h:j<n):gt (pre f n) j=f j:=qlb h
theorem qoA {α:Type} [Inhabited α] {f:Nat→α} {n j:Nat} (h:j<n):idx (pre f n) (j:Int)=some (f j):=by rw [qM (by rw [qoy];exact h),qrX h]
theorem qmm {α:Type} {f g:Nat→α} {n:Nat} (h:∀ k,k<n→f k=g k):pre f n=pre g n:=List.map_congr_left fun k hk=>h k (List.mem_range.1 hk)
theorem qqV {α:Type} {f:Nat→α} {n k:Nat} {v:α}:setS (pre f n) (k:Int) v=pre (fun i=>if i=k then v else f i) n:=by
 unfold setS pre
 rw [jz]
 refine List.ext_getElem (by simp) fun i h1 h2=>?_
 rw [List.getElem_set]
 by_cases h:k=i
 ·subst h;simp
 ·rw [if_neg h];simp [show ¬ i=k from fun e=>h e.symm]
def fm {α:Type} (f:Nat→List α) (j:Nat):List α:=(List.range j).flatMap f
theorem qjX {α:Type} {f:Nat→List α} {j:Nat}:fm f (j+1)=fm f j++f j:=by unfold fm;rw [List.range_succ,List.flatMap_append];simp
theorem qlx {α:Type} {f:Nat→List α} {j c:Nat} (h:∀ i,i<j→(f i).length≤c):(fm f j).length≤c*j:=by
 induction j with
 | zero=>exact je _
 | succ j ih=>rw [qjX,jm];have:=ih (fun i hi=>h i (by omega));have:=h j (by omega);rw [Nat.mul_succ];omega
def transL (a:qL):List qz :=
 bif (a.Av==2) then [⟨0,0⟩,⟨0,1⟩] else bif (a.Av==3) then [⟨1,0⟩,⟨1,1⟩] else bif (a.Av != 1) then [] else
 bif (a.Bi==1) then [⟨0,0⟩,⟨1,1⟩] else bif (a.Bi==2) then [⟨0,1⟩,⟨1,0⟩] else [⟨0,0⟩,⟨0,1⟩,⟨1,0⟩,⟨1,1⟩]
theorem qps {a:qL} {n:Nat}:qcQ n a=some (transL a):=by
 unfold qcQ transL
 cases (a.Av==2)
 ·cases (a.Av==3)
  ·cases (a.Av != 1)
   ·cases (a.Bi==1)
    ·cases (a.Bi==2)<;>rfl
    ·rfl
   ·rfl
  ·rfl
 ·rfl
theorem qk5 {a:qL}:(transL a).length≤4:=by
 unfold transL
 cases (a.Av==2)
 ·cases (a.Av==3)
  ·cases (a.Av != 1)
   ·cases (a.Bi==1)
    ·cases (a.Bi==2)<;>simp
    ·simp
   ·simp
  ·simp
 ·simp
def b01 (x:Int):Prop:=x=0∨x=1
theorem qpr {a:qL} {t:qz} (h:t ∈ transL a):b01 t.e0∧b01 t.e1:=by
 have main:∀ t ∈ [(⟨0,0⟩:qz),⟨0,1⟩,⟨1,0⟩,⟨1,1⟩],b01 t.e0∧b01 t.e1:=by
  intro t ht
  simp only [jM,jJ,or_false] at ht
  rcases ht with rfl|rfl|rfl|rfl<;>simp [b01]
 refine main t ?_
 unfold transL at h
 revert h
 cases (a.Av==2)
 ·cases (a.Av==3)
  ·cases (a.Av != 1)
   ·cases (a.Bi==1)
    ·cases (a.Bi==2)
     ·exact fun h=>h
     ·intro h;simp at h;rcases h with rfl|rfl<;>simp
    ·intro h;simp at h;rcases h with rfl|rfl<;>simp
   ·intro h;simp at h
  ·intro h;simp at h;rcases h with rfl|rfl<;>simp
 ·intro h;simp at h;rcases h with rfl|rfl<;>simp
def al1 (first:Int) (k:Nat) (a:qL) (t:qz):qT:=⟨2*(first+a.Bb)+t.e0,2*(first+a.To)+t.e1,1,(k:Int)⟩
def arcLs (first:Int) (k:Nat) (a:qL):List qT:=(transL a).map (al1 first k a)
def cellLs (c:qn) (first:Int) (j:Nat):List qT:=fm (fun k=>arcLs first k (gt c.Aj k)) j
def instLs (b:qk) (j:Nat):List qT:=fm (fun i=>cellLs (cellAt b (i:Int)) (off b.Ab i:Int) (cellAt b (i:Int)).Aj.length) j
theorem qma {first:Int} {k:Nat} {a:qL}:(arcLs first k a).length≤4:=by unfold arcLs;rw [jG];exact qk5
theorem qmG {b:qk} (h:blockB b=true) {i:Nat} (hi:i<b.Ab.Aa.length):Ev (fun n=>qcT n b (gt b.Ab.Aa i) (off b.Ab i:Int)) (cellLs (cellAt b (i:Int)) (off b.Ab i:Int) (cellAt b (i:Int)).Aj.length):=by
 have hd:=qbX h
 have hs:=qa0 hd
 obtain ⟨⟨c0,c1⟩,hnl,hcb⟩:=qkj hd hi
 have ha:=qld hcb
 have hpb:=(qfA (qjn hcb)).1
 have hoff:off b.Ab i≤78:=by
  have:=qcW hs
  rw [qeV] at this
  have:=qqC (d:=b.Ab) (show i≤b.Ab.Aa.length by omega)
  omega
 show Ev _ (cellLs (gt b.As.Ak (gt b.Ab.Aa i).Bl.toNat) (off b.Ab i:Int) (gt b.As.Ak (gt b.Ab.Aa i).Bl.toNat).Aj.length)
 generalize hc:gt b.As.Ak (gt b.Ab.Aa i).Bl.toNat=c at hnl hcb ha hpb ⊢
 have hL:Ev (fun n=>qar (off b.Ab i:Int) c n ([]:List qT) 0) (cellLs c (off b.Ab i:Int) c.Aj.length,(c.Aj.length:Int)):=by
  refine loopF (Lf:=qar (off b.Ab i:Int) c) (S:=cellLs c (off b.Ab i:Int)) (len:=c.Aj.length) (fun n=>?_) (fun j hj X hX=>?_)
  ·simp only [qar,qj (je _),cond_false]
  ·have hk:=qm8 hcb hj
   have hcl:(cellLs c (off b.Ab i:Int) j).length≤4*j:=qlx fun _ _=>qma
   simp only [qar,qi hj,cond_true,qM hj,jd,qps,wS j]
   have hL2:Ev (fun n=>qaq (off b.Ab i:Int) (j:Int) (gt c.Aj j) (transL (gt c.Aj j)) n (cellLs c (off b.Ab i:Int) j) 0) (cellLs c (off b.Ab i:Int) (j+1),((transL (gt c.Aj j)).length:Int)):=by
    have h4:=qk5 (a:=gt c.Aj j)
    have:=loopF (Lf:=qaq (off b.Ab i:Int) (j:Int) (gt c.Aj j) (transL (gt c.Aj j))) (S:=fun k=>cellLs c (off b.Ab i:Int) j++((transL (gt c.Aj j)).take k).map (al1 (off b.Ab i:Int) j (gt c.Aj j))) (len:=(transL (gt c.Aj j)).length) (fin:=(cellLs c (off b.Ab i:Int) (j+1),((transL (gt c.Aj j)).length:Int))) (fun n=>by
      simp only [qaq,qj (je _),cond_false,jK]
      show some (cellLs c _ j++arcLs _ j _,_)=some (fm _ (j+1),_)
      rw [qjX];rfl)
     (fun k hk2 X hX=>by
      have ht:=qpr (a:=gt c.Aj j) (t:=gt (transL (gt c.Aj j)) k) (by rw [qh6 hk2];exact jt hk2)
      have e0:W64 (W64 (2*W64 ((off b.Ab i:Int)+(gt c.Aj j).Bb))+(gt (transL (gt c.Aj j)) k).e0)=2*((off b.Ab i:Int)+(gt c.Aj j).Bb)+(gt (transL (gt c.Aj j)) k).e0:=by
       rcases ht.1 with e|e<;>rw [e,wO ((off b.Ab i:Int)+(gt c.Aj j).Bb),qbK (x:=2*((off b.Ab i:Int)+(gt c.Aj j).Bb)) (by omega) (by omega),qbK (by omega) (by omega)]
      have e1:W64 (W64 (2*W64 ((off b.Ab i:Int)+(gt c.Aj j).To))+(gt (transL (gt c.Aj j)) k).e1)=2*((off b.Ab i:Int)+(gt c.Aj j).To)+(gt (transL (gt c.Aj j)) k).e1:=by
       rcases ht.2 with e|e<;>rw [e,wO ((off b.Ab i:Int)+(gt c.Aj j).To),qbK (x:=2*((off b.Ab i:Int)+(gt c.Aj j).To)) (by omega) (by omega),qbK (by omega) (by omega)]
      simp only [qaq,qi hk2,cond_true,qM hk2,jd,e0,e1,wS k]
      rw [qdq (by rw [jm,jG,List.length_take,jD];omega),jy]
      have:((transL (gt c.Aj j)).take k).map (al1 (off b.Ab i:Int) j (gt c.Aj j))++[al1 (off b.Ab i:Int) j (gt c.Aj j) (gt (transL (gt c.Aj j)) k)]=((transL (gt c.Aj j)).take (k+1)).map (al1 (off b.Ab i:Int) j (gt c.Aj j)):=qdn hk2
      have this2:((transL (gt c.Aj j)).take k).map (al1 (off b.Ab i:Int) j (gt c.Aj j))++[(⟨2*((off b.Ab i:Int)+(gt c.Aj j).Bb)+(gt (transL (gt c.Aj j)) k).e0,2*((off b.Ab i:Int)+(gt c.Aj j).To)+(gt (transL (gt c.Aj j)) k).e1,1,(j:Int)⟩:qT)]=((transL (gt c.Aj j)).take (k+1)).map (al1 (off b.Ab i:Int) j (gt c.Aj j)):=this
      rw [this2]
      exact hX)
    simpa using this
   exact Ev.bind hL2 hX
 unfold qcT
 rw [qgR c0 c1,hc]
 simp only [jd]
 exact Ev.bind hL .done
def dvN (d:qb) (k:Nat):Nat:=((List.range (places d).length).find? fun j=>drvQ d (k:Int) j).getD 0
theorem qhP {l:ql} {d:qb} (h:designB l d=true) {k:Nat} (hk:k<d.Ah.length):dvN d k<(places d).length∧drvQ d (k:Int) (dvN d k)=true:=by
 obtain ⟨j,hj,hn,hdr⟩:=qrJ h (k:=(k:Int)) (by omega) (by omega)
 unfold dvN
 cases hf:(List.range (places d).length).find? fun j=>drvQ d (k:Int) j with
 | none =>
  have:=List.find?_eq_none.1 hf j (List.mem_range.2 hj)
  exact absurd (by unfold drvQ;rw [hn,hdr];simp) this
 | some i=>exact ⟨List.mem_range.1 (List.mem_of_find?_eq_some hf),by have:=List.find?_some hf;exact this⟩
theorem qjz {d:qb} {k:Int} {j:Nat}:drvQ d k j=true↔(gt (places d) j).net=k∧(gt (places d) j).drives=true:=by unfold drvQ;simp
theorem qnE {l:ql} {d:qb} (h:designB l d=true) {k:Nat} (hk:k<d.Ah.length) {j:Nat} (hj:j<(places d).length) (hn:(gt (places d) j).net=(k:Int)) (hd:(gt (places d) j).drives=true):dvN d k=j:=by
 obtain ⟨h1,h2⟩:=qhP h hk
 obtain ⟨h3,h4⟩:=qjz.1 h2
 exact qnC h h1 hj (by rw [h3,hn]) h4 hd
def wl1 (dv:Nat) (s:Int) (k:Nat):List qT:=[⟨2*(dv:Int),2*s,2,(k:Int)⟩,⟨2*(dv:Int)+1,2*s+1,2,(k:Int)⟩]
def wlN (b:qk) (i j:Nat):List qT:=fm (fun k=>wl1 (dvN b.Ab i) (at0 (skL b i) k) k) j
def wireLs (b:qk) (j:Nat):List qT:=fm (fun i=>wlN b i (skL b i).length) j
def linksL (b:qk):List qT:=instLs b b.Ab.Aa.length++wireLs b b.Ac.length
def load0 (b:qk) (i:Nat):Int:=gt (loadsL b i) 0
def viewE (b:qk) (ex:List Int):Tview:=⟨b,places b.Ab,linksL b,pre (load0 b) b.Ac.length,pre (exactL b) b.Ac.length,ex⟩
def viewV (b:qk):Tview:=viewE b []
theorem qjv {b:qk} (h:blockB b=true) {j:Nat} (hj:j≤b.Ab.Aa.length):(instLs b j).length≤32*j:=by
 refine qlx fun i hi=>?_
 obtain ⟨_,_,hcb⟩:=qkj (qbX h) (show i<b.Ab.Aa.length by omega)
 have ha:=qld hcb
 have:(cellLs (cellAt b (i:Int)) (off b.Ab i:Int) (cellAt b (i:Int)).Aj.length).length≤4*(cellAt b (i:Int)).Aj.length:=qlx fun _ _=>qma
 have e:(cellAt b (i:Int)).Aj.length≤8:=ha
 omega
theorem qoF {b:qk} {i j:Nat}:(wlN b i j).length≤2*j:=qlx fun _ _=>je _
theorem qn2 {b:qk} (h:blockB b=true) {j:Nat}:(wireLs b j).length≤156*j:=by
 refine qlx fun i _=>?_
 have:=qoF (b:=b) (i:=i) (j:=(skL b i).length)
 have:=qiS h (i:=i)
 omega
theorem qlt {b:qk} (h:blockB b=true):Ev (fun n=>qgv n b) (some (viewV b)):=by
 have hd:=qbX h
 have hs:=qa0 hd
 have hl:=qcW hs
 have hni:=hs.ni
 have hnn:=hs.nn
 have hwl:=qn7 h
 have e1:Ev (fun n=>qbZ b n ([]:List qT) 0 0) (instLs b b.Ab.Aa.length,(off b.Ab b.Ab.Aa.length:Int),(b.Ab.Aa.length:Int)):=by
  have:=loopF (τ:=List qT × Int) (Lf:=fun n t j=>qbZ b n t.1 t.2 j) (S:=fun j=>(instLs b j,(off b.Ab j:Int))) (len:=b.Ab.Aa.length) (fin:=(instLs b b.Ab.Aa.length,(off b.Ab b.Ab.Aa.length:Int),(b.Ab.Aa.length:Int))) (fun n=>by simp only [qbZ,qj (je _),cond_false])
   (fun j hj X hX=>by
    have hil:=qjv h (show j≤b.Ab.Aa.length by omega)
    have hil1:=qjv h (show j+1≤b.Ab.Aa.length by omega)
    have hoff:=qhL (d:=b.Ab) (i:=j)
    have hof:off b.Ab (j+1)≤78:=by
     rw [qeV] at hl
     have:=qqC (d:=b.Ab) (show j+1≤b.Ab.Aa.length by omega)
     omega
    simp only [qbZ,qi hj,cond_true,qM hj,jd,qaA,wS j]
    refine Ev.bind (qmG h hj) ?_
    have e:instLs b j++cellLs (cellAt b (j:Int)) (off b.Ab j:Int) (cellAt b (j:Int)).Aj.length=instLs b (j+1):=qjX.symm
    rw [qdq (by rw [←jm,e];omega),e,qbK (by omega) (by omega),show (off b.Ab j:Int)+((gt b.Ab.Aa j).Ah.length:Int)=((off b.Ab (j+1):Nat):Int) by omega]
    exact hX)
  exact this
 have hm1:mkS (b.Ac.length:Int) (0:Int)=some (vecI (fun _=>0) b.Ac.length):=qpb (by omega)
 have hm2:mkS (b.Ac.length:Int) ([]:List Int)=some (pre (fun _=>[]) b.Ac.length):=by
  rw [qq4 (by omega)]
  congr 1
  refine List.ext_getElem (by simp [pre]) fun i h1 h2=>?_
  simp [pre]
 have e2:Ev (fun n=>qbx (places b.Ab) n (pre (fun _=>[]) b.Ac.length) (vecI (fun _=>0) b.Ac.length) 0) (pre (fun i=>skL b i) b.Ac.length,vecI (fun k=>(dvN b.Ab k:Int)) b.Ac.length,((places b.Ab).length:Int)):=by
  have hdv:∀ k,k<b.Ac.length→dvN b.Ab k<(places b.Ab).length:=fun k hk=>(qhP hd (by omega)).1
  have:=loopF (τ:=List (List Int) × List Int) (Lf:=fun n t j=>qbx (places b.Ab) n t.1 t.2 j) (S:=fun j=>(pre (fun i=>sinksL b.Ab (i:Int) j) b.Ac.length,vecI (fun k=>if dvN b.Ab k<j then (dvN b.Ab k:Int) else 0) b.Ac.length)) (len:=(places b.Ab).length)
   (fin:=(pre (fun i=>skL b i) b.Ac.length,vecI (fun k=>(dvN b.Ab k:Int)) b.Ac.length,((places b.Ab).length:Int))) (fun n=>by
    simp only [qbx,qj (je _),cond_false]
    rw [qjg (g:=fun k=>(dvN b.Ab k:Int)) (fun k hk=>if_pos (hdv k hk))]
    rfl)
   (fun j hj X hX=>by
    obtain ⟨n0,n1⟩:=qjw hd hj
    obtain ⟨k0,hk0⟩:∃ k0:Nat,(gt (places b.Ab) j).net=(k0:Int):=⟨_,qii n0⟩
    have hkl:k0<b.Ac.length:=by omega
    simp only [qbx,qi hj,cond_true,qM hj,jd,hk0,wS j,qnc hkl,qoA (f:=fun i=>sinksL b.Ab (i:Int) j) hkl]
    cases hdr:(gt (places b.Ab) j).drives
    ·have e5:pre (fun i=>sinksL b.Ab (i:Int) (j+1)) b.Ac.length=setS (pre (fun i=>sinksL b.Ab (i:Int) j) b.Ac.length) (k0:Int) (sinksL b.Ab (k0:Int) j++[(j:Int)]):=by
      rw [qqV]
      refine qmm fun k hk=>?_
      rw [qgd]
      unfold snkQ
      rw [hk0,hdr]
      by_cases hkk:k=k0
      ·subst hkk;rw [if_pos rfl];simp
      ·rw [if_neg hkk,show (((k0:Int)==(k:Int))&&!false)=false by simp;omega];simp
     have e6:vecI (fun k=>if dvN b.Ab k<j+1 then (dvN b.Ab k:Int) else 0) b.Ac.length=vecI (fun k=>if dvN b.Ab k<j then (dvN b.Ab k:Int) else 0) b.Ac.length:=by
      refine qjg fun k hk=>?_
      have hne:dvN b.Ab k ≠ j:=fun e=>by
       have:=(qjz.1 (qhP hd (k:=k) (by omega)).2).2
       rw [e,hdr] at this;cases this
      by_cases h1:dvN b.Ab k<j
      ·rw [if_pos h1,if_pos (by omega)]
      ·rw [if_neg h1,if_neg (by omega)]
     rw [e5,e6] at hX
     simp only [cond_false]
     have hsl:(sinksL b.Ab (k0:Int) j).length≤j:=by rw [qfv];exact qdW
     rw [qdq (by rw [jD];omega)]
     exact hX
    ·have e5:pre (fun i=>sinksL b.Ab (i:Int) (j+1)) b.Ac.length=pre (fun i=>sinksL b.Ab (i:Int) j) b.Ac.length:=by
      refine qmm fun k hk=>?_
      rw [qgd]
      unfold snkQ
      rw [hdr];simp
     have hj0:=qnE hd (show k0<b.Ab.Ah.length by omega) hj hk0 hdr
     have e6:vecI (fun k=>if dvN b.Ab k<j+1 then (dvN b.Ab k:Int) else 0) b.Ac.length=setS (vecI (fun k=>if dvN b.Ab k<j then (dvN b.Ab k:Int) else 0) b.Ac.length) (k0:Int) (j:Int):=by
      rw [qpO]
      refine qjg fun k hk=>?_
      by_cases hkk:k=k0
      ·subst hkk;rw [if_pos rfl,hj0,if_pos (by omega)]
      ·rw [if_neg hkk]
       have hne:dvN b.Ab k ≠ j:=fun e=>by
        have:=(qjz.1 (qhP hd (k:=k) (by omega)).2).1
        rw [e,hk0] at this;omega
       by_cases h1:dvN b.Ab k<j
       ·rw [if_pos h1,if_pos (by omega)]
       ·rw [if_neg h1,if_neg (by omega)]
     rw [e5,e6] at hX
     exact hX)
  simpa [sinksL,pre,vecI] using this
 have hL5:∀ (i k:Nat) (s:Int) (t:List qT),i<b.Ac.length→0≤s→s≤78→t.length≤1000000→Ev (fun n=>qbY (vecI (fun k=>(dvN b.Ab k:Int)) b.Ac.length) (i:Int) (k:Int) s n t 0) (t++wl1 (dvN b.Ab i) s k,2):=by
  intro i k s t hi hs0 hs1 ht
  have hdv:=(qhP hd (k:=i) (by omega)).1
  have hy:idx (vecI (fun k=>(dvN b.Ab k:Int)) b.Ac.length) (i:Int)=some (dvN b.Ab i:Int):=qnc hi
  refine Ev.succ ?_
  simp only [qbY,hy,jd]
  refine Ev.tt rfl ?_
  rw [wO (2*(dvN b.Ab i:Int)),wO (2*s),wO (2*(dvN b.Ab i:Int)+0),wO (2*s+0),qdq (by rw [jD];omega)]
  simp only [jd]
  refine Ev.succ ?_
  simp only [qbY,hy,jd]
  refine Ev.tt rfl ?_
  rw [show W64 (0+1)=1 from rfl,wO (2*(dvN b.Ab i:Int)),wO (2*s),wO (2*(dvN b.Ab i:Int)+1),wO (2*s+1),qdq (by rw [jm,jD,jD];omega)]
  simp only [jd]
  refine Ev.succ ?_
  simp only [qbY]
  refine Ev.ff rfl (Ev.now ?_)
  unfold wl1
  rw [jy,Int.add_zero,Int.add_zero]
  rfl
 have hL4:∀ (i:Nat) (t:List qT),i<b.Ac.length→t.length≤900000→Ev (fun n=>qb3 (vecI (fun k=>(dvN b.Ab k:Int)) b.Ac.length) (i:Int) (skL b i) n t 0) (t++wlN b i (skL b i).length,((skL b i).length:Int)):=by
  intro i t hi ht
  have hsm:=qiS h (i:=i)
  have:=loopF (Lf:=qb3 (vecI (fun k=>(dvN b.Ab k:Int)) b.Ac.length) (i:Int) (skL b i)) (S:=fun k=>t++wlN b i k) (len:=(skL b i).length) (fin:=(t++wlN b i (skL b i).length,((skL b i).length:Int))) (fun n=>by simp only [qb3,qj (je _),cond_false])
   (fun k hk X hX=>by
    obtain ⟨y,hy,ey,_⟩:=qp2 hk
    have hwn:=qoF (b:=b) (i:=i) (j:=k)
    simp only [qb3,qi hk,cond_true,qbi hk,jd,wS k]
    refine Ev.bind (hL5 i k (at0 (skL b i) k) (t++wlN b i k) hi (by omega) (by omega) (by rw [jm];omega)) ?_
    rw [jy,show wlN b i k++wl1 (dvN b.Ab i) (at0 (skL b i) k) k=wlN b i (k+1) from qjX.symm]
    exact hX)
  simpa [wlN,fm] using this
 have e3:Ev (fun n=>qb1 b (pre (fun i=>skL b i) b.Ac.length) (vecI (fun k=>(dvN b.Ab k:Int)) b.Ac.length) n ([]:List (List Int)) ([]:List Int) (instLs b b.Ab.Aa.length) 0) (pre (exactL b) b.Ac.length,pre (load0 b) b.Ac.length,linksL b,(b.Ac.length:Int)):=by
  have hil:=qjv h (je _)
  have:=loopF (τ:=List (List Int) × List Int × List qT) (Lf:=fun n t j=>qb1 b (pre (fun i=>skL b i) b.Ac.length) (vecI (fun k=>(dvN b.Ab k:Int)) b.Ac.length) n t.1 t.2.1 t.2.2 j) (S:=fun j=>(pre (exactL b) j,pre (load0 b) j,instLs b b.Ab.Aa.length++wireLs b j)) (len:=b.Ac.length)
   (fin:=(pre (exactL b) b.Ac.length,pre (load0 b) b.Ac.length,linksL b,(b.Ac.length:Int))) (fun n=>by simp only [qb1,qj (je _),cond_false];rfl)
   (fun j hj X hX=>by
    have hw:=qeW h hj
    have hlo:=hw.lo
    have hll:=qll h hj
    have hwl2:=qn2 h (j:=j)
    simp only [qb1,qi hj,cond_true,wS j]
    refine Ev.bind (qjY h hj) ?_
    rw [show idx (loadsL b j) (0:Int)=some (load0 b j) from qM (j:=0) (by omega)]
    simp only [jd]
    rw [qoC (by omega)]
    simp only [jd]
    refine Ev.bind (qlh h hj) ?_
    rw [qoC (by omega),qoA (f:=fun i=>skL b i) hj]
    simp only [jd]
    refine Ev.bind (hL4 j _ hj (by rw [jm];omega)) ?_
    rw [jy,show wireLs b j++wlN b j (skL b j).length=wireLs b (j+1) from qjX.symm]
    exact hX)
  simpa [wireLs,fm,pre] using this
 unfold qgv
 refine Ev.bind (qiX hs) (Ev.bind e1 ?_)
 rw [hm1,hm2]
 simp only [jd]
 exact Ev.bind e2 (Ev.bind e3 .done)
end Go.Fw


namespace Go.Fw
open Go Go.Proofs
open Go.RowKit (Below)
set_option maxRecDepth 100000
set_option maxHeartbeats 1600000
variable {n:Nat} {w:World} {cs1 cs2 cs3 cs4 cs5 cs6 cs7 cs8 cs9:List Value}
def qfM (n:Nat) (b:qk):Option Int :=
 (qdh n (⟨b.Ab.Aa,b.Ab.Ah,b.Ab.Af⟩:qb)).bind fun r1 =>
 some (W64 (2*(r1.length:Int)))
theorem qj2 {b:qk} (ha1:GoT.R w (old w) b cs1) {r:Int} (hF:qfM n b=some r):RetV Tryz.prog 107 [GoT.v qk cs1] w r:=by
 obtain ⟨p1,k1,p2,k2,p3,k3,p4,k4,p5,k5,rfl,s1,s2,s3,s4,s5⟩:=qY ha1
 exact zV 8 Tryz.func107 rfl fun h=>zSR (qt h rfl rfl fun w1 bb1 h=>X1 6 0 h rfl (zcL h hF (qfi (qaJ _ (h.oldS s2) (h.oldS s3) (h.oldS s4))) rfl fun r1 w2 S1 p6 k6 h hF=>X0 4 rfl (ri h hF rfl)))
def qhx (n:Nat) (s:qh):Option Bool :=
 (qX n s.Au (-1000000000) 1000000000).bind fun r1 =>
 bif r1 then
  (qX n s.Ba (-1000000000) 1000000000).bind fun r2 =>
  bif r2 then some (decide (s.Au≤s.Ba)) else
  some false
 else
  some false
theorem qlz {s:qh} (ha1:GoT.R w (old w) s cs1) {r:Bool} (hF:qhx n s=some r):RetV Tryz.prog 171 [GoT.v qh cs1] w r:=by
 obtain rfl:=qu ha1
 refine zV 18 Tryz.func171 rfl fun h=>zSR (qt h rfl rfl fun w1 bb1 h=>X1 6 0 h rfl (zcB h hF qP rfl fun r1 w2 h hF=>zp1 rfl (qd (t:=6) hF rfl ?_ ?_)))<;>intro hF
 ·refine X1 5 0 h rfl (zcB h hF qP rfl fun r2 w3 h hF=>zp2 rfl (qd (t:=11) hF rfl ?_ ?_))<;>intro hF
  ·exact X2 13 0 0 h rfl (rb h hF rfl)
  exact X0 8 rfl (rb h hF rfl)
 exact X0 13 rfl (rb h hF rfl)
def qfV (_:Nat) (s:qh):Option Bool :=
 bif decide (s.Au ≥ 0) then
  bif decide (s.Au≤s.Ba) then some (decide (s.Ba≤1000000)) else
  some false
 else
  some false
theorem qki {s:qh} (ha1:GoT.R w (old w) s cs1) {r:Bool} (hF:qfV n s=some r):RetV Tryz.prog 227 [GoT.v qh cs1] w r:=by
 obtain rfl:=qu ha1
 refine zV 18 Tryz.func227 rfl fun h=>zSR (qt h rfl rfl fun w1 bb1 h=>X1 8 0 h rfl (qd (t:=6) hF rfl ?_ ?_))<;>intro hF
 ·refine X2 12 0 0 h rfl (qd (t:=13) hF rfl ?_ ?_)<;>intro hF
  ·exact X1 9 0 h rfl (rb h hF rfl)
  exact X0 6 rfl (rb h hF rfl)
 exact X0 13 rfl (rb h hF rfl)
def qhg (n:Nat) (t:Int):Option Bool :=
 (qaj n t (-1000000000) 1000000000).bind fun r1 =>
 some r1
theorem qiQ {t:Int}  {r:Bool} (hF:qhg n t=some r):RetV Tryz.prog 238 [.int .i64 t] w r:=by
 exact zV 5 Tryz.func238 rfl fun h=>X0 7 rfl (zcB h hF qZ rfl fun r1 w1 h hF=>X0 2 rfl (rb h hF rfl))
def qf0 (n:Nat) (s:qh):Option Bool :=
 (qhg n s.Au).bind fun r1 =>
 bif r1 then
  (qhg n s.Ba).bind fun r2 =>
  bif r2 then some (decide (s.Au≤s.Ba)) else
  some false
 else
  some false
theorem qit {s:qh} (ha1:GoT.R w (old w) s cs1) {r:Bool} (hF:qf0 n s=some r):RetV Tryz.prog 175 [GoT.v qh cs1] w r:=by
 obtain rfl:=qu ha1
 refine zV 18 Tryz.func175 rfl fun h=>zSR (qt h rfl rfl fun w1 bb1 h=>X1 6 0 h rfl (zcB h hF qiQ rfl fun r1 w2 h hF=>zp1 rfl (qd (t:=6) hF rfl ?_ ?_)))<;>intro hF
 ·refine X1 5 0 h rfl (zcB h hF qiQ rfl fun r2 w3 h hF=>zp2 rfl (qd (t:=11) hF rfl ?_ ?_))<;>intro hF
  ·exact X2 13 0 0 h rfl (rb h hF rfl)
  exact X0 8 rfl (rb h hF rfl)
 exact X0 13 rfl (rb h hF rfl)
def qhi (n:Nat) (a_n:Int):Option Bool :=
 (qaj n a_n 0 1000000).bind fun r1 =>
 some r1
theorem qiJ {a_n:Int}  {r:Bool} (hF:qhi n a_n=some r):RetV Tryz.prog 269 [.int .i64 a_n] w r:=by
 exact zV 5 Tryz.func269 rfl fun h=>X0 7 rfl (zcB h hF qZ rfl fun r1 w1 h hF=>X0 2 rfl (rb h hF rfl))
def qfL (n:Nat) (s:qh):Option Bool :=
 (qf0 n s).bind fun r1 =>
 bif r1 then
  (qhi n s.Au).bind fun r2 =>
  bif r2 then
   (qhi n s.Ba).bind fun r3 =>
   some r3
  else
   some false
 else
  some false
theorem qj1 {s:qh} (ha1:GoT.R w (old w) s cs1) {r:Bool} (hF:qfL n s=some r):RetV Tryz.prog 230 [GoT.v qh cs1] w r:=by
 obtain rfl:=qu ha1
 refine zV 15 Tryz.func230 rfl fun h=>zSR (qt h rfl rfl fun w1 bb1 h=>X1 5 0 h rfl (zcB h hF (qit (h.old ha1)) rfl fun r1 w2 h hF=>zp1 rfl (qd (t:=5) hF rfl ?_ ?_)))<;>intro hF
 ·refine X1 5 0 h rfl (zcB h hF qiJ rfl fun r2 w3 h hF=>zp2 rfl (qd (t:=10) hF rfl ?_ ?_))<;>intro hF
  ·exact X1 5 0 h rfl (zcB h hF qiJ rfl fun r3 w4 h hF=>X0 3 rfl (rb h hF rfl))
  exact X0 6 rfl (rb h hF rfl)
 exact X0 11 rfl (rb h hF rfl)
def qdo (_:Nat) (list:(List Tplace)):Option Int :=
 some (list.length:Int)
theorem qhe {list:(List Tplace)} (ha1:GoT.R w (old w) list cs1) {r:Int} (hF:qdo n list=some r):RetV Tryz.prog 252 [GoT.v (List Tplace) cs1] w r:=by
 obtain ⟨p1,k1,rfl,s1⟩:=ha1
 exact zV 5 Tryz.func252 rfl fun h=>X0 10 rfl (ri h hF rfl)
def qeM (n:Nat) (v:(Option Tview)):Option Int :=
 (v).bind fun y1 =>
 (qdo n y1.places).bind fun r1 =>
 some (W64 (2*r1))
theorem qju {v:(Option Tview)} (ha1:GoT.R w (old w) v cs1) {r:Int} (hF:qeM n v=some r):RetV Tryz.prog 195 [GoT.v (Option Tview) cs1] w r:=by
 obtain ⟨p1,rfl,s1⟩:=qiL ha1
 refine zV 9 Tryz.func195 rfl fun h=>X0 7 rfl ?_
 obtain ⟨y1,hy1,hF⟩:=qg hF
 obtain ⟨b1,o_1,cs2,rfl,-,hr1,hc1⟩:=PtR.get s1 hy1
 obtain ⟨p2,k1,p3,k2,p4,k3,p5,k4,p6,k5,p7,k6,p8,k7,p9,k8,p10,k9,p11,k10,rfl,s2,s3,s4,s5,s6,s7,s8,s9,s10,s11⟩:=qly hr1
 exact zp2 rfl (zc 5 (hc1.below h.below) rfl (zcI h hF (qhe ⟨_,_,rfl,(h.oldS s7)⟩) rfl fun r1 w1 h hF=>X0 3 rfl (ri h hF rfl)))
def qfZ (_:Nat) (a:qh):Option qh :=
 some (⟨a.Au,a.Ba⟩:qh)
theorem qlj {a:qh} (ha1:GoT.R w (old w) a cs1) {r:qh} (hF:qfZ n a=some r):RetV Tryz.prog 158 [GoT.v qh cs1] w r:=by
 obtain rfl:=qu ha1
 refine zV 11 Tryz.func158 rfl fun h=>zSR (qt h rfl rfl fun w1 bb1 h=>qv qc h rfl rfl rfl fun w2 bb2 h=>zNSR (qv qc h rfl rfl rfl fun w3 bb3 h=>X1 6 2 h rfl (zs 0 h rfl fun w4 h=>X1 6 2 h rfl (zs 0 h rfl fun w5 h=>X1 4 0 h rfl (zs 1 h rfl fun w6 h=>qcz ?_)))))
 obtain rfl:=qa hF
 exact qax qc (ρ:=qh) [GoT.v qh (qfI a)] h ⟨⟨_,_,_,rfl,rfl,h.box 1 rfl,rfl⟩,trivial⟩ (PV.done h (qaD (qH (S:=fun _=>False) (qE (⟨a.Au,a.Ba⟩:qh)))))
def qeU (_:Nat) (a:qh) (b:qh):Option Bool :=
 bif (a.Au != b.Au) then some false else
 bif (a.Ba != b.Ba) then some false else
 some true
theorem qiq {a:qh} {b:qh} (ha1:GoT.R w (old w) a cs1) (ha2:GoT.R w (old w) b cs2) {r:Bool} (hF:qeU n a b=some r):RetV Tryz.prog 27 [GoT.v qh cs1,GoT.v qh cs2] w r:=by
 obtain rfl:=qu ha1
 obtain rfl:=qu ha2
 refine zV 15 Tryz.func27 rfl fun h=>zSR (qt h rfl rfl fun w1 bb1 h=>qt h rfl rfl fun w2 bb2 h=>X2 11 1 0 h rfl (qf rfl hF ?_ ?_))<;>intro hF
 ·exact X0 4 rfl (rb h hF rfl)
 refine X2 10 1 0 h rfl (qf rfl hF ?_ ?_)<;>intro hF
 ·exact X0 4 rfl (rb h hF rfl)
 exact X0 5 rfl (rb h hF rfl)
def qfB (_:Nat) (list:(List Bool)):Option Int :=
 some (list.length:Int)
theorem qi9 {list:(List Bool)} (ha1:GoT.R w (old w) list cs1) {r:Int} (hF:qfB n list=some r):RetV Tryz.prog 228 [GoT.v (List Bool) cs1] w r:=by
 obtain ⟨p1,k1,rfl,s1⟩:=ha1
 exact zV 5 Tryz.func228 rfl fun h=>X0 10 rfl (ri h hF rfl)
def qct (_:Nat) (list:(List qh)):Option Int :=
 some (list.length:Int)
theorem qeF {list:(List qh)} (ha1:GoT.R w (old w) list cs1) {r:Int} (hF:qct n list=some r):RetV Tryz.prog 229 [GoT.v (List qh) cs1] w r:=by
 obtain ⟨p1,k1,rfl,s1⟩:=ha1
 exact zV 5 Tryz.func229 rfl fun h=>X0 10 rfl (ri h hF rfl)
def qan (a_1:qq):Nat→Int→Option (Flow Bool Int)
 | 0,_=>none
 | n+1,i1 =>
  bif decide (i1<(a_1.Aq.length:Int)) then
   (idx a_1.Aq i1).bind fun y1 =>
   (idx a_1.Am i1).bind fun y2 =>
   (qf0 n y2).bind fun r2 =>
   bif (!r2) then some (.ret false) else
   (idx a_1.Az i1).bind fun y3 =>
   (qfL n y3).bind fun r3 =>
   bif (!r3) then some (.ret false) else
   bif (!y1) then
    (idx a_1.Am i1).bind fun y4 =>
    bif (!((y4.Au==0)&&(y4.Ba==0))) then some (.ret false) else
    (idx a_1.Az i1).bind fun y5 =>
    bif (!((y5.Au==0)&&(y5.Ba==0))) then some (.ret false) else
    qan a_1 n (W64 (i1+1))
   else
    qan a_1 n (W64 (i1+1))
  else
   some (.nxt i1)
def qdp (n:Nat) (a_0:(Option Tview)) (a_1:qq):Option Bool :=
 (qeM n a_0).bind fun r1 =>
 (
  (qfB n a_1.Aq).bind fun r4 =>
  bif (r4 != r1) then some true else
  (qct n a_1.Am).bind fun r5 =>
  bif (r5 != r1) then some true else
  (qct n a_1.Az).bind fun r6 =>
  some (r6 != r1)).bind fun b1 =>
 bif b1 then some false else
 (qan a_1 n 0).bind fun o=>match o with
 | .ret r=>some r
 | .nxt _ =>
  some true
theorem qie {a_0:(Option Tview)} {a_1:qq} (ha1:GoT.R w (old w) a_0 cs1) (ha2:GoT.R w (old w) a_1 cs2) {r:Bool} (hF:qdp n a_0 a_1=some r):RetV Tryz.prog 159 [GoT.v (Option Tview) cs1,GoT.v qq cs2] w r:=by
 obtain ⟨p1,rfl,s1⟩:=qiL ha1
 obtain ⟨p2,k1,p3,k2,p4,k3,rfl,s2,s3,s4⟩:=qaa ha2
 refine zV 76 Tryz.func159 rfl fun h=>zSR (qt h rfl rfl fun w1 bb1 h=>X0 5 rfl (zcI h hF (qju (h.old s1)) rfl fun r1 w2 h hF=>X0 4 rfl ?_))
 obtain ⟨KF1,hKF1,o2,hF,hK2⟩:=bindE hF
 refine qcy (fun e w'=>∃ (b1:Bool),KF1 b1=some r∧e=[(3,.pointer (some ⟨bb1,0,none⟩)),(28,.bool b1)]∧SH w w' [Ch.box bb1 (qcE a_1 p2 p3 p4 k1 k2 k3) 71]) ?_ ?_
 ·refine X1 3 0 h rfl (zcI h hF (qi9 ⟨_,_,rfl,(h.oldS s2)⟩) rfl fun r4 w6 h hF=>zp3 rfl (qd (t:=15) hF rfl ?_ ?_))<;>intro hF
  ·refine X0 14 rfl ?_
   obtain rfl:=qa hF
   exact rG ⟨_,hK2,rfl,h⟩ rfl
  refine X1 5 0 h rfl (zcI h hF (qeF ⟨_,_,rfl,(h.oldS s3)⟩) rfl fun r5 w7 h hF=>X0 6 rfl (qd (t:=22) hF rfl ?_ ?_))<;>intro hF
  ·refine X0 7 rfl ?_
   obtain rfl:=qa hF
   exact rG ⟨_,hK2,rfl,h⟩ rfl
  refine X1 5 0 h rfl (zcI h hF (qeF ⟨_,_,rfl,(h.oldS s4)⟩) rfl fun r6 w8 h hF=>X0 6 rfl ?_)
  obtain rfl:=qa hF
  exact rG ⟨_,hK2,rfl,h⟩ rfl
 rintro e2 w9 ⟨b1,hF,rfl,h⟩
 subst hKF1
 refine qf rfl hF ?_ ?_<;>intro hF
 ·exact X0 4 rfl (rb h hF rfl)
 refine X1 9 0 h rfl ?_
 obtain ⟨o1,hF,hK1⟩:=qg hF
 refine qm (rL (fun m e w'=>∃ (i1:Int),qan a_1 m i1=some o1∧e=[(3,.pointer (some ⟨bb1,0,none⟩)),(30,.slice p2 a_1.Aq.length k1),(31,.int .i64 (a_1.Aq.length:Int)),(32,.int .i64 i1)]∧SH w w' [Ch.box bb1 (qcE a_1 p2 p3 p4 k1 k2 k3) 71]) n ⟨_,hF,rfl,h⟩ rfl ?_)
 rintro m1 e1 w3 ⟨i1,hF,rfl,h⟩
 rcases m1 with _|m1
 ·cases hF
 refine X0 5 rfl (qf rfl hF ?_ ?_)<;>intro hF
 ·refine X0 6 rfl ?_
  obtain ⟨y1,hy1,hF,he1,b2,_,q1,cs3,hp1,hq1,rfl,hc3⟩:=s2.ix hF
  refine zxe hp1 hq1 he1 rfl (zc 0 (hc3.below h.below) rfl (X1 8 0 h rfl ?_))
  obtain ⟨y2,hy2,hF,he2,b3,_,q2,cs4,hp2,hq2,hr3,hc4⟩:=s3.ix hF
  obtain rfl:=qu hr3
  refine zxe hp2 hq2 he2 rfl (zc 0 (hc4.below h.below) rfl (zcB h hF (qit (qE y2)) rfl fun r2 w4 h hF=>zp2 rfl (qd (t:=44) hF rfl ?_ ?_)))<;>intro hF
  ·refine X0 31 rfl (qbH rfl rfl (X0 4 rfl ?_))
   obtain rfl:=qa hF;replace hF:=hK1
   exact rb h hF rfl
  refine X1 7 0 h rfl ?_
  obtain ⟨y3,hy3,hF,he3,b4,_,q3,cs5,hp3,hq3,hr5,hc5⟩:=s4.ix hF
  obtain rfl:=qu hr5
  refine zxe hp3 hq3 he3 rfl (X0 1 rfl (zc 0 (hc5.below h.below) rfl (X0 1 rfl (zcB h hF (qj1 (qE y3)) rfl fun r3 w5 h hF=>X0 4 rfl (qd (t:=53) hF rfl ?_ ?_)))))<;>intro hF
  ·refine X0 22 rfl (qbH rfl rfl (X0 4 rfl ?_))
   obtain rfl:=qa hF;replace hF:=hK1
   exact rb h hF rfl
  refine X0 6 rfl (qd (t:=56) hF rfl ?_ ?_)<;>intro hF
  ·refine X1 7 0 h rfl ?_
   obtain ⟨y4,hy4,hF,he4,b5,_,q4,cs6,hp4,hq4,hr7,hc6⟩:=s3.ix hF
   obtain rfl:=qu hr7
   refine zxe hp4 hq4 he4 rfl (X0 1 rfl (zc 0 (hc6.below h.below) rfl (X0 1 rfl (r_v (qbf qc [] [] rfl rfl rfl rfl rfl rfl rfl rfl) rfl (X0 1 rfl (r_v (qmT (by kernel_rfl) rfl rfl) rfl (X0 2 rfl (qd (t:=64) hF rfl ?_ ?_))))))))<;>intro hF
   ·refine X0 13 rfl (qbH rfl rfl (X0 4 rfl ?_))
    obtain rfl:=qa hF;replace hF:=hK1
    exact rb h hF rfl
   refine X1 7 0 h rfl ?_
   obtain ⟨y5,hy5,hF,he5,b6,_,q5,cs7,hp5,hq5,hr8,hc7⟩:=s4.ix hF
   obtain rfl:=qu hr8
   refine zxe hp5 hq5 he5 rfl (X0 1 rfl (zc 0 (hc7.below h.below) rfl (X0 1 rfl (r_v (qbf qc [] [] rfl rfl rfl rfl rfl rfl rfl rfl) rfl (X0 1 rfl (r_v (qmT (by kernel_rfl) rfl rfl) rfl (X0 6 rfl (qf rfl hF ?_ ?_))))))))<;>intro hF
   ·refine X0 4 rfl ?_
    obtain rfl:=qa hF;replace hF:=hK1
    exact rb h hF rfl
   exact X0 6 rfl (rK ⟨_,hF,rfl,h⟩ rfl)
  exact X0 20 rfl (qd3 rfl rfl (X0 6 rfl (rK ⟨_,hF,rfl,h⟩ rfl)))
 refine qr rfl ?_
 obtain rfl:=qa hF;replace hF:=hK1
 exact X0 4 rfl (rb h hF rfl)
end Go.Fw


namespace Go.Fw
open Go
set_option maxRecDepth 100000
structure LkOk (ls:List qT) (M:Nat):Prop where
 len:ls.length≤10000
 nodes:M≤156
 fr0:∀ x,x<ls.length→0≤(gt ls x).Bb
 fr1:∀ x,x<ls.length→(gt ls x).Bb<(M:Int)
 to0:∀ x,x<ls.length→0≤(gt ls x).To
 to1:∀ x,x<ls.length→(gt ls x).To<(M:Int)
def frL (ls:List qT) (x:Nat):Int:=(gt ls x).Bb
def toL (ls:List qT) (x:Nat):Int:=(gt ls x).To
def lvL (lv:List Bool) (x:Nat):Bool:=gt lv x
abbrev ordL (ls:List qT) (lv:List Bool) (M m:Nat) (R:List Nat):Option (List Nat):=ordN ls.length (frL ls) (toL ls) (lvL lv) M m R
section
variable {ls:List qT} {lv:List Bool} {M:Nat} {ps:List Tplace} {b:qk} {lo:List Int} {de:List (List Int)} {ex:List Int}
end
end Go.Fw


namespace Go.Fw
open Go Go.Proofs
open Go.RowKit (Below)
set_option maxRecDepth 100000
set_option maxHeartbeats 1600000
variable {n:Nat} {w:World} {cs1 cs2 cs3 cs4 cs5 cs6 cs7 cs8 cs9:List Value}
def qjG (_:Nat) (a:qh) (b:qh):Option qh :=
 some (⟨(if b.Au<a.Au then b.Au else a.Au),(if b.Ba > a.Ba then b.Ba else a.Ba)⟩:qh)
theorem qkW {a:qh} {b:qh} (ha1:GoT.R w (old w) a cs1) (ha2:GoT.R w (old w) b cs2) {r:qh} (hF:qjG n a b=some r):RetV Tryz.prog 157 [GoT.v qh cs1,GoT.v qh cs2] w r:=by
 obtain rfl:=qu ha1
 obtain rfl:=qu ha2
 refine zV 16 Tryz.func157 rfl fun h=>zSR (qt h rfl rfl fun w1 bb1 h=>qt h rfl rfl fun w2 bb2 h=>qv qc h rfl rfl rfl fun w3 bb3 h=>X4 13 2 1 2 1 h rfl (r_v (qbf qc [0,1] [.tmp 9,.tmp 14] rfl rfl rfl rfl rfl rfl rfl rfl) rfl (zs 0 h rfl fun w4 h=>qcz ?_)))
 obtain rfl:=qa hF
 exact qax qc (ρ:=qh) [GoT.v qh [.int .i64 (if b.Au<a.Au then b.Au else a.Au),.int .i64 (if b.Ba > a.Ba then b.Ba else a.Ba)]] h ⟨⟨_,_,_,rfl,rfl,h.box 0 rfl,rfl⟩,trivial⟩ (PV.done h (qaD (qH (S:=fun _=>False) (qE (⟨(if b.Au<a.Au then b.Au else a.Au),(if b.Ba > a.Ba then b.Ba else a.Ba)⟩:qh)))))
end Go.Fw


namespace Go.Fw
open Go Go.Proofs
open Go.RowKit (Below)
set_option maxRecDepth 100000
set_option maxHeartbeats 1600000
variable {n:Nat} {w:World} {cs1 cs2 cs3 cs4 cs5 cs6 cs7 cs8 cs9:List Value}
def qfh (_:Nat) (s:qh) (t:qh):Option qh :=
 some (⟨(if t.Au<s.Au then t.Au else s.Au),(if t.Ba > s.Ba then t.Ba else s.Ba)⟩:qh)
theorem qbT {s:qh} {t:qh} (ha1:GoT.R w (old w) s cs1) (ha2:GoT.R w (old w) t cs2) {r:qh} (hF:qfh n s t=some r):RetV Tryz.prog 270 [GoT.v qh cs1,GoT.v qh cs2] w r:=by
 obtain rfl:=qu ha1
 obtain rfl:=qu ha2
 refine zV 16 Tryz.func270 rfl fun h=>zSR (qt h rfl rfl fun w1 bb1 h=>qt h rfl rfl fun w2 bb2 h=>qv qc h rfl rfl rfl fun w3 bb3 h=>X4 13 2 1 2 1 h rfl (r_v (qbf qc [0,1] [.tmp 9,.tmp 14] rfl rfl rfl rfl rfl rfl rfl rfl) rfl (zs 0 h rfl fun w4 h=>qcz ?_)))
 obtain rfl:=qa hF
 exact qax qc (ρ:=qh) [GoT.v qh [.int .i64 (if t.Au<s.Au then t.Au else s.Au),.int .i64 (if t.Ba > s.Ba then t.Ba else s.Ba)]] h ⟨⟨_,_,_,rfl,rfl,h.box 0 rfl,rfl⟩,trivial⟩ (PV.done h (qaD (qH (S:=fun _=>False) (qE (⟨(if t.Au<s.Au then t.Au else s.Au),(if t.Ba > s.Ba then t.Ba else s.Ba)⟩:qh)))))
def qfG (n:Nat) (s:qbU) (reached:Bool) (arrival:qh) (slew:qh):Option (qbU × Bool) :=
 bif (!reached) then some ((⟨s.Bv,(⟨arrival.Au,arrival.Ba⟩:qh),(⟨slew.Au,slew.Ba⟩:qh)⟩:qbU),true) else
 (qfh n (⟨s.Am.Au,s.Am.Ba⟩:qh) arrival).bind fun r1 =>
 (qfh n (⟨s.Az.Au,s.Az.Ba⟩:qh) slew).bind fun r2 =>
 some ((⟨s.Bv,(⟨r1.Au,r1.Ba⟩:qh),(⟨r2.Au,r2.Ba⟩:qh)⟩:qbU),reached)
theorem qih {n:Nat} {w0 w:World} {F:List Ch} {bb1:Nat} {s:qbU} {bb2:Nat} {reached:Bool} {arrival:qh} {slew:qh} (h:SH w0 w (Ch.box bb2 [.bool reached] 4::Ch.box bb1 (qj8 s) 153::F)) {r:(qbU × Bool)} (hF:qfG n s reached arrival slew=some r):RetU Tryz.prog 231 [.pointer (some ⟨bb1,0,none⟩),.pointer (some ⟨bb2,0,none⟩),.agg #[.int .i64 arrival.Au,.int .i64 arrival.Ba],.agg #[.int .i64 slew.Au,.int .i64 slew.Ba]] w (fun w'=>SH w0 w' (Ch.box bb2 [.bool r.2] 4::Ch.box bb1 (qj8 r.1) 153::F)):=by
 refine qnF Tryz.func231 rfl (m:=40) rfl rfl (zSR (qt h rfl rfl fun w1 bb3 h=>qt h rfl rfl fun w2 bb4 h=>X1 9 2 h rfl (qf rfl hF ?_ ?_)))<;>intro hF
 ·refine qd1 (rA [] [0,1] h rfl fun w3 h=>M2 63 [0,1,2,3,4,5] 1 0 (h.pick [0,1] rfl) rfl (Ao 6 127 rfl (zs 2 h rfl fun w4 h=>G0 511 [7,8] (h.pick [0,1] rfl) rfl (Ao 9 1023 rfl (zs 3 h rfl fun w5 h=>G0 4095 [10,11] (h.pick [0,1] rfl) rfl (Ao 12 8191 rfl (zs 3 h rfl fun w6 h=>Ag (h.pick [0,1] rfl) (Ad ?_))))))))
  obtain rfl:=qa hF
  replace h:=h.pickT 4 [2,3] rfl
  exact qrG qc h trivial
 refine qgT ?_
 obtain ⟨r1,hr1,hF⟩:=qg hF
 obtain ⟨r2,hr2,hF⟩:=qg hF
 refine qcy (fun e w'=>e=[]∧SH w0 w' (Ch.box bb2 [.bool reached] 4::Ch.box bb1 [.int .i64 s.Bv,.int .i64 r1.Au,.int .i64 r1.Ba,.int .i64 r2.Au,.int .i64 r2.Ba] 153::F)) ?_ ?_
 ·refine rA [] [0,1] h rfl fun w11 h=>M2 5983 [0,1,2,3,4,6,8,9,10,12] 1 0 (h.pick [0,1] rfl) rfl (At 5 11 6015 8031 rfl ?_ ?_)
  ·refine zl 3 1 h rfl (Ag (h.pick [0,1] rfl) (At 7 11 6143 8063 rfl ?_ ?_))
   ·refine qeK r1 h (cB 270 rfl) (qbT (qE _) (qE arrival) hr1) rfl rfl rfl rfl fun w24 S9 cs9 h=>?_
    obtain rfl:=qu (h.own 0 rfl)
    refine Ag (h.pick [1,2] rfl) (Ao 11 8191 rfl (zl 4 3 h rfl (Ag (h.pick [1,2] rfl) (Ao 13 16383 rfl (qeK r2 h (cB 270 rfl) (qbT (qE _) (qE slew) hr2) rfl rfl rfl rfl fun w25 S10 cs10 h=>?_)))))
    obtain rfl:=qu (h.own 0 rfl)
    refine G0 65535 [14,15] (h.pick [2,3] rfl) rfl (Ao 16 131071 rfl (zs 5 h rfl fun w26 h=>G0 524287 [17,18] (h.pick [2,3] rfl) rfl (Ao 19 1048575 rfl (zs 5 h rfl fun w27 h=>Ag (h.pick [2,3] rfl) (Ad ?_)))))
    replace h:=h.pickT 6 [4,5] rfl
    exact rG ⟨rfl,h⟩ rfl
   refine zl 3 3 h rfl (Ag (h.pick [0,1] rfl) (Ao 7 8191 rfl (qeK r1 h (cB 270 rfl) (qbT (qE _) (qE arrival) hr1) rfl rfl rfl rfl fun w28 S11 cs11 h=>?_)))
   obtain rfl:=qu (h.own 0 rfl)
   refine Ag (h.pick [1,2] rfl) (Ao 13 16383 rfl (qeK r2 h (cB 270 rfl) (qbT (qE _) (qE slew) hr2) rfl rfl rfl rfl fun w29 S12 cs12 h=>?_))
   obtain rfl:=qu (h.own 0 rfl)
   refine G0 65535 [14,15] (h.pick [2,3] rfl) rfl (Ao 16 131071 rfl (zs 5 h rfl fun w30 h=>G0 524287 [17,18] (h.pick [2,3] rfl) rfl (Ao 19 1048575 rfl (zs 5 h rfl fun w31 h=>Ag (h.pick [2,3] rfl) (Ad ?_)))))
   replace h:=h.pickT 6 [4,5] rfl
   exact rG ⟨rfl,h⟩ rfl
  refine zl 3 3 h rfl (Ag (h.pick [0,1] rfl) (Ao 5 8063 rfl (zl 3 1 h rfl (Ag (h.pick [0,1] rfl) (Ao 7 8191 rfl (qeK r1 h (cB 270 rfl) (qbT (qE _) (qE arrival) hr1) rfl rfl rfl rfl fun w32 S13 cs13 h=>?_))))))
  obtain rfl:=qu (h.own 0 rfl)
  refine Ag (h.pick [1,2] rfl) (Ao 13 16383 rfl (qeK r2 h (cB 270 rfl) (qbT (qE _) (qE slew) hr2) rfl rfl rfl rfl fun w33 S14 cs14 h=>?_))
  obtain rfl:=qu (h.own 0 rfl)
  refine G0 65535 [14,15] (h.pick [2,3] rfl) rfl (Ao 16 131071 rfl (zs 5 h rfl fun w34 h=>G0 524287 [17,18] (h.pick [2,3] rfl) rfl (Ao 19 1048575 rfl (zs 5 h rfl fun w35 h=>Ag (h.pick [2,3] rfl) (Ad ?_)))))
  replace h:=h.pickT 6 [4,5] rfl
  exact rG ⟨rfl,h⟩ rfl
 rintro e1 w36 ⟨rfl,h⟩
 obtain rfl:=qa hF
 exact qrU qc h trivial
end Go.Fw


namespace Go.Fw
open Go Go.Proofs
open Go.RowKit (Below)
set_option maxRecDepth 100000
set_option maxHeartbeats 1600000
variable {n:Nat} {w:World} {cs1 cs2 cs3 cs4 cs5 cs6 cs7 cs8 cs9:List Value}
end Go.Fw


namespace Go.Fw
open Go
set_option maxRecDepth 100000
structure AxOk (ax:List Int):Prop where
 lo:1≤ax.length
 hi:ax.length≤4
 at_:∀ j,j<ax.length→0≤at0 ax j∧at0 ax j≤100000
 inc:∀ j i,i<j→j<ax.length→at0 ax i<at0 ax j
structure Wt (ax:List Int) (i:Nat) (a b:Int):Prop where
 il:i<ax.length
 a0:0<a
 a1:a≤100000
 b0:0≤b
 b1:b≤100000
 nx:0<b→i+1<ax.length
 one:b=0→a=1
end Go.Fw


namespace Go.Fw
open Go
set_option maxRecDepth 100000
structure TbOk (t:qp):Prop where
 s:AxOk t.Bd
 l:AxOk t.Be
 n:t.Ay.length=t.Bd.length*t.Be.length
 v:∀ k,-1000000≤at0 t.Ay k∧at0 t.Ay k≤1000000
end Go.Fw


namespace Go.Fw
open Go
set_option maxRecDepth 100000
end Go.Fw


namespace Go.Fw
open Go
set_option maxRecDepth 100000
instance:Inhabited qbU:=⟨⟨0,⟨0,0⟩,⟨0,0⟩⟩⟩
instance:Inhabited qh:=⟨⟨0,0⟩⟩
def cornerB (c:qgK):Bool:=(inI c.Bp 100 5000&&(inI c.Bu 100 5000&&(inI c.Bq 100 5000&&inI c.Bt 100 5000)))&&(nameB c.Ar&&(decide (c.Bp≤c.Bu)&&decide (c.Bq≤c.Bt)))
def spanB (s:qh):Bool:=inI s.Au (-1000000000) 1000000000&&(inI s.Ba (-1000000000) 1000000000&&decide (s.Au≤s.Ba))
def slewB (s:qh):Bool:=decide (s.Au ≥ 0)&&(decide (s.Au≤s.Ba)&&decide (s.Ba≤1000000))
theorem qol {n:Nat} {s:qh}:qhx n s=some (spanB s):=by
 unfold qhx spanB
 simp only [qdB,jd]
 cases inI s.Au (-1000000000) 1000000000
 ·rfl
 ·cases inI s.Ba (-1000000000) 1000000000<;>rfl
theorem qme {n:Nat} {s:qh}:qf0 n s=some (spanB s):=by
 unfold qf0 qhg spanB
 simp only [qcj,jd]
 cases inI s.Au (-1000000000) 1000000000
 ·rfl
 ·cases inI s.Ba (-1000000000) 1000000000<;>rfl
theorem qnI {n:Nat} {s:qh}:qfV n s=some (slewB s):=by
 unfold qfV slewB
 cases decide (s.Au ≥ 0)
 ·rfl
 ·cases decide (s.Au≤s.Ba)<;>rfl
theorem qnD {n:Nat} {s:qh}:qfL n s=some (slewB s):=by
 have e:slewB s=(spanB s&&(inI s.Au 0 1000000&&inI s.Ba 0 1000000)):=by
  unfold slewB spanB
  rw [ji]
  simp only [jf,qby,decide_eq_true_eq]
  constructor
  ·rintro ⟨h1,h2,h3⟩
   refine ⟨⟨⟨?_,?_⟩,⟨?_,?_⟩,?_⟩,⟨?_,?_⟩,?_,?_⟩<;>omega
  ·rintro ⟨⟨h1,h2,h3⟩,h4,h5⟩
   refine ⟨?_,?_,?_⟩<;>omega
 rw [e]
 unfold qfL qhi
 simp only [qme,qcj,jd]
 cases spanB s
 ·rfl
 ·cases inI s.Au 0 1000000<;>rfl
end Go.Fw


namespace Go.Fw
open Go Go.Proofs
open Go.RowKit (Below)
set_option maxRecDepth 100000
set_option maxHeartbeats 1600000
variable {n:Nat} {w:World} {cs1 cs2 cs3 cs4 cs5 cs6 cs7 cs8 cs9:List Value}
def qaY (a_1:qq):Nat→Int→Option (Flow Bool Int)
 | 0,_=>none
 | n+1,i1 =>
  bif decide (i1<(a_1.Aq.length:Int)) then
   (idx a_1.Am i1).bind fun y1 =>
   (qhx n y1).bind fun r1 =>
   bif (!r1) then some (.ret false) else
   (idx a_1.Az i1).bind fun y2 =>
   (qfV n y2).bind fun r2 =>
   bif (!r2) then some (.ret false) else
   (idx a_1.Aq i1).bind fun y3 =>
   bif (!y3) then
    (idx a_1.Am i1).bind fun y4 =>
    bif (!((y4.Au==0)&&(y4.Ba==0))) then some (.ret false) else
    (idx a_1.Az i1).bind fun y5 =>
    bif (!((y5.Au==0)&&(y5.Ba==0))) then some (.ret false) else
    qaY a_1 n (W64 (i1+1))
   else
    qaY a_1 n (W64 (i1+1))
  else
   some (.nxt i1)
def qfp (n:Nat) (a_0:Int) (a_1:qq):Option Bool :=
 (
  bif ((a_1.Aq.length:Int) != a_0) then some true else
  bif ((a_1.Am.length:Int) != a_0) then some true else
  some ((a_1.Az.length:Int) != a_0)).bind fun b1 =>
 bif b1 then some false else
 (qaY a_1 n 0).bind fun o=>match o with
 | .ret r=>some r
 | .nxt _ =>
  some true
theorem qjy {a_0:Int} {a_1:qq} (ha1:GoT.R w (old w) a_1 cs1) {r:Bool} (hF:qfp n a_0 a_1=some r):RetV Tryz.prog 155 [.int .i64 a_0,GoT.v qq cs1] w r:=by
 obtain ⟨p1,k1,p2,k2,p3,k3,rfl,s1,s2,s3⟩:=qaa ha1
 refine zV 74 Tryz.func155 rfl fun h=>zSR (qt h rfl rfl fun w1 bb1 h=>X0 4 rfl ?_)
 obtain ⟨KF1,hKF1,o2,hF,hK2⟩:=bindE hF
 refine qcy (fun e w'=>∃ (b1:Bool),KF1 b1=some r∧e=[(3,.pointer (some ⟨bb1,0,none⟩)),(24,.bool b1)]∧SH w w' [Ch.box bb1 (qcE a_1 p1 p2 p3 k1 k2 k3) 71]) ?_ ?_
 ·refine X1 7 0 h rfl (qd (t:=11) hF rfl ?_ ?_)<;>intro hF
  ·refine X0 14 rfl ?_
   obtain rfl:=qa hF
   exact rG ⟨_,hK2,rfl,h⟩ rfl
  refine X1 12 0 h rfl (qd (t:=18) hF rfl ?_ ?_)<;>intro hF
  ·refine X0 7 rfl ?_
   obtain rfl:=qa hF
   exact rG ⟨_,hK2,rfl,h⟩ rfl
  refine X1 12 0 h rfl ?_
  obtain rfl:=qa hF
  exact rG ⟨_,hK2,rfl,h⟩ rfl
 rintro e2 w5 ⟨b1,hF,rfl,h⟩
 subst hKF1
 refine qf rfl hF ?_ ?_<;>intro hF
 ·exact X0 4 rfl (rb h hF rfl)
 refine X0 6 rfl ?_
 obtain ⟨o1,hF,hK1⟩:=qg hF
 refine qm (rL (fun m e w'=>∃ (i1:Int),qaY a_1 m i1=some o1∧e=[(3,.pointer (some ⟨bb1,0,none⟩)),(5,.int .i64 i1)]∧SH w w' [Ch.box bb1 (qcE a_1 p1 p2 p3 k1 k2 k3) 71]) n ⟨_,hF,rfl,h⟩ rfl ?_)
 rintro m1 e1 w2 ⟨i1,hF,rfl,h⟩
 rcases m1 with _|m1
 ·cases hF
 refine X1 9 0 h rfl (qf rfl hF ?_ ?_)<;>intro hF
 ·refine X1 8 0 h rfl ?_
  obtain ⟨y1,hy1,hF,he1,b2,_,q1,cs2,hp1,hq1,hr1,hc3⟩:=s2.ix hF
  obtain rfl:=qu hr1
  refine zxe hp1 hq1 he1 rfl (zc 0 (hc3.below h.below) rfl (zcB h hF (qlz (qE y1)) rfl fun r1 w3 h hF=>zp2 rfl (qd (t:=39) hF rfl ?_ ?_)))<;>intro hF
  ·refine X0 35 rfl (qbH rfl rfl (X0 4 rfl ?_))
   obtain rfl:=qa hF;replace hF:=hK1
   exact rb h hF rfl
  refine X1 7 0 h rfl ?_
  obtain ⟨y2,hy2,hF,he2,b3,_,q2,cs3,hp2,hq2,hr3,hc4⟩:=s3.ix hF
  obtain rfl:=qu hr3
  refine zxe hp2 hq2 he2 rfl (X0 1 rfl (zc 0 (hc4.below h.below) rfl (X0 1 rfl (zcB h hF (qki (qE y2)) rfl fun r2 w4 h hF=>X0 4 rfl (qd (t:=48) hF rfl ?_ ?_)))))<;>intro hF
  ·refine X0 26 rfl (qbH rfl rfl (X0 4 rfl ?_))
   obtain rfl:=qa hF;replace hF:=hK1
   exact rb h hF rfl
  refine X1 7 0 h rfl ?_
  obtain ⟨y3,hy3,hF,he3,b4,_,q3,cs4,hp3,hq3,rfl,hc5⟩:=s1.ix hF
  refine zxe hp3 hq3 he3 rfl (X0 1 rfl (zc 0 (hc5.below h.below) rfl (X0 4 rfl (qd (t:=55) hF rfl ?_ ?_))))<;>intro hF
  ·refine X1 7 0 h rfl ?_
   obtain ⟨y4,hy4,hF,he4,b5,_,q4,cs5,hp4,hq4,hr6,hc6⟩:=s2.ix hF
   obtain rfl:=qu hr6
   refine zxe hp4 hq4 he4 rfl (X0 1 rfl (zc 0 (hc6.below h.below) rfl (X0 1 rfl (r_v (qbf qc [] [] rfl rfl rfl rfl rfl rfl rfl rfl) rfl (X0 1 rfl (r_v (qmT (by kernel_rfl) rfl rfl) rfl (X0 2 rfl (qd (t:=63) hF rfl ?_ ?_))))))))<;>intro hF
   ·refine X0 13 rfl (qbH rfl rfl (X0 4 rfl ?_))
    obtain rfl:=qa hF;replace hF:=hK1
    exact rb h hF rfl
   refine X1 7 0 h rfl ?_
   obtain ⟨y5,hy5,hF,he5,b6,_,q5,cs6,hp5,hq5,hr7,hc7⟩:=s3.ix hF
   obtain rfl:=qu hr7
   refine zxe hp5 hq5 he5 rfl (X0 1 rfl (zc 0 (hc7.below h.below) rfl (X0 1 rfl (r_v (qbf qc [] [] rfl rfl rfl rfl rfl rfl rfl rfl) rfl (X0 1 rfl (r_v (qmT (by kernel_rfl) rfl rfl) rfl (X0 6 rfl (qf rfl hF ?_ ?_))))))))<;>intro hF
   ·refine X0 4 rfl ?_
    obtain rfl:=qa hF;replace hF:=hK1
    exact rb h hF rfl
   exact X0 7 rfl (rK ⟨_,hF,rfl,h⟩ rfl)
  exact X0 20 rfl (qd3 rfl rfl (X0 7 rfl (rK ⟨_,hF,rfl,h⟩ rfl)))
 refine qr rfl ?_
 obtain rfl:=qa hF;replace hF:=hK1
 exact X0 4 rfl (rb h hF rfl)
def qd8 (n:Nat) (b:qk) (t:qq):Option Int :=
 (qgF n b).bind fun r1 =>
 bif (!r1) then some 1 else
 (qfM n b).bind fun r2 =>
 (qfp n r2 t).bind fun r3 =>
 bif (!r3) then some 1 else
 some 0
theorem qjH {b:qk} {t:qq} (ha1:GoT.R w (old w) b cs1) (ha2:GoT.R w (old w) t cs2) {r:Int} (hF:qd8 n b t=some r):RetV Tryz.prog 72 [GoT.v qk cs1,GoT.v qq cs2] w r:=by
 obtain ⟨p1,k1,p2,k2,p3,k3,p4,k4,p5,k5,rfl,s1,s2,s3,s4,s5⟩:=qY ha1
 obtain ⟨p6,k6,p7,k7,p8,k8,rfl,s6,s7,s8⟩:=qaa ha2
 refine zV 15 Tryz.func72 rfl fun h=>zSR (qt h rfl rfl fun w1 bb1 h=>qt h rfl rfl fun w2 bb2 h=>X0 4 rfl (rD (Y1 1 1 h rfl ?_)))
 obtain ⟨r1,hr1,hF⟩:=qg hF
 refine qbn r1 (vsB _) (cB 51 rfl) (fun _ hb=>qkN ((h.ext hb).old ha1) hr1) rfl rfl rfl rfl (zd2 rfl (qa2 (t:=8) hF rfl ?_ ?_))<;>intro hF
 ·exact Y0 6 rfl (dN h fun w3 h=>qbH rfl rfl (X0 4 rfl (ri h hF rfl)))
 refine Y1 2 1 h rfl ?_
 refine Y0 1 rfl ?_
 obtain ⟨r2,hr2,hF⟩:=qg hF
 refine qbn r2 (vsI _) (cB 107 rfl) (fun _ hb=>qj2 ((h.ext hb).old ha1) hr2) rfl rfl rfl rfl (Y1 2 0 h rfl ?_)
 refine Y0 1 rfl ?_
 obtain ⟨r3,hr3,hF⟩:=qg hF
 refine qbn r3 (vsB _) (cB 155 rfl) (fun _ hb=>qjy ((h.ext hb).old ha2) hr3) rfl rfl rfl rfl (Y0 3 rfl (dN h fun w4 h=>qf rfl hF ?_ ?_))<;>intro hF
 ·exact X0 4 rfl (ri h hF rfl)
 exact X0 5 rfl (ri h hF rfl)
def qfb (n:Nat) (a_0:qk) (a_1:qq) (a_2:Int):Option (qh × Bool) :=
 (qfl n (⟨a_0.Ab.Aa,a_0.Ab.Ah,a_0.Ab.Af⟩:qb) a_2).bind fun r1 =>
 (
  (idx a_1.Aq (W64 (2*r1))).bind fun y7 =>
  bif y7 then
   (idx a_1.Aq (W64 ((W64 (2*r1))+1))).bind fun y8 =>
   some y8
  else
   some false).bind fun b1 =>
 bif b1 then
  (idx a_1.Am (W64 (2*r1))).bind fun y1 =>
  (idx a_1.Am (W64 ((W64 (2*r1))+1))).bind fun y2 =>
  (qjG n y1 y2).bind fun r2 =>
  some (r2,true)
 else
  (idx a_1.Aq (W64 (2*r1))).bind fun y3 =>
  bif y3 then
   (idx a_1.Am (W64 (2*r1))).bind fun y4 =>
   some (y4,true)
  else
   (idx a_1.Aq (W64 ((W64 (2*r1))+1))).bind fun y5 =>
   bif y5 then
    (idx a_1.Am (W64 ((W64 (2*r1))+1))).bind fun y6 =>
    some (y6,true)
   else
    some ((⟨0,0⟩:qh),false)
theorem qjK {a_0:qk} {a_1:qq} {a_2:Int} (ha1:GoT.R w (old w) a_0 cs1) (ha2:GoT.R w (old w) a_1 cs2) {r:(qh × Bool)} (hF:qfb n a_0 a_1 a_2=some r):RetV Tryz.prog 74 [GoT.v qk cs1,GoT.v qq cs2,.int .i64 a_2] w r:=by
 obtain ⟨p1,k1,p2,k2,p3,k3,p4,k4,p5,k5,rfl,s1,s2,s3,s4,s5⟩:=qY ha1
 obtain ⟨p6,k6,p7,k7,p8,k8,rfl,s6,s7,s8⟩:=qaa ha2
 refine zV 65 Tryz.func74 rfl fun h=>zSR (qt h rfl rfl fun w1 bb1 h=>qt h rfl rfl fun w2 bb2 h=>qv qc h rfl rfl rfl fun w3 bb3 h=>X1 7 2 h rfl (zcI h hF (qjP (qaJ _ (h.oldS s2) (h.oldS s3) (h.oldS s4))) rfl fun r1 w4 h hF=>X0 6 rfl ?_))
 obtain ⟨KF1,hKF1,o1,hF,hK1⟩:=bindE hF
 refine qcy (fun e w'=>∃ (b1:Bool),KF1 b1=some r∧e=[(4,.pointer (some ⟨bb2,0,none⟩)),(6,.pointer (some ⟨bb3,0,none⟩)),(8,.int .i64 (W64 (2*r1))),(14,.bool b1)]∧SH w w' [Ch.box bb3 [.int .i64 0,.int .i64 0] 66,Ch.box bb2 (qcE a_1 p6 p7 p8 k6 k7 k8) 71]) ?_ ?_
 ·refine X1 4 1 h rfl ?_
  obtain ⟨y7,hy7,hF,he7,b8,_,q7,cs10,hp7,hq7,rfl,hc10⟩:=s6.ix hF
  refine zxe hp7 hq7 he7 rfl (zc 0 (hc10.below h.below) rfl (zp1 rfl (qd (t:=20) hF rfl ?_ ?_)))<;>intro hF
  ·refine X1 9 1 h rfl ?_
   obtain ⟨y8,hy8,hF,he8,b9,_,q8,cs11,hp8,hq8,rfl,hc11⟩:=s6.ix hF
   refine zxe hp8 hq8 he8 rfl (X0 1 rfl (zc 0 (hc11.below h.below) rfl (X0 3 rfl ?_)))
   replace h:=h.pick [0,1] rfl
   obtain rfl:=qa hF
   exact rG ⟨_,hK1,rfl,h⟩ rfl
  refine X0 9 rfl ?_
  replace h:=h.pick [0,1] rfl
  obtain rfl:=qa hF
  exact rG ⟨_,hK1,rfl,h⟩ rfl
 rintro e1 w11 ⟨b1,hF,rfl,h⟩
 subst hKF1
 refine qf rfl hF ?_ ?_<;>intro hF
 ·refine qd1 (rA [] [1] h rfl fun w5 h=>M1 7 [0,1,2] 0 (h.pick [1] rfl) rfl ?_)
  obtain ⟨y1,hy1,hF,he1,b2,_,q1,cs3,hp1,hq1,hr2,hc2⟩:=s7.ix hF
  obtain rfl:=qu hr2
  refine Ae 3 15 hp1 hq1 he1 (h.pick [1] rfl) rfl (Al 4 31 0 hc2 (h.pick [1] rfl) rfl (M1 511 [5,6,7,8] 0 (h.pick [1] rfl) rfl ?_))
  obtain ⟨y2,hy2,hF,he2,b3,_,q2,cs4,hp2,hq2,hr3,hc3⟩:=s7.ix hF
  obtain rfl:=qu hr3
  refine Ae 9 1023 hp2 hq2 he2 (h.pick [1] rfl) rfl (Al 10 2047 0 hc3 (h.pick [1] rfl) rfl (Ao 11 4095 rfl (zcO h hF (qkW (qE y1) (qE y2)) rfl fun r2 w6 S1 cs5 h hF=>?_)))
  obtain rfl:=qu (h.own 0 rfl)
  refine Ag (h.pick [2] rfl) (Ao 12 8191 rfl (zs 1 h rfl fun w7 h=>G0 16383 [13] (h.pick [2] rfl) rfl (Ad ?_)))
  obtain rfl:=qa hF
  exact qax qc (ρ:=(qh × Bool)) [GoT.v qh (qfI r2),GoT.v Bool [.bool true]] h ⟨⟨_,_,_,rfl,rfl,h.box 1 rfl,rfl⟩,rfl,trivial⟩ (PV.done h (qbI h (qbc 0 h rfl) (qaD (qH (S:=fun _=>False) rfl)) (by rfl)))
 refine X1 5 1 h rfl ?_
 obtain ⟨y3,hy3,hF,he3,b4,_,q3,cs6,hp3,hq3,rfl,hc4⟩:=s6.ix hF
 refine zxe hp3 hq3 he3 rfl (zc 0 (hc4.below h.below) rfl (X0 2 rfl (qf rfl hF ?_ ?_)))<;>intro hF
 ·refine X1 5 1 h rfl ?_
  obtain ⟨y4,hy4,hF,he4,b5,_,q4,cs7,hp4,hq4,hr6,hc6⟩:=s7.ix hF
  obtain rfl:=qu hr6
  refine zxe hp4 hq4 he4 rfl (zc 0 (hc6.below h.below) rfl (zs 0 h rfl fun w8 h=>X0 2 rfl ?_))
  obtain rfl:=qa hF
  exact qax qc (ρ:=(qh × Bool)) [GoT.v qh (qfI y4),GoT.v Bool [.bool true]] h ⟨⟨_,_,_,rfl,rfl,h.box 0 rfl,rfl⟩,rfl,trivial⟩ (PV.done h (qbI h (qH (S:=fun _=>False) (qE y4)) (qaD (qH (S:=fun _=>False) rfl)) (by rfl)))
 refine X1 6 1 h rfl ?_
 obtain ⟨y5,hy5,hF,he5,b6,_,q5,cs8,hp5,hq5,rfl,hc7⟩:=s6.ix hF
 refine zxe hp5 hq5 he5 rfl (zc 0 (hc7.below h.below) rfl (X0 2 rfl (qf rfl hF ?_ ?_)))<;>intro hF
 ·refine X1 6 1 h rfl ?_
  obtain ⟨y6,hy6,hF,he6,b7,_,q6,cs9,hp6,hq6,hr8,hc9⟩:=s7.ix hF
  obtain rfl:=qu hr8
  refine zxe hp6 hq6 he6 rfl (zc 0 (hc9.below h.below) rfl (zs 0 h rfl fun w9 h=>X0 2 rfl ?_))
  obtain rfl:=qa hF
  exact qax qc (ρ:=(qh × Bool)) [GoT.v qh (qfI y6),GoT.v Bool [.bool true]] h ⟨⟨_,_,_,rfl,rfl,h.box 0 rfl,rfl⟩,rfl,trivial⟩ (PV.done h (qbI h (qH (S:=fun _=>False) (qE y6)) (qaD (qH (S:=fun _=>False) rfl)) (by rfl)))
 refine X0 4 rfl (r_v (qbf qc [] [] rfl rfl rfl rfl rfl rfl rfl rfl) rfl (zs 0 h rfl fun w10 h=>X0 2 rfl ?_))
 obtain rfl:=qa hF
 exact qax qc (ρ:=(qh × Bool)) [GoT.v qh [.int .i64 0,.int .i64 0],GoT.v Bool [.bool false]] h ⟨⟨_,_,_,rfl,rfl,h.box 0 rfl,rfl⟩,rfl,trivial⟩ (PV.done h (qbI h (qH (S:=fun _=>False) (qE (⟨0,0⟩:qh))) (qaD (qH (S:=fun _=>False) rfl)) (by rfl)))
def qe5 (n:Nat) (b:qk) (t:qq) (net:Int):Option (qh × Int) :=
 (qd8 n b t).bind fun r1 =>
 bif (r1 != 0) then some ((⟨0,0⟩:qh),r1) else
 (qX n net 0 (W64 ((b.Ab.Ah.length:Int)-1))).bind fun r2 =>
 bif (!r2) then some ((⟨0,0⟩:qh),2) else
 (qfb n b t net).bind fun o=>match o with
  | (r4,r5) =>
   bif (!r5) then some ((⟨0,0⟩:qh),4) else
   some (r4,0)
theorem qd2 {b:qk} {t:qq} {net:Int} (ha1:GoT.R w (old w) b cs1) (ha2:GoT.R w (old w) t cs2) {r:(qh × Int)} (hF:qe5 n b t net=some r):RetV Tryz.prog 24 [GoT.v qk cs1,GoT.v qq cs2,.int .i64 net] w r:=by
 obtain ⟨p1,k1,p2,k2,p3,k3,p4,k4,p5,k5,rfl,s1,s2,s3,s4,s5⟩:=qY ha1
 obtain ⟨p6,k6,p7,k7,p8,k8,rfl,s6,s7,s8⟩:=qaa ha2
 refine zV 38 Tryz.func24 rfl fun h=>zSR (qt h rfl rfl fun w1 bb1 h=>qt h rfl rfl fun w2 bb2 h=>qv qc h rfl rfl rfl fun w3 bb3 h=>X2 7 2 1 h rfl (zcI h hF (qjH (h.old ha1) (h.old ha2)) rfl fun r1 w4 h hF=>X0 7 rfl (qf rfl hF ?_ ?_)))<;>intro hF
 ·refine zSR (r_v (qbf qc [] [] rfl rfl rfl rfl rfl rfl rfl rfl) rfl (zp1 rfl (zs 0 h rfl fun w5 h=>X0 2 rfl ?_)))
  obtain rfl:=qa hF
  exact qax qc (ρ:=(qh × Int)) [GoT.v qh [.int .i64 0,.int .i64 0],GoT.v Int [.int .i64 r1]] h ⟨⟨_,_,_,rfl,rfl,h.box 0 rfl,rfl⟩,rfl,trivial⟩ (PV.done h (qbI h (qH (S:=fun _=>False) (qE (⟨0,0⟩:qh))) (qaD (qH (S:=fun _=>False) rfl)) (by rfl)))
 refine X1 10 2 h rfl (zcB h hF qP rfl fun r2 w6 h hF=>X0 2 rfl (qf rfl hF ?_ ?_))<;>intro hF
 ·refine zSR (r_v (qbf qc [] [] rfl rfl rfl rfl rfl rfl rfl rfl) rfl (zs 0 h rfl fun w7 h=>X0 2 rfl ?_))
  obtain rfl:=qa hF
  exact qax qc (ρ:=(qh × Int)) [GoT.v qh [.int .i64 0,.int .i64 0],GoT.v Int [.int .i64 2]] h ⟨⟨_,_,_,rfl,rfl,h.box 0 rfl,rfl⟩,rfl,trivial⟩ (PV.done h (qbI h (qH (S:=fun _=>False) (qE (⟨0,0⟩:qh))) (qaD (qH (S:=fun _=>False) rfl)) (by rfl)))
 refine X2 6 2 1 h rfl ?_
 obtain ⟨r3,hr3,hF⟩:=qg hF
 obtain ⟨r4,r5⟩:=r3
 refine qeR (r4,r5) h (cB 74 rfl) (qjK (h.old ha1) (h.old ha2) hr3) rfl rfl rfl rfl fun w8 S1 us1 hv1 hr4=>?_
 obtain ⟨S2,S3,cs3,us2,rfl,hv2,hr5⟩:=hv1.cons hr4
 obtain rfl:=qu (hv2.sh.own 0 rfl)
 obtain ⟨rfl,h⟩:=hv2.lastB hr5
 refine zp3 rfl (qv qc h rfl rfl rfl fun w9 bb4 h=>zs 0 h rfl fun w10 h=>X0 8 rfl (qf rfl hF ?_ ?_))<;>intro hF
 ·refine zSR (r_v (qbf qc [] [] rfl rfl rfl rfl rfl rfl rfl rfl) rfl (zs 2 h rfl fun w11 h=>X0 2 rfl ?_))
  obtain rfl:=qa hF
  exact qax qc (ρ:=(qh × Int)) [GoT.v qh [.int .i64 0,.int .i64 0],GoT.v Int [.int .i64 4]] h ⟨⟨_,_,_,rfl,rfl,h.box 2 rfl,rfl⟩,rfl,trivial⟩ (PV.done h (qbI h (qH (S:=fun _=>False) (qE (⟨0,0⟩:qh))) (qaD (qH (S:=fun _=>False) rfl)) (by rfl)))
 refine X1 4 0 h rfl (zs 2 h rfl fun w12 h=>X0 2 rfl ?_)
 obtain rfl:=qa hF
 exact qax qc (ρ:=(qh × Int)) [GoT.v qh (qfI r4),GoT.v Int [.int .i64 0]] h ⟨⟨_,_,_,rfl,rfl,h.box 2 rfl,rfl⟩,rfl,trivial⟩ (PV.done h (qbI h (qbc 1 h rfl) (qaD (qH (S:=fun _=>False) rfl)) (by rfl)))
def qee (n:Nat) (b:qk) (t:qq):Option ((Option Tview) × Int) :=
 (qgC n b).bind fun r1 =>
 bif (!r1) then some (none,1) else
 (qgv n b).bind fun r2 =>
 (qdp n r2 t).bind fun r3 =>
 bif (!r3) then some (none,1) else
 some (r2,0)
theorem qjS {A:Nat→Prop} (hA:∀ b,A b→old w b) {b:qk} {t:qq} (ha1:GoT.R w A b cs1) (ha2:GoT.R w A t cs2) {r:((Option Tview) × Int)} (hF:qee n b t=some r):RetG Tryz.prog 77 [GoT.v qk cs1,GoT.v qq cs2] w A r:=by
 obtain ⟨p1,k1,p2,k2,p3,k3,p4,k4,p5,k5,rfl,s1,s2,s3,s4,s5⟩:=qY ha1
 obtain ⟨p6,k6,p7,k7,p8,k8,rfl,s6,s7,s8⟩:=qaa ha2
 have hg:=Rg.start hA
 refine qkr Tryz.func77 rfl (m:=17) rfl rfl (fun h=>?_)
 refine zSR (qt h rfl rfl fun w1 bb1 h=>qt h rfl rfl fun w2 bb2 h=>X1 7 1 h rfl (zcB h hF (qkL (h.old (GoT.mono ha1 hg.old))) rfl fun r1 w3 h hF=>X0 2 rfl (qf rfl hF ?_ ?_)))<;>intro hF
 ·refine X0 5 rfl ?_
  obtain rfl:=qa hF
  have hv1:GoRs.Rs (ρ:=((Option Tview) × Int)) h.wc (reg A w h.wc) (none,1) [GoT.v (Option Tview) [.pointer none],GoT.v Int [.int .i64 1]]:=⟨_,_,rfl,rfl,⟨_,rfl,rfl⟩⟩
  exact qmX qc (ρ:=((Option Tview) × Int)) (r:=(none,1)) [GoT.v (Option Tview) [.pointer none],GoT.v Int [.int .i64 1]] h ⟨rfl,rfl,trivial⟩ hv1
 refine X1 4 1 h rfl ?_
 obtain ⟨r2,hr2,hF⟩:=qg hF
 refine qoB r2 hg h (cB 112 rfl) (qkw (hg.regOld h) (hg.inR h ha1) hr2) rfl rfl rfl rfl fun w4 us1 B1 hg1 hu1 hz1 hv2=>?_
 have hL1:=h.ext hu1.below
 have hc2:=Up.box 0 h hu1 rfl
 have s9:=Up.S hg h hu1 s6
 have s10:=Up.S hg h hu1 s7
 have s11:=Up.S hg h hu1 s8
 have s12:=Up.R hg h hu1 ha2
 have ha3:=Up.boxP (x:=t) hg 0 h hu1 rfl (hg.inR h ha2)
 have hb1:=h.below.trans (hu1.below.mono h.below.size)
 replace h:=hz1
 obtain ⟨cs3,rfl,hr3⟩:=qqD hv2
 obtain ⟨p9,rfl,s13⟩:=qiL hr3
 refine X0 6 rfl (zc 0 (hc2.below h.below) rfl (zcB h hF (qie (h.old (GoT.mono s13 hg1.old)) (h.old (GoT.mono s12 hg1.old))) rfl fun r3 w5 h hF=>X0 2 rfl (qf rfl hF ?_ ?_)))<;>intro hF
 ·refine X0 5 rfl ?_
  obtain rfl:=qa hF
  have hv3:GoRs.Rs (ρ:=((Option Tview) × Int)) h.wc (reg A w h.wc) (none,1) [GoT.v (Option Tview) [.pointer none],GoT.v Int [.int .i64 1]]:=⟨_,_,rfl,rfl,⟨_,rfl,rfl⟩⟩
  exact qmX qc (ρ:=((Option Tview) × Int)) (r:=(none,1)) [GoT.v (Option Tview) [.pointer none],GoT.v Int [.int .i64 1]] (h.unbase hg1.below (show NoD [] from trivial)) ⟨rfl,rfl,trivial⟩ hv3
 refine X0 7 rfl ?_
 obtain rfl:=qa hF
 have hv4:GoRs.Rs (ρ:=((Option Tview) × Int)) h.wc (reg A w h.wc) (r2,0) [GoT.v (Option Tview) [.pointer p9],GoT.v Int [.int .i64 0]]:=⟨_,_,rfl,(hg1.outR h (hg1.inR h s13)),⟨_,rfl,rfl⟩⟩
 exact qmX qc (ρ:=((Option Tview) × Int)) (r:=(r2,0)) [GoT.v (Option Tview) [.pointer p9],GoT.v Int [.int .i64 0]] (h.unbase hg1.below (show NoD [] from trivial)) ⟨rfl,rfl,trivial⟩ hv4
def qea (t:qq) (nodes:(List Int)):Nat→Bool→Int→Int→Int→Int→Int→Int→Option (Bool × Int × Int × Int × Int × Int × Int)
 | 0,_,_,_,_,_,_,_=>none
 | n+1,b1,i1,i2,i3,i4,i5,i6 =>
  bif decide (i6<(nodes.length:Int)) then
   (idx nodes i6).bind fun y1 =>
   (idx t.Aq y1).bind fun y2 =>
   bif y2 then
    (idx t.Am y1).bind fun y3 =>
    (qfG n (⟨i1,(⟨i2,i3⟩:qh),(⟨i4,i5⟩:qh)⟩:qbU) b1 y3 (⟨0,0⟩:qh)).bind fun o=>match o with
     | (x1,x2) =>
      qea t nodes n x2 x1.Bv x1.Am.Au x1.Am.Ba x1.Az.Au x1.Az.Ba (W64 (i6+1))
   else
    qea t nodes n b1 i1 i2 i3 i4 i5 (W64 (i6+1))
  else
   some (b1,i1,i2,i3,i4,i5,i6)
def qhv (n:Nat) (t:qq) (nodes:(List Int)):Option (qh × Bool) :=
 (qea t nodes n false 0 0 0 0 0 0).bind fun o=>match o with
 | (b1,_,i2,i3,_,_,_) =>
  some ((⟨i2,i3⟩:qh),b1)
theorem qlp {t:qq} {nodes:(List Int)} (ha1:GoT.R w (old w) t cs1) (ha2:GoT.R w (old w) nodes cs2) {r:(qh × Bool)} (hF:qhv n t nodes=some r):RetV Tryz.prog 163 [GoT.v qq cs1,GoT.v (List Int) cs2] w r:=by
 obtain ⟨p1,k1,p2,k2,p3,k3,rfl,s1,s2,s3⟩:=qaa ha1
 obtain ⟨p4,k4,rfl,s4⟩:=ha2
 refine zV 32 Tryz.func163 rfl fun h=>zSR (qt h rfl rfl fun w1 bb1 h=>qv qc h rfl rfl rfl fun w2 bb2 h=>X0 4 rfl (qv qc h rfl rfl rfl fun w3 bb3 h=>zNSR (qv qc h rfl rfl rfl fun w4 bb4 h=>zs 0 h rfl fun w5 h=>X0 8 rfl ?_)))
 obtain ⟨o1,hF,hK1⟩:=qg hF
 refine qm (rL (fun m e w'=>∃ (b1:Bool) (i1:Int) (i2:Int) (i3:Int) (i4:Int) (i5:Int) (i6:Int),qea t nodes m b1 i1 i2 i3 i4 i5 i6=some o1∧e=[(2,.pointer (some ⟨bb1,0,none⟩)),(4,.pointer (some ⟨bb2,0,none⟩)),(6,.pointer (some ⟨bb3,0,none⟩)),(7,.pointer (some ⟨bb4,0,none⟩)),(10,.slice p4 nodes.length k4),(11,.int .i64 (nodes.length:Int)),(12,.int .i64 i6)]∧SH w w' [Ch.box bb4 [.bool b1] 4,Ch.box bb3 [.int .i64 i1,.int .i64 i2,.int .i64 i3,.int .i64 i4,.int .i64 i5] 153,Ch.box bb2 [.int .i64 0,.int .i64 0] 66,Ch.box bb1 (qcE t p1 p2 p3 k1 k2 k3) 71]) n ⟨_,_,_,_,_,_,_,hF,rfl,h⟩ rfl ?_)
 rintro m1 e1 w6 ⟨b1,i1,i2,i3,i4,i5,i6,hF,rfl,h⟩
 rcases m1 with _|m1
 ·cases hF
 refine X0 5 rfl (qf rfl hF ?_ ?_)<;>intro hF
 ·refine zKSBSR ?_
  obtain ⟨y1,hy1,hF,he1,b2,_,q1,cs3,hp1,hq1,rfl,hc2⟩:=s4.ix hF
  refine zxe hp1 hq1 he1 rfl (zc 0 (hc2.below h.below) rfl (X1 7 3 h rfl ?_))
  obtain ⟨y2,hy2,hF,he2,b3,_,q2,cs4,hp2,hq2,rfl,hc3⟩:=s1.ix hF
  refine zxe hp2 hq2 he2 rfl (zc 0 (hc3.below h.below) rfl (qcz (qf rfl hF ?_ ?_)))<;>intro hF
  ·refine X1 4 3 h rfl ?_
   obtain ⟨y3,hy3,hF,he3,b4,_,q3,cs5,hp3,hq3,hr3,hc5⟩:=s2.ix hF
   obtain rfl:=qu hr3
   refine zxe hp3 hq3 he3 rfl (zc 0 (hc5.below h.below) rfl (r_v (qbf qc [] [] rfl rfl rfl rfl rfl rfl rfl rfl) rfl ?_))
   obtain ⟨o2,hr4,hF⟩:=qg hF
   obtain ⟨x1,x2⟩:=o2
   refine qrj (cB 231 rfl) (qih h hr4) rfl rfl rfl rfl fun w7 h=>?_
   replace h:SH _ _ [Ch.box bb4 [.bool x2] 4,Ch.box bb3 (qj8 x1) 153,Ch.box bb2 [.int .i64 0,.int .i64 0] 66,Ch.box bb1 (qcE t p1 p2 p3 k1 k2 k3) 71]:=h
   exact X0 6 rfl (rK ⟨_,_,_,_,_,_,_,hF,rfl,h⟩ rfl)
  exact X0 6 rfl (rK ⟨_,_,_,_,_,_,_,hF,rfl,h⟩ rfl)
 refine qr rfl ?_
 obtain rfl:=qa hF;replace hF:=hK1
 refine qd1 (rA [] [0,1] h rfl fun w8 h=>M2 7 [0,1,2] 1 0 (h.pick [0,1] rfl) rfl (Ao 3 15 rfl (zs 2 h rfl fun w9 h=>G0 31 [4] (h.pick [0,1] rfl) rfl (Ad ?_))))
 obtain rfl:=qa hF
 exact qax qc (ρ:=(qh × Bool)) [GoT.v qh [.int .i64 i2,.int .i64 i3],GoT.v Bool [.bool b1]] h ⟨⟨_,_,_,rfl,rfl,h.box 2 rfl,rfl⟩,rfl,trivial⟩ (PV.done h (qbI h (qH (S:=fun _=>False) (qE (⟨i2,i3⟩:qh))) (qaD (qH (S:=fun _=>False) rfl)) (by rfl)))
def qdr (_:Nat) (p:Tplace) (v0:Int):Option Bool :=
 bif (p.net==v0) then some p.drives else
 some false
theorem qif {p:Tplace} {v0:Int} (ha1:GoT.R w (old w) p cs1) {p1:Option Addr} (ha2:GoT.R w (old w) (some v0) [.pointer p1]) {r:Bool} (hF:qdr n p v0=some r):RetV Tryz.prog 162 [GoT.v Tplace cs1,.pointer p1] w r:=by
 obtain rfl:=qd9 ha1
 obtain ⟨b1,o_1,cs2,rfl,-,hr1,hc1⟩:=PtR.get ha2 rfl
 obtain rfl:=hr1
 refine zV 12 Tryz.func162 rfl fun h=>zSR (qt h rfl rfl fun w1 bb1 h=>X1 6 0 h rfl (zc 0 (hc1.below h.below) rfl (zp2 rfl (qd (t:=8) hF rfl ?_ ?_))))<;>intro hF
 ·exact X1 7 0 h rfl (rb h hF rfl)
 exact X0 5 rfl (rb h hF rfl)
def qx (s:(List Tplace)) (f_0:Int):Nat→Int→Option (Flow Int Int)
 | 0,_=>none
 | n+1,i1 =>
  bif decide (i1<(s.length:Int)) then
   (idx s i1).bind fun y1 =>
   (qdr n y1 f_0).bind fun r1 =>
   bif r1 then some (.ret i1) else
   qx s f_0 n (W64 (i1+1))
  else
   some (.nxt i1)
def qJ (n:Nat) (s:(List Tplace)) (f_0:Int):Option Int :=
 (qx s f_0 n 0).bind fun o=>match o with
 | .ret r=>some r
 | .nxt _ =>
  some (-1)
theorem qcx {s:(List Tplace)} {f_0:Int} (ha1:GoT.R w (old w) s cs1) {p2:Option Addr} (ha2:GoT.R w (old w) (some f_0) [.pointer p2]) {r:Int} (hF:qJ n s f_0=some r):RetV Tryz.prog 161 [GoT.v (List Tplace) cs1,.func (.func 162) #[] #[.pointer p2]] w r:=by
 obtain ⟨p1,k1,rfl,s1⟩:=ha1
 obtain ⟨b1,o_1,cs2,rfl,-,hr1,hc1⟩:=PtR.get ha2 rfl
 obtain rfl:=hr1
 refine zV 19 Tryz.func161 rfl fun h=>X0 11 rfl ?_
 obtain ⟨o1,hF,hK1⟩:=qg hF
 refine qm (rL (fun m e w'=>∃ (i1:Int),qx s f_0 m i1=some o1∧e=[(0,.slice p1 s.length k1),(1,.func (.func 162) #[] #[.pointer (some ⟨b1,o_1,none⟩)]),(7,.int .i64 (s.length:Int)),(8,.int .i64 i1)]∧SH w w' []) n ⟨_,hF,rfl,h⟩ rfl ?_)
 rintro m1 e1 w1 ⟨i1,hF,rfl,h⟩
 rcases m1 with _|m1
 ·cases hF
 refine X0 5 rfl (qf rfl hF ?_ ?_)<;>intro hF
 ·refine X0 13 rfl ?_
  obtain ⟨y1,hy1,hF,he1,b2,_,q1,cs3,hp1,hq1,hr2,hc3⟩:=s1.ix hF
  obtain rfl:=qd9 hr2
  refine zxe hp1 hq1 he1 rfl (zc 0 (hc3.below h.below) rfl (zcB h hF (qif (qg5 y1) (h.old ha2)) rfl fun r1 w2 h hF=>qcz (qf rfl hF ?_ ?_)))<;>intro hF
  ·refine X0 5 rfl ?_
   obtain rfl:=qa hF;replace hF:=hK1
   exact ri h hF rfl
  exact X0 6 rfl (rK ⟨_,hF,rfl,h⟩ rfl)
 refine qr rfl ?_
 obtain rfl:=qa hF;replace hF:=hK1
 exact X0 4 rfl (ri h hF rfl)
def qem (n:Nat) (v:(Option Tview)) (t:qq) (net:Int):Option (qh × Bool) :=
 (v).bind fun y1 =>
 (qJ n y1.places net).bind fun r1 =>
 (qhv n t ([W64 (2*r1),W64 ((W64 (2*r1))+1)]:List Int)).bind fun o=>match o with
  | (r3,r4) =>
   some (r3,r4)
theorem qi8 {v:(Option Tview)} {t:qq} {net:Int} (ha1:GoT.R w (old w) v cs1) (ha2:GoT.R w (old w) t cs2) {r:(qh × Bool)} (hF:qem n v t net=some r):RetV Tryz.prog 79 [GoT.v (Option Tview) cs1,GoT.v qq cs2,.int .i64 net] w r:=by
 obtain ⟨p1,rfl,s1⟩:=qiL ha1
 obtain ⟨p2,k1,p3,k2,p4,k3,rfl,s2,s3,s4⟩:=qaa ha2
 refine zV 25 Tryz.func79 rfl fun h=>zSR (qt h rfl rfl fun w1 bb1 h=>qt h rfl rfl fun w2 bb2 h=>qv qc h rfl rfl rfl fun w3 bb3 h=>X0 5 rfl ?_)
 obtain ⟨y1,hy1,hF⟩:=qg hF
 obtain ⟨b1,o_1,cs3,rfl,-,hr1,hc1⟩:=PtR.get s1 hy1
 obtain ⟨p5,k4,p6,k5,p7,k6,p8,k7,p9,k8,p10,k9,p11,k10,p12,k11,p13,k12,p14,k13,rfl,s5,s6,s7,s8,s9,s10,s11,s12,s13,s14⟩:=qly hr1
 refine zp2 rfl (zc 5 (hc1.below h.below) rfl (zp1 rfl (zcI h hF (qcx ⟨_,_,rfl,(h.oldS s10)⟩ (qgY (x:=net) 1 h rfl rfl)) rfl fun r1 w4 h hF=>X1 10 2 h rfl (qal qc [.tmp 17,.tmp 20] _ ([W64 (2*r1),W64 ((W64 (2*r1))+1)]:List Int) h rfl rfl rfl rfl rfl rfl rfl rfl rfl ⟨rfl,rfl,trivial⟩ rfl fun w5 p15 S1 h=>?_))))
 obtain ⟨r2,hr3,hF⟩:=qg hF
 obtain ⟨r3,r4⟩:=r2
 refine qeR (r3,r4) h (cB 163 rfl) (qlp (h.old ha2) (h.own 0 rfl) hr3) rfl rfl rfl rfl fun w6 S2 us1 hv1 hr4=>?_
 obtain ⟨S3,S4,cs4,us2,rfl,hv2,hr5⟩:=hv1.cons hr4
 obtain rfl:=qu (hv2.sh.own 0 rfl)
 obtain ⟨rfl,h⟩:=hv2.lastB hr5
 refine zp2 rfl (zs 2 h rfl fun w7 h=>X0 2 rfl ?_)
 obtain rfl:=qa hF
 exact qax qc (ρ:=(qh × Bool)) [GoT.v qh (qfI r3),GoT.v Bool [.bool r4]] h ⟨⟨_,_,_,rfl,rfl,h.box 2 rfl,rfl⟩,rfl,trivial⟩ (PV.done h (qbI h (qbc 0 h rfl) (qaD (qH (S:=fun _=>False) rfl)) (by rfl)))
def qfc (n:Nat) (b:qk) (t:qq) (net:Int):Option (qh × Int) :=
 (qee n b t).bind fun o=>match o with
  | (r2,r3) =>
   bif (r3 != 0) then some ((⟨0,0⟩:qh),r3) else
   (qbj n (⟨b.Ab.Aa,b.Ab.Ah,b.Ab.Af⟩:qb) net).bind fun r4 =>
   bif (!r4) then some ((⟨0,0⟩:qh),2) else
   (qem n r2 t net).bind fun o=>match o with
    | (r6,r7) =>
     bif (!r7) then some ((⟨0,0⟩:qh),4) else
     some (r6,0)
theorem qjE {b:qk} {t:qq} {net:Int} (ha1:GoT.R w (old w) b cs1) (ha2:GoT.R w (old w) t cs2) {r:(qh × Int)} (hF:qfc n b t net=some r):RetV Tryz.prog 26 [GoT.v qk cs1,GoT.v qq cs2,.int .i64 net] w r:=by
 obtain ⟨p1,k1,p2,k2,p3,k3,p4,k4,p5,k5,rfl,s1,s2,s3,s4,s5⟩:=qY ha1
 obtain ⟨p6,k6,p7,k7,p8,k8,rfl,s6,s7,s8⟩:=qaa ha2
 refine zV 41 Tryz.func26 rfl fun h=>zSR (qt h rfl rfl fun w1 bb1 h=>qt h rfl rfl fun w2 bb2 h=>qv qc h rfl rfl rfl fun w3 bb3 h=>X2 6 2 1 h rfl ?_)
 have hg1:Rg (old w) w (old w) w:=.start (fun _ h=>h)
 obtain ⟨r1,hr1,hF⟩:=qg hF
 obtain ⟨r2,r3⟩:=r1
 refine qoB (r2,r3) hg1 h (cB 77 rfl) (qjS (hg1.regOld h) (hg1.inR h ha1) (hg1.inR h ha2) hr1) rfl rfl rfl rfl fun w4 us1 B1 hg2 hu1 hz1 hv1=>?_
 have hL1:=h.ext hu1.below
 have hc1:=Up.box 2 h hu1 rfl
 have s9:=Up.S hg1 h hu1 s1
 have s10:=Up.S hg1 h hu1 s2
 have s11:=Up.S hg1 h hu1 s3
 have s12:=Up.S hg1 h hu1 s4
 have s13:=Up.S hg1 h hu1 s5
 have s14:=Up.R hg1 h hu1 ha1
 have ha3:=Up.boxP (x:=b) hg1 2 h hu1 rfl (hg1.inR h ha1)
 have hc2:=Up.box 1 h hu1 rfl
 have s15:=Up.S hg1 h hu1 s6
 have s16:=Up.S hg1 h hu1 s7
 have s17:=Up.S hg1 h hu1 s8
 have s18:=Up.R hg1 h hu1 ha2
 have ha4:=Up.boxP (x:=t) hg1 1 h hu1 rfl (hg1.inR h ha2)
 have hc3:=Up.box 0 h hu1 rfl
 have ha5:=Up.boxP (x:=(⟨0,0⟩:qh)) hg1 0 h hu1 rfl (qE (⟨0,0⟩:qh))
 have hb1:=h.below.trans (hu1.below.mono h.below.size)
 replace h:=hz1
 obtain ⟨cs3,us2,rfl,hr2,hv2⟩:=qrq hv1
 obtain ⟨p9,rfl,s19⟩:=qiL hr2
 obtain ⟨cs4,rfl,hr3⟩:=qqD hv2
 obtain rfl:=hr3
 refine X0 14 rfl (qf rfl hF ?_ ?_)<;>intro hF
 ·refine zSR (r_v (qbf qc [] [] rfl rfl rfl rfl rfl rfl rfl rfl) rfl (zp1 rfl ?_))
  replace h:=SH.back hL1 h (show NoD [] from trivial)
  refine zs 0 h rfl fun w6 h=>X0 2 rfl ?_
  replace h:=h.unbase hg1.below ⟨fun _ h=>h,⟨fun _ h=>h,⟨fun _ h=>h,trivial⟩⟩⟩
  obtain rfl:=qa hF
  exact qax qc (ρ:=(qh × Int)) [GoT.v qh [.int .i64 0,.int .i64 0],GoT.v Int [.int .i64 r3]] h ⟨⟨_,_,_,rfl,rfl,h.box 0 rfl,rfl⟩,rfl,trivial⟩ (PV.done h (qbI h (qH (S:=fun _=>False) (qE (⟨0,0⟩:qh))) (qaD (qH (S:=fun _=>False) rfl)) (by rfl)))
 refine X0 3 rfl (zc 1 (hc1.below h.below) rfl (zp1 rfl (zcB h hF (qcR (qaJ _ (h.oldS (s10.mono hg2.old)) (h.oldS (s11.mono hg2.old)) (h.oldS (s12.mono hg2.old)))) rfl fun r4 w7 h hF=>X0 3 rfl (qf rfl hF ?_ ?_))))<;>intro hF
 ·refine zSR (r_v (qbf qc [] [] rfl rfl rfl rfl rfl rfl rfl rfl) rfl ?_)
  replace h:=SH.back hL1 h (show NoD [] from trivial)
  refine zs 0 h rfl fun w9 h=>X0 2 rfl ?_
  replace h:=h.unbase hg1.below ⟨fun _ h=>h,⟨fun _ h=>h,⟨fun _ h=>h,trivial⟩⟩⟩
  obtain rfl:=qa hF
  exact qax qc (ρ:=(qh × Int)) [GoT.v qh [.int .i64 0,.int .i64 0],GoT.v Int [.int .i64 2]] h ⟨⟨_,_,_,rfl,rfl,h.box 0 rfl,rfl⟩,rfl,trivial⟩ (PV.done h (qbI h (qH (S:=fun _=>False) (qE (⟨0,0⟩:qh))) (qaD (qH (S:=fun _=>False) rfl)) (by rfl)))
 refine X0 5 rfl (zc 0 (hc2.below h.below) rfl (zp1 rfl ?_))
 obtain ⟨r5,hr5,hF⟩:=qg hF
 obtain ⟨r6,r7⟩:=r5
 refine qeR (r6,r7) h (cB 79 rfl) (qi8 (h.old (GoT.mono s19 hg2.old)) (h.old (GoT.mono s18 hg2.old)) hr5) rfl rfl rfl rfl fun w10 S1 us3 hv3 hr6=>?_
 obtain ⟨S2,S3,cs5,us4,rfl,hv4,hr7⟩:=hv3.cons hr6
 obtain rfl:=qu (hv4.sh.own 0 rfl)
 obtain ⟨rfl,h⟩:=hv4.lastB hr7
 refine zp3 rfl (qv qc h rfl rfl rfl fun w11 bb4 h=>zs 0 h rfl fun w12 h=>X0 8 rfl (qf rfl hF ?_ ?_))<;>intro hF
 ·refine zSR (r_v (qbf qc [] [] rfl rfl rfl rfl rfl rfl rfl rfl) rfl ?_)
  replace h:=SH.back hL1 h ⟨fun _ h=>h,⟨fun _ h=>h,trivial⟩⟩
  refine zs 2 h rfl fun w14 h=>X0 2 rfl ?_
  replace h:=h.unbase hg1.below ⟨fun _ h=>h,⟨fun _ h=>h,⟨fun _ h=>h,⟨fun _ h=>h,⟨fun _ h=>h,trivial⟩⟩⟩⟩⟩
  obtain rfl:=qa hF
  exact qax qc (ρ:=(qh × Int)) [GoT.v qh [.int .i64 0,.int .i64 0],GoT.v Int [.int .i64 4]] h ⟨⟨_,_,_,rfl,rfl,h.box 2 rfl,rfl⟩,rfl,trivial⟩ (PV.done h (qbI h (qH (S:=fun _=>False) (qE (⟨0,0⟩:qh))) (qaD (qH (S:=fun _=>False) rfl)) (by rfl)))
 refine X1 4 0 h rfl ?_
 replace h:=SH.back hL1 h ⟨fun _ h=>h,⟨fun _ h=>h,trivial⟩⟩
 refine zs 2 h rfl fun w16 h=>X0 2 rfl ?_
 replace h:=h.unbase hg1.below ⟨fun _ h=>h,⟨fun _ h=>h,⟨fun _ h=>h,⟨fun _ h=>h,⟨fun _ h=>h,trivial⟩⟩⟩⟩⟩
 obtain rfl:=qa hF
 exact qax qc (ρ:=(qh × Int)) [GoT.v qh (qfI r6),GoT.v Int [.int .i64 0]] h ⟨⟨_,_,_,rfl,rfl,h.box 2 rfl,rfl⟩,rfl,trivial⟩ (PV.done h (qbI h (qbc 1 h rfl) (qaD (qH (S:=fun _=>False) rfl)) (by rfl)))
end Go.Fw


namespace Go.Fw
open Go
set_option maxRecDepth 100000
theorem qmz {b:qk} {k:Int} (h:blockB b=true) {j:Nat} (hj:j<(places b.Ab).length) (hk:(gt (places b.Ab) j).net=k) (hdr:(gt (places b.Ab) j).drives=true):Ev (fun n=>qfl n b.Ab k) (j:Int):=by
 have hd:=qbX h
 have hs:=qa0 hd
 have hl:=qcW hs
 have e:ixL (fun q:Tl05Place=>(q.net==k)&&q.drives) ((places b.Ab).map toSp)=(j:Int):=by
  refine qqr (by simpa using hj) ?_ (fun i hi hq=>?_)
  ·rw [qoc hj]
   show (((gt (places b.Ab) j).net==k)&&(gt (places b.Ab) j).drives)=true
   rw [hk,hdr];simp
  ·have hi':i<(places b.Ab).length:=by simpa using hi
   rw [qoc hi'] at hq
   have hq':(((gt (places b.Ab) i).net==k)&&(gt (places b.Ab) i).drives)=true:=hq
   simp only [jf,beq_iff_eq] at hq'
   exact qnC hd hi' hj (by rw [hq'.1,hk]) hq'.2 hdr
 unfold qfl
 refine Ev.bind (qjm hs) ?_
 rw [←e]
 exact qeD (fin:=(((places b.Ab).map toSp).length:Int)) (Lf:=qbo k ((places b.Ab).map toSp)) (xs:=(places b.Ab).map toSp) (pf:=fun _ (q:Tl05Place)=>some ((q.net==k)&&q.drives)) (fun _ _=>.done)
  (fun n=>by simp only [qbo,qj (je _),cond_false])
  (fun n j x hx=>by
   have hj:=(List.getElem?_eq_some_iff.1 hx).1
   have hj':j<(places b.Ab).length:=by simpa using hj
   simp only [qbo,qi hj,cond_true,qU hx,jd,wS j]
   cases (x.net==k)<;>cases x.drives<;>rfl)
  (fun n=>by congr 1;funext o;cases o<;>rfl)
def lvB (br:List Int) (m:Nat):List Bool:=pre (fun k=>!br.any fun y=>y==(k:Int)) m
def brB (br:List Int) (m:Nat):Bool:=(br.all fun x=>inI x 0 ((m:Int)-1))&&incB br
end Go.Fw


namespace Go.Fw
open Go
set_option maxRecDepth 100000
structure CLk (b:qk) (x:qT) (i j m net a:Nat):Prop where
 kind:x.Av=1
 il:i<b.Ab.Aa.length
 jl:j<(places b.Ab).length
 inst:(gt (places b.Ab) j).instance_=(i:Int)
 net_:(gt (places b.Ab) j).net=(net:Int)
 nl:net<b.Ac.length
 half:W64 (x.To.tdiv 2)=(j:Int)
 mod:x.To.tmod 2=(m:Int)
 ml:m<2
 ix:x.Bw=(a:Int)
 al:a<(cellAt b (i:Int)).Aj.length
 d2:(gt (cellAt b (i:Int)).Aj a).Bh.length=2
 s2:(gt (cellAt b (i:Int)).Aj a).Az.length=2
 dt:∀ t,t ∈ (gt (cellAt b (i:Int)).Aj a).Bh→TbOk t∧∀ k,0≤at0 t.Ay k
 st:∀ t,t ∈ (gt (cellAt b (i:Int)).Aj a).Az→TbOk t∧∀ k,0≤at0 t.Ay k
structure WLk (b:qk) (x:qT) (j net k:Nat):Prop where
 kind:x.Av=2
 jl:j<(places b.Ab).length
 net_:(gt (places b.Ab) j).net=(net:Int)
 nl:net<b.Ac.length
 half:W64 (x.To.tdiv 2)=(j:Int)
 ix:x.Bw=(k:Int)
 kl:k<(gt b.Ac net).Bc.length
end Go.Fw


namespace Go.Fw
open Go
set_option maxRecDepth 100000
def slR (s:qh):Prop:=(0≤s.Au∧s.Au≤1000000)∧(0≤s.Ba∧s.Ba≤1000000)
def zSp:qh:=⟨0,0⟩
def hullS (s t:qh):qh:=⟨if t.Au<s.Au then t.Au else s.Au,if t.Ba > s.Ba then t.Ba else s.Ba⟩
structure TmOk (t:qq) (M:Nat):Prop where
 r:t.Aq.length=M
 a:t.Am.length=M
 s:t.Az.length=M
 sl:∀ k,k<M→slR (gt t.Az k)
structure SrcOk (xs:List qbU):Prop where
 len:xs.length≤1048576
 inc:∀ j i,i<j→j<xs.length→(gt xs i).Bv<(gt xs j).Bv
 sl:∀ x,x ∈ xs→slR x.Az
section
variable {b:qk} {c:qgK} {ex:List Int} {f:Nat→qh→qh × qh} {lv:List Bool} {t:qq} {xs:List qbU} {node:Int}
end
end Go.Fw


namespace Go.Fw
open Go
set_option maxRecDepth 100000
theorem qnp {b:qk} (h:blockB b=true):Ev (fun n=>qfM n b) ((2*(places b.Ab).length:Nat):Int):=by
 have hs:=qa0 (qbX h)
 have hl:=qcW hs
 unfold qfM
 refine Ev.bind (b:=(places b.Ab).map toSp) (qjm hs) (Ev.now ?_)
 rw [jG,qbK (by omega) (by omega)]
 rfl
theorem qp0 {v:Tview} (hl:v.places.length≤78) (n:Nat):qeM n (some v)=some ((2*v.places.length:Nat):Int):=by
 unfold qeM qdo
 simp only [jd]
 rw [qbK (by omega) (by omega)]
 rfl
def stepN (xs:List qbU) (j:Nat):Bool:=decide (j=0) || decide ((gt xs (j-1)).Bv<(gt xs j).Bv)
def srcB (xs:List qbU) (M:Nat):Bool:=allN (fun j=>inI (gt xs j).Bv 0 ((M:Int)-1)&&(stepN xs j&&(spanB (gt xs j).Am&&slewB (gt xs j).Az))) xs.length
section
variable {L:Nat} {fr to:Nat→Int} {lv:Nat→Bool} {n:Nat}
def OrdOk (L:Nat) (fr to:Nat→Int) (lv:Nat→Bool) (n:Nat) (R:List Nat):Prop:=∀ l1 k l2,R=l1++k::l2→k<n∧k ∉ l1∧inN L fr to lv l1 k=0
theorem OrdOk.snoc {R:List Nat} {k:Nat} (h:OrdOk L fr to lv n R) (hk:nxtN L fr to lv n R=some k):OrdOk L fr to lv n (R++[k]):=by
 intro l1 k' l2 e
 rcases List.eq_nil_or_concat l2 with rfl|⟨l2',z,rfl⟩
 ·obtain ⟨rfl,e2⟩:=List.append_inj' e rfl
  obtain rfl:k=k':=by simpa using e2
  exact qpg hk
 ·have e':R++[k]=(l1++k'::l2')++[z]:=by rw [e];simp
  obtain ⟨e1,_⟩:=List.append_inj' e' rfl
  exact h l1 k' l2' e1
theorem OrdOk.at {R:List Nat} (h:OrdOk L fr to lv n R) {j:Nat} (hj:j<R.length):R[j]<n∧R[j] ∉ R.take j∧inN L fr to lv (R.take j) R[j]=0:=by
 refine h (R.take j) R[j] (R.drop (j+1)) ?_
 rw [←List.drop_eq_getElem_cons hj,List.take_append_drop]
end
section
variable {b:qk} {c:qgK} {ex:List Int} {f g:Nat→qh→qh × qh} {lv:List Bool} {t:qq} {xs:List qbU} {node:Int}
end
end Go.Fw


namespace Go.Fw
open Go Go.Proofs
open Go.RowKit (Below)
set_option maxRecDepth 100000
set_option maxHeartbeats 1600000
variable {n:Nat} {w:World} {cs1 cs2 cs3 cs4 cs5 cs6 cs7 cs8 cs9:List Value}
end Go.Fw


namespace Go.Fw
open Go Go.Proofs
open Go.RowKit (Below)
set_option maxRecDepth 100000
set_option maxHeartbeats 1600000
variable {n:Nat} {w:World} {cs1 cs2 cs3 cs4 cs5 cs6 cs7 cs8 cs9:List Value}
end Go.Fw


namespace Go.Fw
open Go Go.Proofs
open Go.RowKit (Below)
set_option maxRecDepth 100000
set_option maxHeartbeats 1600000
variable {n:Nat} {w:World} {cs1 cs2 cs3 cs4 cs5 cs6 cs7 cs8 cs9:List Value}
def qh4 (_:Nat) (a:(List Bool)) (left:Int):Option Int :=
 bif decide ((W64 (left-(a.length:Int)))<0) then some (-1) else
 some (W64 (left-(a.length:Int)))
theorem qkS {a:(List Bool)} {left:Int} (ha1:GoT.R w (old w) a cs1) {r:Int} (hF:qh4 n a left=some r):RetV Tryz.prog 70 [GoT.v (List Bool) cs1,.int .i64 left] w r:=by
 obtain ⟨p1,k1,rfl,s1⟩:=ha1
 refine zV 12 Tryz.func70 rfl fun h=>X0 18 rfl (qf rfl hF ?_ ?_)<;>intro hF
 ·exact X0 4 rfl (ri h hF rfl)
 exact X0 6 rfl (ri h hF rfl)
def qgs (_:Nat) (a:(List qh)) (left:Int):Option Int :=
 bif decide ((W64 (left-(a.length:Int)))<0) then some (-1) else
 some (W64 (left-(a.length:Int)))
theorem qh9 {a:(List qh)} {left:Int} (ha1:GoT.R w (old w) a cs1) {r:Int} (hF:qgs n a left=some r):RetV Tryz.prog 71 [GoT.v (List qh) cs1,.int .i64 left] w r:=by
 obtain ⟨p1,k1,rfl,s1⟩:=ha1
 refine zV 12 Tryz.func71 rfl fun h=>X0 18 rfl (qf rfl hF ?_ ?_)<;>intro hF
 ·exact X0 4 rfl (ri h hF rfl)
 exact X0 6 rfl (ri h hF rfl)
def qfQ (n:Nat) (a:qq) (left:Int):Option Int :=
 (qh4 n a.Aq left).bind fun r1 =>
 bif decide (r1<0) then some (-1) else
 (qgs n a.Am r1).bind fun r2 =>
 bif decide (r2<0) then some (-1) else
 (qgs n a.Az r2).bind fun r3 =>
 bif decide (r3<0) then some (-1) else
 some r3
theorem qkb {a:qq} {left:Int} (ha1:GoT.R w (old w) a cs1) {r:Int} (hF:qfQ n a left=some r):RetV Tryz.prog 23 [GoT.v qq cs1,.int .i64 left] w r:=by
 obtain ⟨p1,k1,p2,k2,p3,k3,rfl,s1,s2,s3⟩:=qaa ha1
 refine zV 24 Tryz.func23 rfl fun h=>zSR (qt h rfl rfl fun w1 bb1 h=>X1 7 0 h rfl (zcI h hF (qkS ⟨_,_,rfl,(h.oldS s1)⟩) rfl fun r1 w2 h hF=>X0 8 rfl (qf rfl hF ?_ ?_)))<;>intro hF
 ·exact X0 4 rfl (ri h hF rfl)
 refine X1 6 0 h rfl (zcI h hF (qh9 ⟨_,_,rfl,(h.oldS s2)⟩) rfl fun r2 w3 h hF=>X0 8 rfl (qf rfl hF ?_ ?_))<;>intro hF
 ·exact X0 4 rfl (ri h hF rfl)
 refine X1 6 0 h rfl (zcI h hF (qh9 ⟨_,_,rfl,(h.oldS s3)⟩) rfl fun r3 w4 h hF=>X0 8 rfl (qf rfl hF ?_ ?_))<;>intro hF
 ·exact X0 4 rfl (ri h hF rfl)
 exact X0 6 rfl (ri h hF rfl)
def qdE (a:(List Bool)):Nat→(List Bool)→Int→Option ((List Bool) × Int)
 | 0,_,_=>none
 | n+1,x2,i1 =>
  bif decide (i1<(a.length:Int)) then
   (idx a i1).bind fun y1 =>
   (idx x2 i1).bind fun _ =>
   qdE a n (setS x2 i1 y1) (W64 (i1+1))
  else
   some (x2,i1)
def qgD (n:Nat) (a:(List Bool)):Option (List Bool) :=
 (mkS (a.length:Int) (false:Bool)).bind fun x1 =>
 (qdE a n x1 0).bind fun o=>match o with
 | (x2,_) =>
  some x2
theorem qkx {a:(List Bool)} (ha1:GoT.R w (old w) a cs1) {r:(List Bool)} (hF:qgD n a=some r):RetV Tryz.prog 75 [GoT.v (List Bool) cs1] w r:=by
 obtain ⟨p1,k1,rfl,s1⟩:=ha1
 refine zV 22 Tryz.func75 rfl fun h=>X0 8 rfl ?_
 obtain ⟨x1,hx1,hF⟩:=qg hF
 obtain ⟨g1,g2,hx1⟩:=qbz hx1
 refine qcw qc Bool h rfl rfl rfl rfl rfl rfl rfl rfl rfl g1 g2 hx1 rfl fun w1 S1 p2 h=>X0 7 rfl ?_
 obtain ⟨o1,hF,hK1⟩:=qg hF
 refine qm (rL (fun m e w'=>∃ (x2:(List Bool)) (i1:Int),qdE a m x2 i1=some o1∧e=[(0,.slice p1 a.length k1),(3,.slice p2 x1.length x1.length),(4,.int .i64 i1)]∧SH w w' [Ch.own S1 (x2:List Bool) [.slice p2 x1.length x1.length]]) n ⟨_,_,hF,rfl,h⟩ rfl ?_)
 rintro m1 e1 w2 ⟨x2,i1,hF,rfl,h⟩
 rcases m1 with _|m1
 ·cases hF
 refine X0 8 rfl (qf rfl hF ?_ ?_)<;>intro hF
 ·refine X0 8 rfl ?_
  obtain ⟨y1,hy1,hF,he1,b1,_,q1,cs2,hp1,hq1,rfl,hc2⟩:=s1.ix hF
  refine zxe hp1 hq1 he1 rfl (zc 0 (hc2.below h.below) rfl ?_)
  obtain ⟨y2,hy2,hF,he2,b2,_,q2,cs3,hp2,hq2,rfl,hc3⟩:=(h.sl 0 rfl).1.ix hF
  exact zx hp2 hq2 ⟨he2.1,qak he2.2.1 (h.sl 0 rfl).2⟩ rfl (qc1 qc 0 0 y1 h rfl hy2 hp2 hq2 rfl hc3 rfl rfl rfl rfl rfl rfl rfl fun w3 h=>X0 7 rfl (rK ⟨_,_,hF,rfl,h⟩ rfl))
 refine qr rfl ?_
 obtain rfl:=qa hF;replace hF:=hK1
 refine X0 5 rfl ?_
 obtain rfl:=qa hF
 exact rO 0 h rfl ⟨rfl,trivial⟩
def qdF (a:(List qh)):Nat→(List qh)→Int→Option ((List qh) × Int)
 | 0,_,_=>none
 | n+1,x2,i1 =>
  bif decide (i1<(a.length:Int)) then
   (idx a i1).bind fun y1 =>
   (qfZ n y1).bind fun r1 =>
   (idx x2 i1).bind fun _ =>
   qdF a n (setS x2 i1 r1) (W64 (i1+1))
  else
   some (x2,i1)
def qfq (n:Nat) (a:(List qh)):Option (List qh) :=
 (mkS (a.length:Int) ((⟨0,0⟩:qh):qh)).bind fun x1 =>
 (qdF a n x1 0).bind fun o=>match o with
 | (x2,_) =>
  some x2
theorem qh7 {a:(List qh)} (ha1:GoT.R w (old w) a cs1) {r:(List qh)} (hF:qfq n a=some r):RetV Tryz.prog 76 [GoT.v (List qh) cs1] w r:=by
 obtain ⟨p1,k1,rfl,s1⟩:=ha1
 refine zV 23 Tryz.func76 rfl fun h=>X0 8 rfl ?_
 obtain ⟨x1,hx1,hF⟩:=qg hF
 obtain ⟨g1,g2,hx1⟩:=qbz hx1
 refine qcw qc qh h rfl rfl rfl rfl rfl rfl rfl rfl rfl g1 g2 hx1 rfl fun w1 S1 p2 h=>X0 7 rfl ?_
 obtain ⟨o1,hF,hK1⟩:=qg hF
 refine qm (rL (fun m e w'=>∃ (x2:(List qh)) (i1:Int),qdF a m x2 i1=some o1∧e=[(0,.slice p1 a.length k1),(3,.slice p2 x1.length x1.length),(4,.int .i64 i1)]∧SH w w' [Ch.own S1 (x2:List qh) [.slice p2 x1.length x1.length]]) n ⟨_,_,hF,rfl,h⟩ rfl ?_)
 rintro m1 e1 w2 ⟨x2,i1,hF,rfl,h⟩
 rcases m1 with _|m1
 ·cases hF
 refine X0 8 rfl (qf rfl hF ?_ ?_)<;>intro hF
 ·refine X0 8 rfl ?_
  obtain ⟨y1,hy1,hF,he1,b1,_,q1,cs2,hp1,hq1,hr1,hc2⟩:=s1.ix hF
  obtain rfl:=qu hr1
  refine zxe hp1 hq1 he1 rfl (zc 0 (hc2.below h.below) rfl (zcO h hF (qlj (qE y1)) rfl fun r1 w3 S2 cs3 h hF=>?_))
  obtain rfl:=qu (h.own 0 rfl)
  obtain ⟨y2,hy2,hF,he2,b2,_,q2,cs4,hp2,hq2,hr3,hc3⟩:=(h.sl 1 rfl).1.ix hF
  obtain rfl:=qu hr3
  refine zx hp2 hq2 ⟨he2.1,qak he2.2.1 (h.sl 1 rfl).2⟩ rfl (qc1 qc 1 0 r1 h rfl hy2 hp2 hq2 (qE y2) hc3 rfl rfl rfl (qE r1) rfl rfl rfl fun w4 h=>X0 7 rfl ?_)
  replace h:=h.pick [1] rfl
  exact rK ⟨_,_,hF,rfl,h⟩ rfl
 refine qr rfl ?_
 obtain rfl:=qa hF;replace hF:=hK1
 refine X0 5 rfl ?_
 obtain rfl:=qa hF
 exact rO 0 h rfl ⟨rfl,trivial⟩
def qdM (n:Nat) (a:qq):Option qq :=
 (qgD n a.Aq).bind fun r1 =>
 (qfq n a.Am).bind fun r2 =>
 (qfq n a.Az).bind fun r3 =>
 some (⟨r1,r2,r3⟩:qq)
theorem qdg {a:qq} (ha1:GoT.R w (old w) a cs1) {r:qq} (hF:qdM n a=some r):RetV Tryz.prog 25 [GoT.v qq cs1] w r:=by
 obtain ⟨p1,k1,p2,k2,p3,k3,rfl,s1,s2,s3⟩:=qaa ha1
 refine zV 17 Tryz.func25 rfl fun h=>zSR (qt h rfl rfl fun w1 bb1 h=>qv qc h rfl rfl rfl fun w2 bb2 h=>zNSR (qv qc h rfl rfl rfl fun w3 bb3 h=>X1 5 2 h rfl (zcL h hF (qkx ⟨_,_,rfl,(h.oldS s1)⟩) rfl fun r1 w4 S1 p4 k4 h hF=>zp1 rfl (zs 1 h rfl fun w5 h=>X1 5 3 h rfl (zcL h hF (qh7 ⟨_,_,rfl,(h.oldS s2)⟩) rfl fun r2 w6 S2 p5 k5 h hF=>zp1 rfl (zs 2 h rfl fun w7 h=>X1 5 4 h rfl (zcL h hF (qh7 ⟨_,_,rfl,(h.oldS s3)⟩) rfl fun r3 w8 S3 p6 k6 h hF=>zp1 rfl (zs 3 h rfl fun w9 h=>X1 4 3 h rfl (zs 4 h rfl fun w10 h=>qcz ?_)))))))))
 obtain rfl:=qa hF
 exact qax qc (ρ:=qq) [GoT.v qq [.slice p4 r1.length k4,.slice p5 r2.length k5,.slice p6 r3.length k6]] h ⟨⟨_,_,_,rfl,rfl,h.box 4 rfl,rfl⟩,trivial⟩ (PV.done h (qaD (qnV (⟨r1,r2,r3⟩:qq) h (qbc 2 h rfl) (qbc 1 h rfl) (qbc 0 h rfl) (by rfl) (by rfl))))
def qdD (a:(List Bool)) (b:(List Bool)):Nat→Int→Option (Flow Bool Int)
 | 0,_=>none
 | n+1,i1 =>
  bif decide (i1<(a.length:Int)) then
   (idx a i1).bind fun y1 =>
   (idx b i1).bind fun y2 =>
   bif (!(y1==y2)) then some (.ret false) else
   qdD a b n (W64 (i1+1))
  else
   some (.nxt i1)
def qgn (n:Nat) (a:(List Bool)) (b:(List Bool)):Option Bool :=
 bif ((a.length:Int) != (b.length:Int)) then some false else
 (qdD a b n 0).bind fun o=>match o with
 | .ret r=>some r
 | .nxt _ =>
  some true
theorem qkO {a:(List Bool)} {b:(List Bool)} (ha1:GoT.R w (old w) a cs1) (ha2:GoT.R w (old w) b cs2) {r:Bool} (hF:qgn n a b=some r):RetV Tryz.prog 80 [GoT.v (List Bool) cs1,GoT.v (List Bool) cs2] w r:=by
 obtain ⟨p1,k1,rfl,s1⟩:=ha1
 obtain ⟨p2,k2,rfl,s2⟩:=ha2
 refine zV 26 Tryz.func80 rfl fun h=>X0 13 rfl (qf rfl hF ?_ ?_)<;>intro hF
 ·exact X0 4 rfl (rb h hF rfl)
 refine X0 6 rfl ?_
 obtain ⟨o1,hF,hK1⟩:=qg hF
 refine qm (rL (fun m e w'=>∃ (i1:Int),qdD a b m i1=some o1∧e=[(0,.slice p1 a.length k1),(1,.slice p2 b.length k2),(5,.int .i64 i1)]∧SH w w' []) n ⟨_,hF,rfl,h⟩ rfl ?_)
 rintro m1 e1 w1 ⟨i1,hF,rfl,h⟩
 rcases m1 with _|m1
 ·cases hF
 refine X0 8 rfl (qf rfl hF ?_ ?_)<;>intro hF
 ·refine X0 4 rfl (rD (zd2 rfl ?_))
  obtain ⟨y1,hy1,hF,he1,b1,_,q1,cs3,hp1,hq1,rfl,hc3⟩:=s1.ix hF
  refine zdxe hp1 hq1 he1 rfl (zdc 0 (hc3.below h.below) rfl (zd2 rfl ?_))
  obtain ⟨y2,hy2,hF,he2,b2,_,q2,cs4,hp2,hq2,rfl,hc4⟩:=s2.ix hF
  refine zdxe hp2 hq2 he2 rfl (zdc 0 (hc4.below h.below) rfl (zd1 rfl (dN h fun w2 h=>qf rfl hF ?_ ?_)))<;>intro hF
  ·refine X0 4 rfl ?_
   obtain rfl:=qa hF;replace hF:=hK1
   exact rb h hF rfl
  exact X0 7 rfl (rK ⟨_,hF,rfl,h⟩ rfl)
 refine qr rfl ?_
 obtain rfl:=qa hF;replace hF:=hK1
 exact X0 4 rfl (rb h hF rfl)
def qdw (a:(List qh)) (b:(List qh)):Nat→Int→Option (Flow Bool Int)
 | 0,_=>none
 | n+1,i1 =>
  bif decide (i1<(a.length:Int)) then
   (idx a i1).bind fun y1 =>
   (idx b i1).bind fun y2 =>
   (qeU n y1 y2).bind fun r1 =>
   bif (!r1) then some (.ret false) else
   qdw a b n (W64 (i1+1))
  else
   some (.nxt i1)
def qfr (n:Nat) (a:(List qh)) (b:(List qh)):Option Bool :=
 bif ((a.length:Int) != (b.length:Int)) then some false else
 (qdw a b n 0).bind fun o=>match o with
 | .ret r=>some r
 | .nxt _ =>
  some true
theorem qh8 {a:(List qh)} {b:(List qh)} (ha1:GoT.R w (old w) a cs1) (ha2:GoT.R w (old w) b cs2) {r:Bool} (hF:qfr n a b=some r):RetV Tryz.prog 81 [GoT.v (List qh) cs1,GoT.v (List qh) cs2] w r:=by
 obtain ⟨p1,k1,rfl,s1⟩:=ha1
 obtain ⟨p2,k2,rfl,s2⟩:=ha2
 refine zV 27 Tryz.func81 rfl fun h=>X0 13 rfl (qf rfl hF ?_ ?_)<;>intro hF
 ·exact X0 4 rfl (rb h hF rfl)
 refine X0 6 rfl ?_
 obtain ⟨o1,hF,hK1⟩:=qg hF
 refine qm (rL (fun m e w'=>∃ (i1:Int),qdw a b m i1=some o1∧e=[(0,.slice p1 a.length k1),(1,.slice p2 b.length k2),(5,.int .i64 i1)]∧SH w w' []) n ⟨_,hF,rfl,h⟩ rfl ?_)
 rintro m1 e1 w1 ⟨i1,hF,rfl,h⟩
 rcases m1 with _|m1
 ·cases hF
 refine X0 8 rfl (qf rfl hF ?_ ?_)<;>intro hF
 ·refine X0 4 rfl (rD (zd2 rfl ?_))
  obtain ⟨y1,hy1,hF,he1,b1,_,q1,cs3,hp1,hq1,hr1,hc3⟩:=s1.ix hF
  obtain rfl:=qu hr1
  refine zdxe hp1 hq1 he1 rfl (zdc 0 (hc3.below h.below) rfl (zd2 rfl ?_))
  obtain ⟨y2,hy2,hF,he2,b2,_,q2,cs4,hp2,hq2,hr2,hc4⟩:=s2.ix hF
  obtain rfl:=qu hr2
  refine zdxe hp2 hq2 he2 rfl (zdc 0 (hc4.below h.below) rfl ?_)
  obtain ⟨r1,hr3,hF⟩:=qg hF
  refine qbn r1 (vsB _) (cB 27 rfl) (fun _ hb=>qiq (qE y1) (qE y2) hr3) rfl rfl rfl rfl (zd1 rfl (dN h fun w2 h=>qf rfl hF ?_ ?_))<;>intro hF
  ·refine X0 4 rfl ?_
   obtain rfl:=qa hF;replace hF:=hK1
   exact rb h hF rfl
  exact X0 7 rfl (rK ⟨_,hF,rfl,h⟩ rfl)
 refine qr rfl ?_
 obtain rfl:=qa hF;replace hF:=hK1
 exact X0 4 rfl (rb h hF rfl)
def qfW (n:Nat) (a:qq) (b:qq):Option Bool :=
 (qgn n a.Aq b.Aq).bind fun r1 =>
 bif (!r1) then some false else
 (qfr n a.Am b.Am).bind fun r2 =>
 bif (!r2) then some false else
 (qfr n a.Az b.Az).bind fun r3 =>
 bif (!r3) then some false else
 some true
theorem qko {a:qq} {b:qq} (ha1:GoT.R w (old w) a cs1) (ha2:GoT.R w (old w) b cs2) {r:Bool} (hF:qfW n a b=some r):RetV Tryz.prog 28 [GoT.v qq cs1,GoT.v qq cs2] w r:=by
 obtain ⟨p1,k1,p2,k2,p3,k3,rfl,s1,s2,s3⟩:=qaa ha1
 obtain ⟨p4,k4,p5,k5,p6,k6,rfl,s4,s5,s6⟩:=qaa ha2
 refine zV 23 Tryz.func28 rfl fun h=>zSR (qt h rfl rfl fun w1 bb1 h=>qt h rfl rfl fun w2 bb2 h=>X2 9 1 0 h rfl (zcB h hF (qkO ⟨_,_,rfl,(h.oldS s1)⟩ ⟨_,_,rfl,(h.oldS s4)⟩) rfl fun r1 w3 h hF=>X0 2 rfl (qf rfl hF ?_ ?_)))<;>intro hF
 ·exact X0 4 rfl (rb h hF rfl)
 refine X2 8 1 0 h rfl (zcB h hF (qh8 ⟨_,_,rfl,(h.oldS s2)⟩ ⟨_,_,rfl,(h.oldS s5)⟩) rfl fun r2 w4 h hF=>X0 2 rfl (qf rfl hF ?_ ?_))<;>intro hF
 ·exact X0 4 rfl (rb h hF rfl)
 refine X2 8 1 0 h rfl (zcB h hF (qh8 ⟨_,_,rfl,(h.oldS s3)⟩ ⟨_,_,rfl,(h.oldS s6)⟩) rfl fun r3 w5 h hF=>X0 2 rfl (qf rfl hF ?_ ?_))<;>intro hF
 ·exact X0 4 rfl (rb h hF rfl)
 exact X0 5 rfl (rb h hF rfl)
end Go.Fw


namespace Go.Fw
open Go
def qhh (a:(List Bool)):Nat:=a.length
theorem qop {a:(List Bool)} (_:(rngL rngB) a) (w:qhh a≤1048576):(okL okT) a :=
 ⟨by simp only [qhh] at w;omega,fun x hx=>trivial⟩
theorem qqb {a:(List Bool)} (h:qhh a≤1048576):Ev (fun n=>qgn n a a) true:=by
 have hl:a.length≤1048576:=by simp only [qhh] at h;omega
 unfold qgn
 exact Ev.ff (by simp) (Ev.bind (b:=.nxt (a.length:Int)) (qe1 (eqf:=fun _ x y=>some (!(!(x==y)))) (fun x _=>Ev.now (by simp))
  (fun n=>by simp only [qdD,qj (je _),cond_false])
  (fun n j x hx=>by
   have hj:=(List.getElem?_eq_some_iff.1 hx).1
   simp only [qdD,qi hj,cond_true,qU hx,jd,Bool.not_not,wS j])) .done)
structure qrw (x:qfE):Prop where
 A:okI x.A
 B:okI x.B
 Bz:okI x.Bz
structure qp6 (x:qj6):Prop where
 Cd:okI x.Cd
 Cb:okI x.Cb
structure qmA (x:qfz):Prop where
 Bb:okI x.Bb
 To:okI x.To
 Bh:okI x.Bh
 Ca:okI x.Ca
structure qp7 (x:qjF):Prop where
 Bx:(okL qp6) x.Bx
 Cc:(okL qmA) x.Cc
def qg9 (x:qh):Prop:=rngI x.Au∧rngI x.Ba
structure qiV (x:qh):Prop where
 Au:okI x.Au
 Ba:okI x.Ba
theorem qpd {x:qh} (h:qg9 x):qiV x:=⟨h.1,h.2⟩
structure qr4 (x:qbU):Prop where
 Bv:okI x.Bv
 Am:qiV x.Am
 Az:qiV x.Az
theorem qot {a:qh}:Ev (fun n=>qeU n a a) true:=by
 unfold qeU
 exact Ev.ff qaZ (Ev.ff qaZ (.done))
def qgw (a:(List qh)):Nat:=a.length
theorem qli {a:(List qh)} (h:(rngL qg9) a) (w:qgw a≤1048576):(okL qiV) a :=
 ⟨by simp only [qgw] at w;omega,fun x hx=>qpd (h.2 x hx)⟩
theorem qnk {a:(List qh)} (h:qgw a≤1048576):Ev (fun n=>qfr n a a) true:=by
 have hl:a.length≤1048576:=by simp only [qgw] at h;omega
 unfold qfr
 exact Ev.ff (by simp) (Ev.bind (b:=.nxt (a.length:Int)) (qe1 (eqf:=qeU) (fun x hx=>qot)
  (fun n=>by simp only [qdw,qj (je _),cond_false])
  (fun n j x hx=>by
   have hj:=(List.getElem?_eq_some_iff.1 hx).1
   simp only [qdw,qi hj,cond_true,qU hx,jd,wS j])) .done)
def qhS (x:qq):Prop:=(rngL rngB) x.Aq∧(rngL qg9) x.Am∧(rngL qg9) x.Az
def qd6 (x:qq):Nat:=qhh x.Aq+qgw x.Am+qgw x.Az
structure qpl (x:qq):Prop where
 Aq:(okL okT) x.Aq
 Am:(okL qiV) x.Am
 Az:(okL qiV) x.Az
theorem qnb {x:qq} (h:qhS x) (w:qd6 x≤1048576):qpl x:=⟨qop (h.1) (by simp only [qd6] at w;omega),qli (h.2.1) (by simp only [qd6] at w;omega),qli (h.2.2) (by simp only [qd6] at w;omega)⟩
theorem qo3 {a:qq} (h:qd6 a≤1048576):Ev (fun n=>qfW n a a) true:=by
 unfold qfW
 simp only [qd6] at h
 exact Ev.bind (qqb (a:=a.Aq) (by omega)) (Ev.ff rfl (Ev.bind (qnk (a:=a.Am) (by omega)) (Ev.ff rfl (Ev.bind (qnk (a:=a.Az) (by omega)) (Ev.ff rfl (.done))))))
theorem qqu {a:(List Bool)} {left:Int} (h:(rngL rngB) a) (h0:0≤left) (h1:left≤1048576):Sz (fun n=>qh4 n a left) (fun r=>r=left-(qhh a:Int)) :=
 Sz.less h0 h1 (by omega) (by have:=h.1;omega) (fun _=>rfl)
structure qr3 (x:qgK):Prop where
 Ar:okS x.Ar
 Bp:okI x.Bp
 Bu:okI x.Bu
 Bq:okI x.Bq
 Bt:okI x.Bt
theorem qnJ {a:(List qh)} {left:Int} (h:(rngL qg9) a) (h0:0≤left) (h1:left≤1048576):Sz (fun n=>qgs n a left) (fun r=>r=left-(qgw a:Int)) :=
 Sz.less h0 h1 (by omega) (by have:=h.1;omega) (fun _=>rfl)
theorem qo0 {a:qq} {left:Int} (h:qhS a) (h0:0≤left) (h1:left≤1048576):Sz (fun n=>qfQ n a left) (fun r=>r=left-(qd6 a:Int)):=by
 unfold qfQ
 obtain ⟨h_0,h_1,h_2⟩:=h
 exact Sz.step (qqu (a:=a.Aq) h_0 (by omega) (by omega)) fun r0 p0 q0=>Sz.step (qnJ (a:=a.Am) h_1 (by omega) (by omega)) fun r1 p1 q1=>Sz.step (qnJ (a:=a.Az) h_2 (by omega) (by omega)) fun r2 p2 q2=>Sz.done p2 (by simp only [qd6];omega)
theorem qp3 {a:(List Bool)} (h:qhh a≤1048576):Ev (fun n=>qgD n a) a:=by
 have hl:a.length≤1048576:=by simp only [qhh] at h;omega
 unfold qgD
 exact Ev.bindN (qeJ (by omega)) (Ev.bind (b:=(a,(a.length:Int))) (qe0 (cp:=fun _ x=>some x) (fun _ _=>.done)
  (fun acc n=>by simp only [qdE,qj (je _),cond_false])
  (fun acc n j x y hx hy=>by
   have hj:=(List.getElem?_eq_some_iff.1 hx).1
   simp only [qdE,qi hj,cond_true,qU hx,qU hy,jd,wS j])) .done)
theorem qqS {a:qh}:Ev (fun n=>qfZ n a) a:=by
 unfold qfZ
 exact .done
theorem qnu {a:(List qh)} (h:qgw a≤1048576):Ev (fun n=>qfq n a) a:=by
 have hl:a.length≤1048576:=by simp only [qgw] at h;omega
 unfold qfq
 exact Ev.bindN (qeJ (by omega)) (Ev.bind (b:=(a,(a.length:Int))) (qe0 (cp:=qfZ) (fun x hx=>qqS)
  (fun acc n=>by simp only [qdF,qj (je _),cond_false])
  (fun acc n j x y hx hy=>by
   have hj:=(List.getElem?_eq_some_iff.1 hx).1
   simp only [qdF,qi hj,cond_true,qU hx,qU hy,jd,wS j])) .done)
theorem qj0 {a:qq} (h:qd6 a≤1048576):Ev (fun n=>qdM n a) a:=by
 unfold qdM
 simp only [qd6] at h
 exact Ev.bind (qp3 (a:=a.Aq) (by omega)) (Ev.bind (qnu (a:=a.Am) (by omega)) (Ev.bind (qnu (a:=a.Az) (by omega)) (.done)))
end Go.Fw


namespace Go.Fw
open Go
set_option maxRecDepth 100000
abbrev lkB (b:qk):Nat:=(linksL b).length
abbrev ndB (b:qk):Nat:=2*(places b.Ab).length
abbrev lvJ (b:qk) (br:List Int):List Bool:=lvB br (lkB b)
structure TgOk (b:qk) (c:qgK) (br:List Int) (xs:List qbU) (R:List Nat):Prop where
 bl:blockB b=true
 co:cornerB c=true
 br_:brB br (lkB b)=true
 sr:srcB xs (ndB b)=true
 or_:ordL (linksL b) (lvJ b br) (ndB b) (ndB b) []=some R
theorem TgOk.len {b:qk} {c:qgK} {br:List Int} {xs:List qbU} {R:List Nat} (h:TgOk b c br xs R):R.length=ndB b:=by
 have:=qqE (ndB b) [] R h.or_
 simpa using this
end Go.Fw


namespace Go.Fw
open Go
set_option maxRecDepth 100000
def zeroS (s:qh):Bool:=(s.Au==0)&&(s.Ba==0)
def tmP (t:qq) (j:Nat):Bool:=spanB (gt t.Am j)&&(slewB (gt t.Az j)&&(gt t.Aq j || (zeroS (gt t.Am j)&&zeroS (gt t.Az j))))
def tmB (t:qq) (M:Nat):Bool:=(t.Aq.length==M)&&((t.Am.length==M)&&((t.Az.length==M)&&allN (tmP t) M))
theorem qpV {t:qq} {M:Nat} (h:tmB t M=true):t.Aq.length=M∧t.Am.length=M∧t.Az.length=M:=by
 unfold tmB at h
 simp only [jf,beq_iff_eq] at h
 exact ⟨h.1,h.2.1,h.2.2.1⟩
theorem qpA {a M:Nat}:(((a:Int)) != (M:Int)) = !(a==M):=by
 rw [ji]
 simp only [bne_iff_ne,ne_eq,jx,beq_eq_false_iff_ne]
 omega
theorem qnz {v:Tview} {t:qq} (hv:v.places.length≤78):Ev (fun n=>qdp n (some v) t) (tmB t (2*v.places.length)):=by
 obtain ⟨M,eM⟩:∃ M,M=2*v.places.length:=⟨_,rfl⟩
 have hnd:=qp0 (v:=v) hv
 rw [←eM] at hnd ⊢
 unfold qdp tmB
 simp only [hnd,jd,qfB,qct,qpA]
 cases h1:t.Aq.length==M
 ·exact Ev.bind (b:=true) (Ev.now rfl) (Ev.tt rfl .done)
 cases h2:t.Am.length==M
 ·exact Ev.bind (b:=true) (Ev.now rfl) (Ev.tt rfl .done)
 cases h3:t.Az.length==M
 ·exact Ev.bind (b:=true) (Ev.now rfl) (Ev.tt rfl .done)
 simp only [beq_iff_eq] at h1 h2 h3
 have hL:Ev (fun n=>qan t n 0) (bif allN (tmP t) M then .nxt (M:Int) else .ret false):=by
  refine qcY (Lf:=qan t) (len:=M) (Ev.succ (by simp only [qan,h1,qj (je _),cond_false];exact .done)) (fun j hj X hX=>Ev.succ ?_)
  simp only [qan,h1,qi hj,cond_true,qM (show j<t.Aq.length by omega),qM (show j<t.Am.length by omega),qM (show j<t.Az.length by omega),jd,qme,qnD,wS j]
  unfold tmP zeroS
  cases spanB (gt t.Am j)
  ·exact .done
  cases slewB (gt t.Az j)
  ·exact .done
  cases gt t.Aq j
  ·cases h4:((gt t.Am j).Au==0)&&((gt t.Am j).Ba==0)
   ·exact .done
   cases h5:((gt t.Az j).Au==0)&&((gt t.Az j).Ba==0)
   ·exact .done
   ·exact hX
  ·exact hX
 refine Ev.bind (b:=false) (Ev.now rfl) (Ev.ff rfl (Ev.bind hL ?_))
 cases allN (tmP t) M<;>exact .done
theorem qmy {t:qq} {M:Nat} (hM:M≤1048576):Ev (fun n=>qfp n (M:Int) t) (tmB t M):=by
 unfold qfp tmB
 simp only [qpA]
 cases h1:t.Aq.length==M
 ·exact Ev.bind (b:=true) (Ev.now rfl) (Ev.tt rfl .done)
 cases h2:t.Am.length==M
 ·exact Ev.bind (b:=true) (Ev.now rfl) (Ev.tt rfl .done)
 cases h3:t.Az.length==M
 ·exact Ev.bind (b:=true) (Ev.now rfl) (Ev.tt rfl .done)
 simp only [beq_iff_eq] at h1 h2 h3
 have hL:Ev (fun n=>qaY t n 0) (bif allN (tmP t) M then .nxt (M:Int) else .ret false):=by
  refine qcY (Lf:=qaY t) (len:=M) (Ev.succ (by simp only [qaY,h1,qj (je _),cond_false];exact .done)) (fun j hj X hX=>Ev.succ ?_)
  simp only [qaY,h1,qi hj,cond_true,qM (show j<t.Aq.length by omega),qM (show j<t.Am.length by omega),qM (show j<t.Az.length by omega),jd,qol,qnI,wS j]
  unfold tmP zeroS
  cases spanB (gt t.Am j)
  ·exact .done
  cases slewB (gt t.Az j)
  ·exact .done
  cases gt t.Aq j
  ·cases h4:((gt t.Am j).Au==0)&&((gt t.Am j).Ba==0)
   ·exact .done
   cases h5:((gt t.Az j).Au==0)&&((gt t.Az j).Ba==0)
   ·exact .done
   ·exact hX
  ·exact hX
 refine Ev.bind (b:=false) (Ev.now rfl) (Ev.ff rfl (Ev.bind hL ?_))
 cases allN (tmP t) M<;>exact .done
theorem qpF {b:qk} {t:qq} (hb:qix b) :
  (Ev (fun n=>qd8 n b t) 1∧Ev (fun n=>qee n b t) (none,1)) ∨
  (blockB b=true∧tmB t (ndB b)=true∧Ev (fun n=>qd8 n b t) 0∧Ev (fun n=>qee n b t) (some (viewV b),0)):=by
 have s1:=qm0 hb
 have i1:=qon hb
 unfold qd8 qee
 cases h1:blockB b
 ·rw [h1] at s1 i1
  exact .inl ⟨Ev.bind s1 (Ev.tt rfl .done),Ev.bind i1 (Ev.tt rfl .done)⟩
 ·rw [h1] at s1 i1
  have hpl:=qcW (qa0 (qbX h1))
  have hT:=qnz (v:=viewV b) (t:=t) hpl
  have hS:=qmy (t:=t) (M:=ndB b) (by show 2*(places b.Ab).length≤_;omega)
  have eT:2*(viewV b).places.length=ndB b:=rfl
  rw [eT] at hT
  have hcn:=qnp h1
  cases h2:tmB t (ndB b)
  ·rw [h2] at hT hS
   exact .inl ⟨Ev.bind s1 (Ev.ff rfl (Ev.bind hcn (Ev.bind hS (Ev.tt rfl .done)))),Ev.bind i1 (Ev.ff rfl (Ev.bind (qlt h1) (Ev.bind hT (Ev.tt rfl .done))))⟩
  ·rw [h2] at hT hS
   exact .inr ⟨rfl,rfl,Ev.bind s1 (Ev.ff rfl (Ev.bind hcn (Ev.bind hS (Ev.ff rfl .done)))),Ev.bind i1 (Ev.ff rfl (Ev.bind (qlt h1) (Ev.bind hT (Ev.ff rfl .done))))⟩
def TmL (t:qq) (M:Nat):Prop:=t.Aq.length=M∧t.Am.length=M
theorem qrr {t:qq} {M:Nat} (h:tmB t M=true):TmL t M:=⟨(qpV h).1,(qpV h).2.1⟩
def winO (t:qq) (m:Nat):qh × Bool :=
 bif gt t.Aq m then bif gt t.Aq (m+1) then (hullS (gt t.Am m) (gt t.Am (m+1)),true) else (gt t.Am m,true) else bif gt t.Aq (m+1) then (gt t.Am (m+1),true) else (zSp,false)
def winB (b:qk) (t:qq) (net:Int):qh × Bool:=winO t (2*dvN b.Ab net.toNat)
section
variable {b:qk} {t:qq} {net:Int}
theorem qpy (h:blockB b=true) (hn:netB b.Ab net=true):∃ k:Nat,net=(k:Int)∧k<b.Ab.Ah.length∧dvN b.Ab k<(places b.Ab).length∧(places b.Ab).length≤78∧(gt (places b.Ab) (dvN b.Ab k)).net=net∧(gt (places b.Ab) (dvN b.Ab k)).drives=true:=by
 unfold netB at hn
 rw [qby] at hn
 have hk:net.toNat<b.Ab.Ah.length:=by omega
 obtain ⟨h1,h2⟩:=qhP (qbX h) hk
 obtain ⟨h3,h4⟩:=qjz.1 h2
 exact ⟨net.toNat,qii hn.1,hk,h1,qcW (qa0 (qbX h)),by rw [h3];exact (qii hn.1).symm,h4⟩
theorem qn5 (h:blockB b=true) (ht:TmL t (ndB b)) (hn:netB b.Ab net=true):Ev (fun n=>qfb n b t net) (winB b t net):=by
 obtain ⟨k,rfl,hk,h1,hpl,h3,h4⟩:=qpy h hn
 obtain ⟨t1,t2⟩:=ht
 have eM:ndB b=2*(places b.Ab).length:=rfl
 unfold qfb winB
 rw [jz]
 refine Ev.bind (qmz h h1 h3 h4) ?_
 generalize dvN b.Ab k=m at h1
 have e1:W64 (2*(m:Int))=((2*m:Nat):Int):=by rw [qbK (by omega) (by omega)];omega
 have e2:W64 (((2*m:Nat):Int)+1)=((2*m+1:Nat):Int):=by rw [qbK (by omega) (by omega)];omega
 simp only [e1,e2,qM (show 2*m<t.Aq.length by omega),qM (show 2*m+1<t.Aq.length by omega),qM (show 2*m<t.Am.length by omega),qM (show 2*m+1<t.Am.length by omega),jd]
 unfold winO
 cases gt t.Aq (2*m)<;>cases gt t.Aq (2*m+1)<;>exact .done
theorem qo1 {m:Nat} (h1:m+1<t.Aq.length) (h2:m+1<t.Am.length):Ev (fun n=>qhv n t [(m:Int),((m+1:Nat):Int)]) (winO t m):=by
 have d:decide ((0:Int)<(([(m:Int),((m+1:Nat):Int)]:List Int).length:Int))=true:=rfl
 have d2:decide ((1:Int)<(([(m:Int),((m+1:Nat):Int)]:List Int).length:Int))=true:=rfl
 have d3:decide ((2:Int)<(([(m:Int),((m+1:Nat):Int)]:List Int).length:Int))=false:=rfl
 have x1:idx [(m:Int),((m+1:Nat):Int)] 0=some (m:Int):=rfl
 have x2:idx [(m:Int),((m+1:Nat):Int)] 1=some ((m+1:Nat):Int):=rfl
 have w1:W64 (0+1)=1:=rfl
 have w2:W64 (1+1)=2:=rfl
 unfold qhv winO
 cases r1:gt t.Aq m<;>cases r2:gt t.Aq (m+1)<;>refine ⟨3,fun n hn=>?_⟩<;>obtain ⟨n,rfl⟩:∃ k,n=k+3:=⟨n-3,by omega⟩ <;>
  simp only [qea,d,d2,d3,x1,x2,w1,w2,cond_true,cond_false,jd,qM (show m<t.Aq.length by omega),qM h1,qM (show m<t.Am.length by omega),qM h2,r1,r2,qfG,qfh,Bool.not_true,Bool.not_false]<;>rfl
theorem qoQ (ex:List Int) (h:blockB b=true) (ht:TmL t (ndB b)) (hn:netB b.Ab net=true):Ev (fun n=>qem n (some (viewE b ex)) t net) (winB b t net):=by
 obtain ⟨k,rfl,hk,h1,hpl,h3,h4⟩:=qpy h hn
 obtain ⟨t1,t2⟩:=ht
 have eM:ndB b=2*(places b.Ab).length:=rfl
 have e:ixL (fun q:Tplace=>(q.net==(k:Int))&&q.drives) (places b.Ab)=(dvN b.Ab k:Int):=by
  refine qqr h1 (by rw [h3,h4];simp) (fun i hi hq=>?_)
  simp only [jf,beq_iff_eq] at hq
  exact (qnE (qbX h) hk hi hq.1 hq.2).symm
 have hI:Ev (fun n=>qJ n (places b.Ab) (k:Int)) (dvN b.Ab k:Int):=by
  rw [←e]
  exact qeD (fin:=((places b.Ab).length:Int)) (Lf:=qx (places b.Ab) (k:Int)) (xs:=places b.Ab) (pf:=fun n x=>qdr n x (k:Int)) (fun x _=>by
    unfold qdr
    cases x.net==(k:Int)<;>exact .done)
   (fun n=>by simp only [qx,qj (je _),cond_false])
   (fun n j x hx=>by
    have hj:=(List.getElem?_eq_some_iff.1 hx).1
    simp only [qx,qi hj,cond_true,qU hx,jd,wS j])
   (fun n=>by unfold qJ;congr 1;funext o;cases o<;>rfl)
 unfold qem winB
 rw [jz]
 show Ev (fun n=>(qJ n (places b.Ab) (k:Int)).bind _) _
 refine Ev.bind hI ?_
 generalize dvN b.Ab k=m at h1
 have e1:W64 (2*(m:Int))=((2*m:Nat):Int):=by rw [qbK (by omega) (by omega)];omega
 have e2:W64 (((2*m:Nat):Int)+1)=((2*m+1:Nat):Int):=by rw [qbK (by omega) (by omega)];omega
 simp only [e1,e2]
 exact Ev.bind (qo1 (t:=t) (m:=2*m) (by omega) (by omega)) .done
end
theorem qmP {b:qk} {t:qq} {net:Int} (hb:qix b):∃ R:qh × Int,Ev (fun n=>qe5 n b t net) R∧Ev (fun n=>qfc n b t net) R:=by
 unfold qe5 qfc
 have hnl:b.Ab.Ah.length≤1048576:=hb.Ab.Ah.len
 rcases qpF (t:=t) hb with ⟨hs,hi⟩|⟨h1,ht,hs,hi⟩
 ·exact ⟨(zSp,1),Ev.bind hs (Ev.tt rfl .done),Ev.bind hi (Ev.tt rfl .done)⟩
 ·cases hn:netB b.Ab net
  ·refine ⟨(zSp,2),Ev.bind hs (Ev.ff rfl ?_),Ev.bind hi (Ev.ff rfl ?_)⟩
   ·simp only [qiR hnl,hn]
    exact .done
   ·simp only [qjJ (d:=b.Ab) hnl,hn]
    exact .done
  ·have hw:=qn5 h1 (qrr ht) hn
   have hv:=qoQ [] h1 (qrr ht) hn
   generalize winB b t net=q at hw hv
   obtain ⟨q1,q2⟩:=q
   refine ⟨(bif q2 then (q1,0) else (zSp,4)),Ev.bind hs (Ev.ff rfl ?_),Ev.bind hi (Ev.ff rfl ?_)⟩
   ·simp only [qiR hnl,hn,jd]
    refine Ev.ff rfl (Ev.bind hw ?_)
    cases q2<;>exact .done
   ·simp only [qjJ (d:=b.Ab) hnl,hn,jd]
    refine Ev.ff rfl (Ev.bind hv ?_)
    cases q2<;>exact .done
section
variable {b:qk} {t:qq} {ks:List qfE}
end
section
variable {b:qk} {ks:List qfE} {used:List Int}
end
end Go.Fw


namespace Go.Fw
open Go Go.Proofs
open Go.RowKit (Below)
set_option maxRecDepth 100000
set_option maxHeartbeats 1600000
variable {n:Nat} {w:World} {cs1 cs2 cs3 cs4 cs5 cs6 cs7 cs8 cs9:List Value}
def qdQ (n:Nat) (aB:qk) (aT:qq) (aNet:Int):Option Bool :=
 (qgq n aB 1048576).bind fun r1 =>
 bif decide (r1<0) then some true else
 (qfQ n aT r1).bind fun r2 =>
 bif decide (r2<0) then some true else
 (qes n aB).bind fun r3 =>
 (qdM n aT).bind fun r4 =>
 (qe5 n (⟨(⟨r3.As.Ak⟩:ql),(⟨r3.Ab.Aa,r3.Ab.Ah,r3.Ab.Af⟩:qb),r3.Ac⟩:qk) (⟨r4.Aq,r4.Am,r4.Az⟩:qq) aNet).bind fun o=>match o with
  | (r6,r7) =>
   (qes n aB).bind fun r8 =>
   (qdM n aT).bind fun r9 =>
   (qfc n r8 r9 aNet).bind fun o=>match o with
    | (r11,r12) =>
     (
      (qeU n r11 r6).bind fun r17 =>
      bif (!r17) then some true else
      some (r12 != r7)).bind fun b1 =>
     bif b1 then some false else
     (qes n aB).bind fun r13 =>
     (qgz n r8 r13).bind fun r14 =>
     bif (!r14) then some false else
     (qdM n aT).bind fun r15 =>
     (qfW n r9 r15).bind fun r16 =>
     bif (!r16) then some false else
     some true
theorem qhz {aB:qk} {aT:qq} {aNet:Int} (ha1:GoT.R w (old w) aB cs1) (ha2:GoT.R w (old w) aT cs2) {r:Bool} (hF:qdQ n aB aT aNet=some r):RetV Tryz.prog 4 [GoT.v qk cs1,GoT.v qq cs2,.int .i64 aNet] w r:=by
 obtain ⟨p1,k1,p2,k2,p3,k3,p4,k4,p5,k5,rfl,s1,s2,s3,s4,s5⟩:=qY ha1
 obtain ⟨p6,k6,p7,k7,p8,k8,rfl,s6,s7,s8⟩:=qaa ha2
 refine zV 63 Tryz.func4 rfl fun h=>zSR (qt h rfl rfl fun w1 bb1 h=>qt h rfl rfl fun w2 bb2 h=>X1 10 1 h rfl (zcI h hF (qkB (h.old ha1)) rfl fun r1 w3 h hF=>X0 8 rfl (qf rfl hF ?_ ?_)))<;>intro hF
 ·exact X0 4 rfl (rb h hF rfl)
 refine X1 5 0 h rfl (zcI h hF (qkb (h.old ha2)) rfl fun r2 w4 h hF=>X0 8 rfl (qf rfl hF ?_ ?_))<;>intro hF
 ·exact X0 4 rfl (rb h hF rfl)
 refine zKS ?_
 obtain ⟨r3,hr3,hF⟩:=qg hF
 obtain ⟨r4,hr4,hF⟩:=qg hF
 obtain ⟨r5,hr5,hF⟩:=qg hF
 obtain ⟨r6,r7⟩:=r5
 refine qcy (fun e w'=>∃ (bb8:Nat),e=[(2,.int .i64 aNet),(3,.pointer (some ⟨bb1,0,none⟩)),(4,.pointer (some ⟨bb2,0,none⟩)),(8,.pointer (some ⟨bb8,0,none⟩)),(9,.int .i64 r7)]∧SH w w' [Ch.box bb8 (qfI r6) 66,Ch.box bb2 (qcE aT p6 p7 p8 k6 k7 k8) 63,Ch.box bb1 (qbL aB p1 p2 p3 p4 p5 k1 k2 k3 k4 k5) 32]) ?_ ?_
 ·refine rA [] [0,1] h rfl fun w10 h=>M2 21 [0,2,4] 1 0 (h.pick [0,1] rfl) rfl (At 1 9 23 533 rfl ?_ ?_)
  ·refine qeK r3 h (cB 12 rfl) (qeL (h.old ha1) hr3) rfl rfl rfl rfl fun w28 S61 cs15 h=>?_
   obtain ⟨p36,k36,p37,k37,p38,k38,p39,k39,p40,k40,rfl,-,-,-,-,-⟩:=qY (h.own 0 rfl)
   obtain ⟨S62,S63,S64,h⟩:=qje h
   replace h:=h.pick [1,0,2,3,4] rfl
   obtain ⟨S65,S66,S67,h⟩:=qjd h
   replace h:=h.pick [4,0,1,2,3,5,6] rfl
   obtain ⟨S68,h⟩:=qil h
   refine Ag (h.pick [5,6] rfl) (At 3 9 31 535 rfl ?_ ?_)
   ·refine qeK r4 h (cB 25 rfl) (qdg (h.old ha2) hr4) rfl rfl rfl rfl fun w29 S69 cs16 h=>?_
    obtain ⟨p41,k41,p42,k42,p43,k43,rfl,-,-,-⟩:=qaa (h.own 0 rfl)
    obtain ⟨S70,S71,S72,h⟩:=qhA h
    refine Ag (h.pick [8,9] rfl) (At 5 9 63 543 rfl ?_ ?_)
    ·refine qeR (r6,r7) h (cB 24 rfl) (qd2 ⟨[.slice p36 r3.As.Ak.length k36],[.slice p37 r3.Ab.Aa.length k37,.slice p38 r3.Ab.Ah.length k38,.slice p39 r3.Ab.Af.length k39,.slice p40 r3.Ac.length k40],rfl,(h.own 3 rfl),⟨[.slice p37 r3.Ab.Aa.length k37,.slice p38 r3.Ab.Ah.length k38,.slice p39 r3.Ab.Af.length k39],[.slice p40 r3.Ac.length k40],rfl,⟨[.slice p37 r3.Ab.Aa.length k37],[.slice p38 r3.Ab.Ah.length k38,.slice p39 r3.Ab.Af.length k39],rfl,(h.own 6 rfl),⟨[.slice p38 r3.Ab.Ah.length k38],[.slice p39 r3.Ab.Af.length k39],rfl,(h.own 5 rfl),(h.own 4 rfl)⟩⟩,(h.own 7 rfl)⟩⟩ ⟨[.slice p41 r4.Aq.length k41],[.slice p42 r4.Am.length k42,.slice p43 r4.Az.length k43],rfl,(h.own 2 rfl),⟨[.slice p42 r4.Am.length k42],[.slice p43 r4.Az.length k43],rfl,(h.own 1 rfl),(h.own 0 rfl)⟩⟩ hr5) rfl rfl rfl rfl fun w30 S73 us11 hv16 hr21=>?_
     obtain ⟨S74,S75,cs17,us12,rfl,hv17,hr22⟩:=hv16.cons hr21
     obtain rfl:=qu (hv17.sh.own 0 rfl)
     obtain ⟨rfl,h⟩:=hv17.lastI hr22
     refine G0 511 [6,7,8] (h.pick [9,10] rfl) rfl (Ao 9 1023 rfl (qv qc h rfl rfl rfl fun w31 bb9 h=>Ag (h.pick [10,11] rfl) (Ao 10 2047 rfl (zs 0 h rfl fun w32 h=>G0 4095 [11] (h.pick [10,11] rfl) rfl (Ad ?_)))))
     replace h:=h.pick [0,10,11] rfl
     exact rG ⟨_,rfl,h⟩ rfl
    refine qv qc h rfl rfl rfl fun w33 bb10 h=>Ag (h.pick [9,10] rfl) (Ao 5 575 rfl (qeR (r6,r7) h (cB 24 rfl) (qd2 ⟨[.slice p36 r3.As.Ak.length k36],[.slice p37 r3.Ab.Aa.length k37,.slice p38 r3.Ab.Ah.length k38,.slice p39 r3.Ab.Af.length k39,.slice p40 r3.Ac.length k40],rfl,(h.own 4 rfl),⟨[.slice p37 r3.Ab.Aa.length k37,.slice p38 r3.Ab.Ah.length k38,.slice p39 r3.Ab.Af.length k39],[.slice p40 r3.Ac.length k40],rfl,⟨[.slice p37 r3.Ab.Aa.length k37],[.slice p38 r3.Ab.Ah.length k38,.slice p39 r3.Ab.Af.length k39],rfl,(h.own 7 rfl),⟨[.slice p38 r3.Ab.Ah.length k38],[.slice p39 r3.Ab.Af.length k39],rfl,(h.own 6 rfl),(h.own 5 rfl)⟩⟩,(h.own 8 rfl)⟩⟩ ⟨[.slice p41 r4.Aq.length k41],[.slice p42 r4.Am.length k42,.slice p43 r4.Az.length k43],rfl,(h.own 3 rfl),⟨[.slice p42 r4.Am.length k42],[.slice p43 r4.Az.length k43],rfl,(h.own 2 rfl),(h.own 1 rfl)⟩⟩ hr5) rfl rfl rfl rfl fun w34 S77 us13 hv19 hr24=>?_))
    obtain ⟨S78,S79,cs18,us14,rfl,hv20,hr25⟩:=hv19.cons hr24
    obtain rfl:=qu (hv20.sh.own 0 rfl)
    obtain ⟨rfl,h⟩:=hv20.lastI hr25
    refine G0 1023 [6,7,8] (h.pick [10,11] rfl) rfl (Ao 10 2047 rfl (zs 1 h rfl fun w35 h=>G0 4095 [11] (h.pick [10,11] rfl) rfl (Ad ?_)))
    replace h:=h.pick [1,10,11] rfl
    exact rG ⟨_,rfl,h⟩ rfl
   refine qv qc h rfl rfl rfl fun w36 bb11 h=>Ag (h.pick [6,7] rfl) (Ao 3 543 rfl (qeK r4 h (cB 25 rfl) (qdg (h.old ha2) hr4) rfl rfl rfl rfl fun w37 S81 cs19 h=>?_))
   obtain ⟨p44,k44,p45,k45,p46,k46,rfl,-,-,-⟩:=qaa (h.own 0 rfl)
   obtain ⟨S82,S83,S84,h⟩:=qhA h
   refine Ag (h.pick [9,10] rfl) (Ao 5 575 rfl (qeR (r6,r7) h (cB 24 rfl) (qd2 ⟨[.slice p36 r3.As.Ak.length k36],[.slice p37 r3.Ab.Aa.length k37,.slice p38 r3.Ab.Ah.length k38,.slice p39 r3.Ab.Af.length k39,.slice p40 r3.Ac.length k40],rfl,(h.own 4 rfl),⟨[.slice p37 r3.Ab.Aa.length k37,.slice p38 r3.Ab.Ah.length k38,.slice p39 r3.Ab.Af.length k39],[.slice p40 r3.Ac.length k40],rfl,⟨[.slice p37 r3.Ab.Aa.length k37],[.slice p38 r3.Ab.Ah.length k38,.slice p39 r3.Ab.Af.length k39],rfl,(h.own 7 rfl),⟨[.slice p38 r3.Ab.Ah.length k38],[.slice p39 r3.Ab.Af.length k39],rfl,(h.own 6 rfl),(h.own 5 rfl)⟩⟩,(h.own 8 rfl)⟩⟩ ⟨[.slice p44 r4.Aq.length k44],[.slice p45 r4.Am.length k45,.slice p46 r4.Az.length k46],rfl,(h.own 2 rfl),⟨[.slice p45 r4.Am.length k45],[.slice p46 r4.Az.length k46],rfl,(h.own 1 rfl),(h.own 0 rfl)⟩⟩ hr5) rfl rfl rfl rfl fun w38 S85 us15 hv22 hr27=>?_))
   obtain ⟨S86,S87,cs20,us16,rfl,hv23,hr28⟩:=hv22.cons hr27
   obtain rfl:=qu (hv23.sh.own 0 rfl)
   obtain ⟨rfl,h⟩:=hv23.lastI hr28
   refine G0 1023 [6,7,8] (h.pick [10,11] rfl) rfl (Ao 10 2047 rfl (zs 4 h rfl fun w39 h=>G0 4095 [11] (h.pick [10,11] rfl) rfl (Ad ?_)))
   replace h:=h.pick [4,10,11] rfl
   exact rG ⟨_,rfl,h⟩ rfl
  refine qv qc h rfl rfl rfl fun w40 bb12 h=>Ag (h.pick [1,2] rfl) (Ao 1 535 rfl (qeK r3 h (cB 12 rfl) (qeL (h.old ha1) hr3) rfl rfl rfl rfl fun w41 S89 cs21 h=>?_))
  obtain ⟨p47,k47,p48,k48,p49,k49,p50,k50,p51,k51,rfl,-,-,-,-,-⟩:=qY (h.own 0 rfl)
  obtain ⟨S90,S91,S92,h⟩:=qje h
  replace h:=h.pick [1,0,2,3,4,5] rfl
  obtain ⟨S93,S94,S95,h⟩:=qjd h
  replace h:=h.pick [4,0,1,2,3,5,6,7] rfl
  obtain ⟨S96,h⟩:=qil h
  refine Ag (h.pick [6,7] rfl) (Ao 3 543 rfl (qeK r4 h (cB 25 rfl) (qdg (h.old ha2) hr4) rfl rfl rfl rfl fun w42 S97 cs22 h=>?_))
  obtain ⟨p52,k52,p53,k53,p54,k54,rfl,-,-,-⟩:=qaa (h.own 0 rfl)
  obtain ⟨S98,S99,S100,h⟩:=qhA h
  refine Ag (h.pick [9,10] rfl) (Ao 5 575 rfl (qeR (r6,r7) h (cB 24 rfl) (qd2 ⟨[.slice p47 r3.As.Ak.length k47],[.slice p48 r3.Ab.Aa.length k48,.slice p49 r3.Ab.Ah.length k49,.slice p50 r3.Ab.Af.length k50,.slice p51 r3.Ac.length k51],rfl,(h.own 3 rfl),⟨[.slice p48 r3.Ab.Aa.length k48,.slice p49 r3.Ab.Ah.length k49,.slice p50 r3.Ab.Af.length k50],[.slice p51 r3.Ac.length k51],rfl,⟨[.slice p48 r3.Ab.Aa.length k48],[.slice p49 r3.Ab.Ah.length k49,.slice p50 r3.Ab.Af.length k50],rfl,(h.own 6 rfl),⟨[.slice p49 r3.Ab.Ah.length k49],[.slice p50 r3.Ab.Af.length k50],rfl,(h.own 5 rfl),(h.own 4 rfl)⟩⟩,(h.own 7 rfl)⟩⟩ ⟨[.slice p52 r4.Aq.length k52],[.slice p53 r4.Am.length k53,.slice p54 r4.Az.length k54],rfl,(h.own 2 rfl),⟨[.slice p53 r4.Am.length k53],[.slice p54 r4.Az.length k54],rfl,(h.own 1 rfl),(h.own 0 rfl)⟩⟩ hr5) rfl rfl rfl rfl fun w43 S101 us17 hv25 hr30=>?_))
  obtain ⟨S102,S103,cs23,us18,rfl,hv26,hr31⟩:=hv25.cons hr30
  obtain rfl:=qu (hv26.sh.own 0 rfl)
  obtain ⟨rfl,h⟩:=hv26.lastI hr31
  refine G0 1023 [6,7,8] (h.pick [10,11] rfl) rfl (Ao 10 2047 rfl (zs 9 h rfl fun w44 h=>G0 4095 [11] (h.pick [10,11] rfl) rfl (Ad ?_)))
  replace h:=h.pick [9,10,11] rfl
  exact rG ⟨_,rfl,h⟩ rfl
 rintro e1 w45 ⟨bb8,rfl,h⟩
 refine X1 3 2 h rfl (zcO h hF (qeL (h.old ha1)) rfl fun r8 w46 S105 cs24 h hF=>?_)
 obtain ⟨p55,k55,p56,k56,p57,k57,p58,k58,p59,k59,rfl,-,-,-,-,-⟩:=qY (h.own 0 rfl)
 refine qv qc h rfl rfl rfl fun w47 bb13 h=>zs 0 h rfl fun w48 h=>X1 4 3 h rfl (zcO h hF (qdg (h.old ha2)) rfl fun r9 w49 S106 cs25 h hF=>?_)
 obtain ⟨p60,k60,p61,k61,p62,k62,rfl,-,-,-⟩:=qaa (h.own 0 rfl)
 refine qv qc h rfl rfl rfl fun w50 bb14 h=>zs 0 h rfl fun w51 h=>X2 6 2 0 h rfl ?_
 obtain ⟨r10,hr35,hF⟩:=qg hF
 obtain ⟨r11,r12⟩:=r10
 refine qeR (r11,r12) h (cB 26 rfl) (qjE (h.own 3 rfl) (h.own 1 rfl) hr35) rfl rfl rfl rfl fun w52 S107 us19 hv28 hr36=>?_
 obtain ⟨S108,S109,cs26,us20,rfl,hv29,hr37⟩:=hv28.cons hr36
 obtain rfl:=qu (hv29.sh.own 0 rfl)
 obtain ⟨rfl,h⟩:=hv29.lastI hr37
 refine zp3 rfl (qv qc h rfl rfl rfl fun w53 bb15 h=>zs 0 h rfl fun w54 h=>X0 4 rfl ?_)
 obtain ⟨KF1,hKF1,o1,hF,hK1⟩:=bindE hF
 refine qcy (fun e w'=>∃ (b1:Bool),KF1 b1=some r∧e=[(3,.pointer (some ⟨bb1,0,none⟩)),(4,.pointer (some ⟨bb2,0,none⟩)),(10,.pointer (some ⟨bb13,0,none⟩)),(11,.pointer (some ⟨bb14,0,none⟩)),(52,.bool b1)]∧SH w w' [Ch.box bb14 (qcE r9 p60 p61 p62 k60 k61 k62) 71,Ch.own S106 (r9:qq) (qcE r9 p60 p61 p62 k60 k61 k62),Ch.box bb13 (qbL r8 p55 p56 p57 p58 p59 k55 k56 k57 k58 k59) 48,Ch.own S105 (r8:qk) (qbL r8 p55 p56 p57 p58 p59 k55 k56 k57 k58 k59),Ch.box bb2 (qcE aT p6 p7 p8 k6 k7 k8) 63,Ch.box bb1 (qbL aB p1 p2 p3 p4 p5 k1 k2 k3 k4 k5) 32]) ?_ ?_
 ·refine X2 3 0 6 h rfl (zcB h hF (qiq (h.own 1 rfl) (qE r6)) rfl fun r17 w61 h hF=>zp2 rfl (qd (t:=48) hF rfl ?_ ?_))<;>intro hF
  ·refine X0 5 rfl ?_
   replace h:=h.pick [2,3,4,5,7,8] rfl
   obtain rfl:=qa hF
   exact rG ⟨_,hK1,rfl,h⟩ rfl
  refine X0 8 rfl ?_
  replace h:=h.pick [2,3,4,5,7,8] rfl
  obtain rfl:=qa hF
  exact rG ⟨_,hK1,rfl,h⟩ rfl
 rintro e2 w62 ⟨b1,hF,rfl,h⟩
 subst hKF1
 refine qf rfl hF ?_ ?_<;>intro hF
 ·exact X0 4 rfl (rb h hF rfl)
 refine zKSS (rA [] [2,5] h rfl fun w55 h=>M2 3 [0,1] 0 1 (h.pick [2,5] rfl) rfl (Ao 2 7 rfl (zcO h hF (qeL (h.old ha1)) rfl fun r13 w56 S111 cs27 h hF=>?_)))
 obtain ⟨p63,k63,p64,k64,p65,k65,p66,k66,p67,k67,rfl,-,-,-,-,-⟩:=qY (h.own 0 rfl)
 refine Ag (h.pick [3,6] rfl) (Ao 3 15 rfl (zcB h hF (qkT (h.own 4 rfl) (h.own 0 rfl)) rfl fun r14 w57 h hF=>G0 31 [4] (h.pick [3,6] rfl) rfl (Ad (qf rfl hF ?_ ?_))))<;>intro hF
 ·exact X0 4 rfl (rb h hF rfl)
 refine zKSS (rA [] [1,5] h rfl fun w58 h=>M2 3 [0,1] 0 1 (h.pick [1,5] rfl) rfl (Ao 2 7 rfl (zcO h hF (qdg (h.old ha2)) rfl fun r15 w59 S112 cs28 h hF=>?_)))
 obtain ⟨p68,k68,p69,k69,p70,k70,rfl,-,-,-⟩:=qaa (h.own 0 rfl)
 refine Ag (h.pick [2,6] rfl) (Ao 3 15 rfl (zcB h hF (qko (h.own 3 rfl) (h.own 0 rfl)) rfl fun r16 w60 h hF=>G0 31 [4] (h.pick [2,6] rfl) rfl (Ad (qf rfl hF ?_ ?_))))<;>intro hF
 ·exact X0 4 rfl (rb h hF rfl)
 exact X0 5 rfl (rb h hF rfl)
end Go.Fw


namespace Go.Fw
open Go Go.Proofs
open Go.RowKit (Below)
set_option maxRecDepth 100000
set_option maxHeartbeats 1600000
variable {n:Nat} {w:World} {cs1 cs2 cs3 cs4 cs5 cs6 cs7 cs8 cs9:List Value}
end Go.Fw


namespace Go.Fw
open Go Go.Proofs
open Go.RowKit (Below)
set_option maxRecDepth 100000
set_option maxHeartbeats 1600000
variable {n:Nat} {w:World} {cs1 cs2 cs3 cs4 cs5 cs6 cs7 cs8 cs9:List Value}
end Go.Fw


namespace Go.Fw
open Go
end Go.Fw


namespace Go.Fw
open Go
set_option maxRecDepth 100000
end Go.Fw


namespace Go.Fw
open Go
set_option maxRecDepth 100000
theorem qiv {b:qk} {t:qq} {net:Int} (h0:qi2 b) (h1:qhS t) (h2:rngI net):Ev (fun n=>qdQ n b t net) true:=by
 unfold qdQ
 obtain ⟨r1,e1,q1⟩:=qpW (a:=b) (left:=1048576) h0 (by omega) (by omega)
 refine Ev.bind e1 ?_
 rcases q1 with q1|⟨p1,q1⟩
 ·exact Ev.tt (by simpa using q1) .done
 refine Ev.ff (by simp;omega) ?_
 obtain ⟨r2,e2,q2⟩:=qo0 (a:=t) (left:=r1) h1 p1 (by omega)
 refine Ev.bind e2 ?_
 rcases q2 with q2|⟨p2,q2⟩
 ·exact Ev.tt (by simpa using q2) .done
 refine Ev.ff (by simp;omega) ?_
 have w0:qfd b≤1048576:=by omega
 have k0:=qoe h0 w0
 have w1:qd6 t≤1048576:=by omega
 have k1:=qnb h1 w1
 obtain ⟨⟨R0,R1⟩,hs,hi⟩:=qmP (b:=b) (t:=t) (net:=net) k0
 refine Ev.bind (qlK w0) ?_
 refine Ev.bind (qj0 w1) ?_
 refine Ev.bind hs ?_
 refine Ev.bind (qlK w0) ?_
 refine Ev.bind (qj0 w1) ?_
 refine Ev.bind hi ?_
 refine Ev.bind (b:=false) (Ev.bind (qot) (Ev.ff rfl (Ev.now (by simp)))) (Ev.ff rfl ?_)
 refine Ev.bind (qlK w0) ?_
 refine Ev.bind (qpE w0) (Ev.ff rfl ?_)
 refine Ev.bind (qj0 w1) ?_
 refine Ev.bind (qo3 w1) (Ev.ff rfl ?_)
 exact .done
end Go.Fw


namespace Go.Fw
open Go
end Go.Fw


namespace Go.Fw
open Go
open Go.RowKit (Below)
structure Same where
 w:World
 K:Nat→Prop
instance instSame:GoT Same where
 k:=1
 agg:=false
 zero:=⟨default,fun _=>False⟩
 zc:=[.bool true]
 R w S x cs:=cs=[.bool true]∧∀ b,x.K b→S b∧w.heap[b]?=x.w.heap[b]?
 O w S x cs:=cs=[.bool true]∧∀ b,x.K b→S b∧w.heap[b]?=x.w.heap[b]?
 kpos:=by decide
 noagg _:=rfl
 len h:=by obtain ⟨rfl,_⟩:=h;rfl
 one h:=by obtain ⟨rfl,_⟩:=h;simp [Value.oneCell']
 loc h hs:=⟨h.1,fun b hb=>⟨(h.2 b hb).1,(hs b (h.2 b hb).1).trans (h.2 b hb).2⟩⟩
 mono h hs:=⟨h.1,fun b hb=>⟨hs b (h.2 b hb).1,(h.2 b hb).2⟩⟩
 toR h:=h
 locO h hs:=⟨h.1,fun b hb=>⟨(h.2 b hb).1,(hs b (h.2 b hb).1).trans (h.2 b hb).2⟩⟩
 monoO h hs:=⟨h.1,fun b hb=>⟨hs b (h.2 b hb).1,(h.2 b hb).2⟩⟩
 zO _ _:=⟨rfl,fun _ h=>h.elim⟩
def FS (F:List Ch) (b:Nat):Prop:=∃ d,d ∈ F∧d.S b
abbrev Fr (w0:World) (F:List Ch) (b:Nat):Prop:=FS F b∨old w0 b
abbrev same (w0 w:World) (F:List Ch):Fct:=fct (⟨w,Fr w0 F⟩:Same) [.bool true]
section
variable {P:Program} {T:Tab} {n:Nat} {Q:Exit→Act→World→Prop} {k:List It} {e:Env} {w0 w w':World} {L L' F:List Ch}
theorem SH.frame (L:List Ch) (h:SH w0 w (L++F)):SH w0 w (L++[Ch.grp (Fw.old w0) (FS F) [same w0 w F]]):=by
 have hp:=List.pairwise_append.1 h.apart
 refine ⟨h.below,fun c hc=>?_,fun c hc=>?_,List.pairwise_append.2 ⟨hp.1,List.pairwise_singleton ..,fun c hc d hd b hb=>?_⟩⟩
 ·rcases List.mem_append.1 hc with hc|hc
  ·exact h.holds c (List.mem_append_left _ hc)
  ·obtain rfl:=List.mem_singleton.1 hc
   refine ⟨fun f hf=>?_,fun b hb=>?_⟩
   ·obtain rfl:=List.mem_singleton.1 hf
    exact ⟨rfl,fun b hb=>⟨hb,rfl⟩⟩
   ·obtain ⟨d,hd,hb⟩:=hb
    exact (h.holds d (List.mem_append_right _ hd)).2 b hb
 ·rcases List.mem_append.1 hc with hc|hc
  ·exact h.elder c (List.mem_append_left _ hc)
  ·obtain rfl:=List.mem_singleton.1 hc
   exact fun b hb=>hb
 ·obtain rfl:=List.mem_singleton.1 hd
  rintro ⟨d,hd,hdb⟩
  exact hp.2.2 c hc d hd b hb hdb
variable {α:Type} [GoT α] {x:α} {cs:List Value} {S D:Nat→Prop} {fs:List Fct}
end
section
open Go.ChangeShapes Go.RowKit
variable {H:Type} {enc:TypeId × Value→H} {P:Program} {w:World} {base:Nat} {spare:Nat→Bool} {held:Bool}
end
end Go.Fw
