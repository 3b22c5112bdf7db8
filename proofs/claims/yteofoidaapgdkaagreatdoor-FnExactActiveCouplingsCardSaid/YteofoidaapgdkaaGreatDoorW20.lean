/- By a program of mine (gen.py): for each function a plain function and the proof that the code computes it. -/
import Derived.Test.YteofoidaapgdkaaGreatDoorB7
import Derived.Test.YteofoidaapgdkaaGreatDoorFw30
import Derived.Test.YteofoidaapgdkaaGreatDoorFw38
open Option renaming bind_some → jd
open Nat renaming le_refl → je, mul_le_mul_right → jn, le_of_ble_eq_true → jp, lt_of_lt_of_le → jr, succ_mul → jC, zero_add → jP, le_trans → jQ
open Bool renaming and_eq_true → jf, eq_iff_iff → jh, not_eq_true' → ju, true_and → jA
open Go.Result renaming andThen_ok → jg
open List renaming getElem?_eq_getElem → ji, length_append → jm, mem_cons_of_mem → jo, getElem?_append_left → jq, getElem_mem → js, mem_cons_self → jt, getElem?_take → jv, getElem?_append_right → jw, append_assoc → jx, getElem?_toArray → jz, eq_nil_of_length_eq_zero → jB, length_singleton → jD, length_map → jE, all_eq_true → jF, getElem_of_mem → jG, size_toArray → jH, getD_eq_getElem?_getD → jJ, map_append → jK, drop_eq_getElem_cons → jL, mem_of_getElem? → jM, not_mem_nil → jN, take_length → jO, mem_cons → jR
open Go.Sem renaming run_bind → jj, run_pure → jk
open Int renaming toNat_natCast → jy
open Array renaming getElem?_append_left → jI

namespace Go.Fw
open Go Go.Proofs
open Go.RowKit (Below)
set_option maxRecDepth 100000
set_option maxHeartbeats 1600000
variable {n:Nat} {w:World} {cs1 cs2 cs3 cs4 cs5 cs6 cs7 cs8 cs9:List Value}
def qbI (net:Int) (r1:(List Tl05Place)):Nat→Int→Option (Flow Int Int)
 | 0,_=>none
 | n+1,i1 =>
  bif decide (i1<(r1.length:Int)) then
   (idx r1 i1).bind fun y1 =>
   bif (y1.net==net) then
    (idx r1 i1).bind fun y2 =>
    bif y2.drives then some (.ret i1) else
    qbI net r1 n (W64 (i1+1))
   else
    qbI net r1 n (W64 (i1+1))
  else
   some (.nxt i1)
def qgi (n:Nat) (d:qc) (net:Int):Option Int :=
 (qd2 n d).bind fun r1 =>
 (qbI net r1 n 0).bind fun o=>match o with
 | .ret r=>some r
 | .nxt _ =>
  some (-1)
theorem qlq {d:qc} {net:Int} (ha1:GoT.R w (old w) d cs1) {r:Int} (hF:qgi n d net=some r):RetV Tryz.prog 169 [GoT.v qc cs1,.int .i64 net] w r:=by
 obtain ⟨p1,k1,p2,k2,p3,k3,rfl,s1,s2,s3⟩:=qad ha1
 refine zV 30 Tryz.func169 rfl fun h=>zSR (qu h rfl rfl fun w1 bb1 h=>X1 5 0 h rfl (zcL h hF (qgh (h.old ha1)) rfl fun r1 w2 S1 p4 k4 h hF=>X0 7 rfl ?_))
 obtain ⟨o1,hF,hK1⟩:=qf hF
 refine ql ?_
 replace h:=h.pick [0] rfl
 refine rL (fun m e w'=>∃ (i1:Int),qbI net r1 m i1=some o1∧e=[(1,.int .i64 net),(5,.slice p4 r1.length k4),(6,.int .i64 i1)]∧SH w w' [Ch.own S1 (r1:List Tl05Place) [.slice p4 r1.length k4]]) n ⟨_,hF,rfl,h⟩ rfl ?_
 rintro m1 e1 w3 ⟨i1,hF,rfl,h⟩
 rcases m1 with _|m1
 ·cases hF
 refine X0 8 rfl (qh rfl hF ?_ ?_)<;>intro hF
 ·refine X0 7 rfl ?_
  obtain ⟨y1,hy1,hF,he1,b1,_,q1,cs2,hp1,hq1,hr2,hc2⟩:=(h.sl 0 rfl).1.ix hF
  obtain rfl:=qgj hr2
  refine zx hp1 hq1 ⟨he1.1,qJ he1.2.1 (h.sl 0 rfl).2⟩ rfl (zp1 rfl (zc 2 hc2 rfl (zp3 rfl (qg (t:=22) hF rfl ?_ ?_))))<;>intro hF
  ·refine X0 5 rfl ?_
   obtain ⟨y2,hy2,hF,he2,b2,_,q2,cs3,hp2,hq2,hr3,hc3⟩:=(h.sl 0 rfl).1.ix hF
   obtain rfl:=qgj hr3
   refine zx hp2 hq2 ⟨he2.1,qJ he2.2.1 (h.sl 0 rfl).2⟩ rfl (X0 3 rfl (zc 3 hc3 rfl (X0 2 rfl (qh rfl hF ?_ ?_))))<;>intro hF
   ·refine X0 5 rfl ?_
    obtain rfl:=qa hF;replace hF:=hK1
    exact ri h hF rfl
   exact X0 7 rfl (rK ⟨_,hF,rfl,h⟩ rfl)
  exact X0 7 rfl (qcO rfl rfl (X0 7 rfl (rK ⟨_,hF,rfl,h⟩ rfl)))
 refine qr rfl ?_
 obtain rfl:=qa hF;replace hF:=hK1
 exact X0 4 rfl (ri h hF rfl)
def qdz (_:Nat) (a:qF):Option (List qD) :=
 bif (a.Ay==2) then some ([(⟨0,0⟩:qD),(⟨0,1⟩:qD)]:List qD) else
 bif (a.Ay==3) then some ([(⟨1,0⟩:qD),(⟨1,1⟩:qD)]:List qD) else
 bif (a.Ay != 1) then some [] else
 bif (a.Bi==1) then some ([(⟨0,0⟩:qD),(⟨1,1⟩:qD)]:List qD) else
 bif (a.Bi==2) then some ([(⟨0,1⟩:qD),(⟨1,0⟩:qD)]:List qD) else
 some ([(⟨0,0⟩:qD),(⟨0,1⟩:qD),(⟨1,0⟩:qD),(⟨1,1⟩:qD)]:List qD)
theorem qjd {a:qF} (ha1:GoT.R w (old w) a cs1) {r:(List qD)} (hF:qdz n a=some r):RetV Tryz.prog 241 [GoT.v qF cs1] w r:=by
 obtain ⟨p1,k1,p2,k2,rfl,s1,s2⟩:=qag ha1
 refine zV 44 Tryz.func241 rfl fun h=>zSR (qu h rfl rfl fun w1 bb1 h=>X0 4 rfl (r_v (qeB qb [0,1] [.const (.int .i64 (0)),.const (.int .i64 (0))] rfl rfl rfl rfl rfl rfl rfl rfl rfl) rfl (r_v (qeB qb [0,1] [.const (.int .i64 (1)),.const (.int .i64 (1))] rfl rfl rfl rfl rfl rfl rfl rfl rfl) rfl (qab qb [.tmp 5,.tmp 6] _ ([(⟨0,0⟩:qD),(⟨1,1⟩:qD)]:List qD) h rfl rfl rfl rfl rfl rfl rfl rfl rfl ⟨(qb1 (⟨0,0⟩:qD)),(qb1 (⟨1,1⟩:qD)),trivial⟩ rfl fun w2 p3 S1 h=>X0 4 rfl (r_v (qeB qb [0,1] [.const (.int .i64 (0)),.const (.int .i64 (1))] rfl rfl rfl rfl rfl rfl rfl rfl rfl) rfl (r_v (qeB qb [0,1] [.const (.int .i64 (1)),.const (.int .i64 (0))] rfl rfl rfl rfl rfl rfl rfl rfl rfl) rfl (qab qb [.tmp 8,.tmp 9] _ ([(⟨0,1⟩:qD),(⟨1,0⟩:qD)]:List qD) h rfl rfl rfl rfl rfl rfl rfl rfl rfl ⟨(qb1 (⟨0,1⟩:qD)),(qb1 (⟨1,0⟩:qD)),trivial⟩ rfl fun w3 p4 S2 h=>X1 11 2 h rfl (qh rfl hF ?_ ?_))))))))<;>intro hF
 ·refine zSR (r_v (qeB qb [0,1] [.const (.int .i64 (0)),.const (.int .i64 (0))] rfl rfl rfl rfl rfl rfl rfl rfl rfl) rfl (r_v (qeB qb [0,1] [.const (.int .i64 (0)),.const (.int .i64 (1))] rfl rfl rfl rfl rfl rfl rfl rfl rfl) rfl (qab qb [.tmp 15,.tmp 16] _ ([(⟨0,0⟩:qD),(⟨0,1⟩:qD)]:List qD) h rfl rfl rfl rfl rfl rfl rfl rfl rfl ⟨(qb1 (⟨0,0⟩:qD)),(qb1 (⟨0,1⟩:qD)),trivial⟩ rfl fun w4 p5 S3 h=>X0 2 rfl ?_)))
  obtain rfl:=qa hF
  exact rO 0 h rfl ⟨rfl,trivial⟩
 refine X1 7 2 h rfl (qh rfl hF ?_ ?_)<;>intro hF
 ·refine zSR (r_v (qeB qb [0,1] [.const (.int .i64 (1)),.const (.int .i64 (0))] rfl rfl rfl rfl rfl rfl rfl rfl rfl) rfl (r_v (qeB qb [0,1] [.const (.int .i64 (1)),.const (.int .i64 (1))] rfl rfl rfl rfl rfl rfl rfl rfl rfl) rfl (qab qb [.tmp 22,.tmp 23] _ ([(⟨1,0⟩:qD),(⟨1,1⟩:qD)]:List qD) h rfl rfl rfl rfl rfl rfl rfl rfl rfl ⟨(qb1 (⟨1,0⟩:qD)),(qb1 (⟨1,1⟩:qD)),trivial⟩ rfl fun w5 p6 S4 h=>X0 2 rfl ?_)))
  obtain rfl:=qa hF
  exact rO 0 h rfl ⟨rfl,trivial⟩
 refine X1 7 2 h rfl (qh rfl hF ?_ ?_)<;>intro hF
 ·refine X0 4 rfl ?_
  obtain rfl:=qa hF
  exact qaE qb (ρ:=(List qD)) [GoT.v (List qD) [.slice none 0 0]] h ⟨rfl,trivial⟩ (PV.done h (qa1 qpd))
 refine X1 7 2 h rfl (qh rfl hF ?_ ?_)<;>intro hF
 ·refine X0 5 rfl ?_
  obtain rfl:=qa hF
  exact rO 1 h rfl ⟨rfl,trivial⟩
 refine X1 7 2 h rfl (qh rfl hF ?_ ?_)<;>intro hF
 ·refine X0 5 rfl ?_
  obtain rfl:=qa hF
  exact rO 0 h rfl ⟨rfl,trivial⟩
 refine X0 4 rfl (r_v (qeB qb [0,1] [.const (.int .i64 (0)),.const (.int .i64 (0))] rfl rfl rfl rfl rfl rfl rfl rfl rfl) rfl (r_v (qeB qb [0,1] [.const (.int .i64 (0)),.const (.int .i64 (1))] rfl rfl rfl rfl rfl rfl rfl rfl rfl) rfl (r_v (qeB qb [0,1] [.const (.int .i64 (1)),.const (.int .i64 (0))] rfl rfl rfl rfl rfl rfl rfl rfl rfl) rfl (r_v (qeB qb [0,1] [.const (.int .i64 (1)),.const (.int .i64 (1))] rfl rfl rfl rfl rfl rfl rfl rfl rfl) rfl (qab qb [.tmp 39,.tmp 40,.tmp 41,.tmp 42] _ ([(⟨0,0⟩:qD),(⟨0,1⟩:qD),(⟨1,0⟩:qD),(⟨1,1⟩:qD)]:List qD) h rfl rfl rfl rfl rfl rfl rfl rfl rfl ⟨(qb1 (⟨0,0⟩:qD)),(qb1 (⟨0,1⟩:qD)),(qb1 (⟨1,0⟩:qD)),(qb1 (⟨1,1⟩:qD)),trivial⟩ rfl fun w6 p7 S5 h=>X0 2 rfl ?_)))))
 obtain rfl:=qa hF
 exact rO 0 h rfl ⟨rfl,trivial⟩
def qaM (first:Int) (i1:Int) (y2:qF) (r1:(List qD)):Nat→(List qaa)→Int→Option ((List qaa) × Int)
 | 0,_,_=>none
 | n+1,x2,i2 =>
  bif decide (i2<(r1.length:Int)) then
   (idx r1 i2).bind fun y3 =>
   (appS x2 ([(⟨W64 ((W64 (2*(W64 (first+y2.Bd))))+y3.e0),W64 ((W64 (2*(W64 (first+y2.To))))+y3.e1),1,i1⟩:qaa)]:List qaa)).bind fun x3 =>
   qaM first i1 y2 r1 n x3 (W64 (i2+1))
  else
   some (x2,i2)
def qaQ (first:Int) (y1:qp):Nat→(List qaa)→Int→Option ((List qaa) × Int)
 | 0,_,_=>none
 | n+1,x1,i1 =>
  bif decide (i1<(y1.Aj.length:Int)) then
   (idx y1.Aj i1).bind fun y2 =>
   (qdz n y2).bind fun r1 =>
   (qaM first i1 y2 r1 n x1 0).bind fun o=>match o with
   | (x2,_) =>
    qaQ first y1 n x2 (W64 (i1+1))
  else
   some (x1,i1)
def qdC (n:Nat) (b:qk) (x:qd) (first:Int):Option (List qaa) :=
 (idx b.Au.Ak x.Bl).bind fun y1 =>
 (qaQ first y1 n ([]:List qaa) 0).bind fun o=>match o with
 | (x1,_) =>
  some x1
theorem qi5 {b:qk} {x:qd} {first:Int} (ha1:GoT.R w (old w) b cs1) (ha2:GoT.R w (old w) x cs2) {r:(List qaa)} (hF:qdC n b x first=some r):RetV Tryz.prog 174 [GoT.v qk cs1,GoT.v qd cs2,.int .i64 first] w r:=by
 obtain ⟨p1,k1,p2,k2,p3,k3,p4,k4,p5,k5,rfl,s1,s2,s3,s4,s5⟩:=qV ha1
 obtain ⟨p6,k6,rfl,s6⟩:=qM ha2
 refine zV 57 Tryz.func174 rfl fun h=>zSR (qu h rfl rfl fun w1 bb1 h=>qu h rfl rfl fun w2 bb2 h=>X2 14 1 0 h rfl ?_)
 obtain ⟨y1,hy1,hF,he1,b1,_,q1,cs3,hp1,hq1,hr1,hc1⟩:=s1.ix hF
 obtain ⟨p7,k7,p8,k8,p9,k9,rfl,s7,s8,s9⟩:=qU hr1
 refine zxe hp1 hq1 he1 rfl (zp1 rfl (zc 3 (hc1.below h.below) rfl (X0 3 rfl ?_)))
 replace h:=h.nil (α:=qaa)
 obtain ⟨o1,hF,hK1⟩:=qf hF
 refine ql ?_
 replace h:=h.pick [0] rfl
 refine rL (fun m e w'=>∃ (S1:Nat→Prop) (p10:Option Addr) (ln1:Nat) (k10:Nat) (x1:(List qaa)) (i1:Int),qaQ first y1 m x1 i1=some o1∧e=[(2,.int .i64 first),(7,.slice p10 ln1 k10),(19,.slice p8 y1.Aj.length k8),(20,.int .i64 (y1.Aj.length:Int)),(21,.int .i64 i1)]∧SH w w' [Ch.own S1 (x1:List qaa) [.slice p10 ln1 k10]]) n ⟨_,_,_,_,_,_,hF,rfl,h⟩ rfl ?_
 rintro m1 e1 w3 ⟨S1,p10,ln1,k10,x1,i1,hF,rfl,h⟩
 obtain rfl:=(h.sl 0 rfl).2
 rcases m1 with _|m1
 ·cases hF
 refine X0 5 rfl (qh rfl hF ?_ ?_)<;>intro hF
 ·refine X0 6 rfl ?_
  obtain ⟨y2,hy2,hF,he2,b2,_,q2,cs4,hp2,hq2,hr2,hc3⟩:=s8.ix hF
  obtain ⟨p11,k11,p12,k12,rfl,s10,s11⟩:=qag hr2
  refine zxe hp2 hq2 he2 rfl (zc 0 (hc3.below h.below) rfl (qx qb h rfl rfl rfl fun w4 bb3 h=>zp1 rfl (zs 0 h rfl fun w5 h=>X1 4 0 h rfl (zcL h hF (qjd (qfN y2 (h.oldS s10) (h.oldS s11))) rfl fun r1 w6 S2 p13 k13 h hF=>X0 3 rfl ?_))))
  obtain ⟨o2,hF,hK2⟩:=qf hF
  refine ql (rL (fun m e w'=>∃ (S3:Nat→Prop) (p14:Option Addr) (ln2:Nat) (k14:Nat) (x2:(List qaa)) (i2:Int),qaM first i1 y2 r1 m x2 i2=some o2∧e=[(2,.int .i64 first),(7,.slice p14 ln2 k14),(8,.int .i64 i1),(9,.pointer (some ⟨bb3,0,none⟩)),(19,.slice p8 y1.Aj.length k8),(20,.int .i64 (y1.Aj.length:Int)),(21,.int .i64 i1),(27,.slice p13 r1.length k13),(28,.int .i64 (r1.length:Int)),(29,.int .i64 i2)]∧SH w w' [Ch.own S2 (r1:List qD) [.slice p13 r1.length k13],Ch.box bb3 (qjq y2 p11 p12 k11 k12) 254,Ch.own S3 (x2:List qaa) [.slice p14 ln2 k14]]) m1 ⟨_,_,_,_,_,_,hF,rfl,h⟩ rfl ?_)
  rintro m2 e2 w7 ⟨S3,p14,ln2,k14,x2,i2,hF,rfl,h⟩
  obtain rfl:=(h.sl 2 rfl).2
  rcases m2 with _|m2
  ·cases hF
  refine X0 5 rfl (qh rfl hF ?_ ?_)<;>intro hF
  ·refine zKSBSR ?_
   obtain ⟨y3,hy3,hF,he3,b3,_,q3,cs5,hp3,hq3,hr4,hc5⟩:=(h.sl 0 rfl).1.ix hF
   obtain rfl:=qoG hr4
   refine zx hp3 hq3 ⟨he3.1,qJ he3.2.1 (h.sl 0 rfl).2⟩ rfl (zc 0 hc5 rfl (qx qb h rfl rfl rfl fun w8 bb4 h=>zs 0 h rfl fun w9 h=>X1 8 2 h rfl (r_v (qtW (iv:=0) qb rfl rfl (by decide) ⟨rfl,rfl⟩ rfl rfl) rfl (X2 7 0 2 h rfl (r_v (qtW (iv:=1) qb rfl rfl (by decide) ⟨rfl,rfl⟩ rfl rfl) rfl (X1 3 0 h rfl (r_v (qdO qb [0,1,2,3] [.tmp 41,.tmp 49,.const (.int .i64 (1)),.tmp 50] rfl rfl rfl rfl rfl rfl rfl rfl) rfl (qab qb [.tmp 51] _ ([(⟨W64 ((W64 (2*(W64 (first+y2.Bd))))+y3.e0),W64 ((W64 (2*(W64 (first+y2.To))))+y3.e1),1,i1⟩:qaa)]:List qaa) h rfl rfl rfl rfl rfl rfl rfl rfl rfl ⟨(qoE (⟨W64 ((W64 (2*(W64 (first+y2.Bd))))+y3.e0),W64 ((W64 (2*(W64 (first+y2.To))))+y3.e1),1,i1⟩:qaa)),trivial⟩ rfl fun w10 p15 S4 h=>?_))))))))
   obtain ⟨x3,hx1,hF⟩:=qf hF
   obtain ⟨g1,hx1⟩:=qaY hx1
   refine qd1 qb 4 h rfl (h.sl 0 rfl).1 (h.sl 0 rfl).2 rfl rfl rfl rfl rfl rfl rfl rfl rfl g1 hx1 rfl fun w11 p16 k15 S5 h=>X0 7 rfl ?_
   replace h:=h.pick [2,3,4] rfl
   exact rK ⟨_,_,_,_,_,_,hF,rfl,h⟩ rfl
  refine qr rfl ?_
  obtain rfl:=qa hF;replace hF:=hK2
  refine X0 5 rfl ?_
  replace h:=h.pick [2] rfl
  exact rK ⟨_,_,_,_,_,_,hF,rfl,h⟩ rfl
 refine qr rfl ?_
 obtain rfl:=qa hF;replace hF:=hK1
 refine X0 5 rfl ?_
 obtain rfl:=qa hF
 exact rO 0 h rfl ⟨rfl,trivial⟩
def qf2 (_:Nat) (s:(List Int)):Option (List Int) :=
 appS ([]:List Int) s
theorem qjF {s:(List Int)} (ha1:GoT.R w (old w) s cs1) {r:(List Int)} (hF:qf2 n s=some r):RetV Tryz.prog 242 [GoT.v (List Int) cs1] w r:=by
 obtain ⟨p,k,rfl,s1⟩:=ha1
 obtain ⟨g1,hx⟩:=qaY (show appS ([]:List Int) s=some r from hF)
 cases p with
 | none =>
  obtain rfl:=qpN s1
  obtain rfl:[]=r:=hx
  exact zV 8 Tryz.func242 rfl fun h=>X0 8 rfl (r_v (qpj qb rfl rfl rfl rfl rfl) rfl (qdj (qb2 rfl rfl (X0 4 rfl (qaE qb (ρ:=(List Int)) [GoT.v (List Int) [.slice none 0 0]] h ⟨rfl,trivial⟩ (PV.done h (qa1 qpd)))))))
 | some a =>
  refine zV 8 Tryz.func242 rfl fun h=>X0 8 rfl (r_v (qpj qb rfl rfl rfl rfl rfl) rfl (qdj (qcO rfl rfl (zKSR (qab qb [] _ ([]:List Int) h rfl rfl rfl rfl rfl rfl rfl rfl rfl trivial rfl fun w1 p1 S1 h=>zp1 rfl (qtY qb 0 h rfl (h.oldS s1) rfl rfl rfl rfl rfl rfl rfl rfl rfl rfl g1 rfl fun w2 p2 k2 S2 h=>?_))))))
  rw [hx] at h
  exact X0 2 rfl (qaE qb (ρ:=(List Int)) [GoT.v (List Int) [.slice p2 (([]:List Int).length+s.length) k2]] h ⟨rfl,trivial⟩ (PV.done h (qa1 (qas 0 h rfl))))
def qay (net:Int) (r1:(List Tplace)):Nat→(List Int)→Int→Option ((List Int) × Int)
 | 0,_,_=>none
 | n+1,x1,i1 =>
  bif decide (i1<(r1.length:Int)) then
   (idx r1 i1).bind fun y1 =>
   bif (y1.net==net) then
    bif (!y1.drives) then
     (appS x1 ([i1]:List Int)).bind fun x2 =>
     qay net r1 n x2 (W64 (i1+1))
    else
     qay net r1 n x1 (W64 (i1+1))
   else
    qay net r1 n x1 (W64 (i1+1))
  else
   some (x1,i1)
def qe3 (n:Nat) (d:qc) (net:Int):Option (List Int) :=
 (qbv n d).bind fun r1 =>
 (qay net r1 n ([]:List Int) 0).bind fun o=>match o with
 | (x1,_) =>
  some x1
theorem qjT {d:qc} {net:Int} (ha1:GoT.R w (old w) d cs1) {r:(List Int)} (hF:qe3 n d net=some r):RetV Tryz.prog 243 [GoT.v qc cs1,.int .i64 net] w r:=by
 obtain ⟨p1,k1,p2,k2,p3,k3,rfl,s1,s2,s3⟩:=qad ha1
 refine zV 31 Tryz.func243 rfl fun h=>zSR (qu h rfl rfl fun w1 bb1 h=>X1 10 0 h rfl (zcL h hF (qdn (h.old ha1)) rfl fun r1 w2 S1 p4 k4 h hF=>X0 3 rfl ?_))
 replace h:=h.nil (α:=Int)
 obtain ⟨o1,hF,hK1⟩:=qf hF
 refine ql ?_
 replace h:=h.pick [0,1] rfl
 refine rL (fun m e w'=>∃ (S2:Nat→Prop) (p5:Option Addr) (ln1:Nat) (k5:Nat) (x1:(List Int)) (i1:Int),qay net r1 m x1 i1=some o1∧e=[(1,.int .i64 net),(5,.slice p5 ln1 k5),(9,.slice p4 r1.length k4),(10,.int .i64 (r1.length:Int)),(11,.int .i64 i1)]∧SH w w' [Ch.own S2 (x1:List Int) [.slice p5 ln1 k5],Ch.own S1 (r1:List Tplace) [.slice p4 r1.length k4]]) n ⟨_,_,_,_,_,_,hF,rfl,h⟩ rfl ?_
 rintro m1 e1 w3 ⟨S2,p5,ln1,k5,x1,i1,hF,rfl,h⟩
 obtain rfl:=(h.sl 0 rfl).2
 rcases m1 with _|m1
 ·cases hF
 refine X0 5 rfl (qh rfl hF ?_ ?_)<;>intro hF
 ·refine X0 6 rfl ?_
  obtain ⟨y1,hy1,hF,he1,b1,_,q1,cs2,hp1,hq1,hr2,hc2⟩:=(h.sl 1 rfl).1.ix hF
  obtain rfl:=qe9 hr2
  refine zx hp1 hq1 ⟨he1.1,qJ he1.2.1 (h.sl 1 rfl).2⟩ rfl (zc 0 hc2 rfl (qx qb h rfl rfl rfl fun w4 bb2 h=>zp1 rfl (zs 0 h rfl fun w5 h=>X1 8 0 h rfl (qg (t:=20) hF rfl ?_ ?_))))<;>intro hF
  ·refine X1 8 0 h rfl (qh rfl hF ?_ ?_)<;>intro hF
   ·refine X0 3 rfl (qab qb [.tmp 26] _ ([i1]:List Int) h rfl rfl rfl rfl rfl rfl rfl rfl rfl ⟨rfl,trivial⟩ rfl fun w6 p6 S3 h=>?_)
    obtain ⟨x2,hx1,hF⟩:=qf hF
    obtain ⟨g1,hx1⟩:=qaY hx1
    refine qd1 qb 2 h rfl (h.sl 0 rfl).1 (h.sl 0 rfl).2 rfl rfl rfl rfl rfl rfl rfl rfl rfl g1 hx1 rfl fun w7 p7 k6 S4 h=>X0 7 rfl ?_
    replace h:=h.pick [2,3] rfl
    exact rK ⟨_,_,_,_,_,_,hF,rfl,h⟩ rfl
   refine X0 6 rfl ?_
   replace h:=h.pick [1,2] rfl
   exact rK ⟨_,_,_,_,_,_,hF,rfl,h⟩ rfl
  refine X0 5 rfl (qcO rfl rfl (X0 6 rfl ?_))
  replace h:=h.pick [1,2] rfl
  exact rK ⟨_,_,_,_,_,_,hF,rfl,h⟩ rfl
 refine qr rfl ?_
 obtain rfl:=qa hF;replace hF:=hK1
 refine X0 5 rfl ?_
 obtain rfl:=qa hF
 exact rO 0 h rfl ⟨rfl,trivial⟩
def qe2 (_:Nat) (d:qc) (l:qn) (p:Tplace):Option Int :=
 bif decide (p.instance_<0) then some 0 else
 (idx d.Aa p.instance_).bind fun y1 =>
 (idx l.Ak y1.Bl).bind fun y2 =>
 (idx y2.Am p.pin).bind fun y3 =>
 some y3.Bk
theorem qkb {d:qc} {l:qn} {p:Tplace} (ha1:GoT.R w (old w) d cs1) (ha2:GoT.R w (old w) l cs2) (ha3:GoT.R w (old w) p cs3) {r:Int} (hF:qe2 n d l p=some r):RetV Tryz.prog 244 [GoT.v qc cs1,GoT.v qn cs2,GoT.v Tplace cs3] w r:=by
 obtain ⟨p1,k1,p2,k2,p3,k3,rfl,s1,s2,s3⟩:=qad ha1
 obtain ⟨p4,k4,rfl,s4⟩:=qbd ha2
 obtain rfl:=qe9 ha3
 refine zV 27 Tryz.func244 rfl fun h=>zSR (qu h rfl rfl fun w1 bb1 h=>qu h rfl rfl fun w2 bb2 h=>qu h rfl rfl fun w3 bb3 h=>X1 9 0 h rfl (qh rfl hF ?_ ?_))<;>intro hF
 ·exact X0 4 rfl (ri h hF rfl)
 refine zKS (rD (Y1 2 1 h rfl ?_))
 refine Y1 2 2 h rfl ?_
 refine Y1 2 0 h rfl ?_
 obtain ⟨y1,hy1,hF,he1,b1,_,q1,cs4,hp1,hq1,hr1,hc2⟩:=s1.ix hF
 obtain ⟨p5,k5,rfl,s5⟩:=qM hr1
 refine zdxe hp1 hq1 he1 rfl (zd1 rfl (zdc 1 (hc2.below h.below) rfl ?_))
 obtain ⟨y2,hy2,hF,he2,b2,_,q2,cs5,hp2,hq2,hr2,hc3⟩:=s4.ix hF
 obtain ⟨p6,k6,p7,k7,p8,k8,rfl,s6,s7,s8⟩:=qU hr2
 refine zdxe hp2 hq2 he2 rfl (zd1 rfl (zdc 2 (hc3.below h.below) rfl (Y1 2 0 h rfl ?_)))
 obtain ⟨y3,hy3,hF,he3,b3,_,q3,cs6,hp3,hq3,hr3,hc4⟩:=s6.ix hF
 obtain rfl:=qau hr3
 exact zdxe hp3 hq3 he3 rfl (zd1 rfl (zdc 2 (hc4.below h.below) rfl (zd1 rfl (dN h fun w4 h=>ri h hF rfl))))
def qaP (y1:qw):Nat→(List Int)→Int→Option ((List Int) × Int)
 | 0,_,_=>none
 | n+1,x2,i2 =>
  bif decide (i2 > 0) then
   (idx y1.Ai i2).bind fun y7 =>
   (idx x2 y7).bind fun y8 =>
   (idx x2 i2).bind fun y9 =>
   (idx x2 y7).bind fun _ =>
   qaP y1 n (setS x2 y7 (W64 (y8+y9))) (W64 (i2-1))
  else
   some (x2,i2)
def qaJ (a_0:qk) (y1:qw) (r2:(List Tplace)) (r3:(List Int)):Nat→(List Int)→Int→Option ((List Int) × Int)
 | 0,_,_=>none
 | n+1,x1,i1 =>
  bif decide (i1<(r3.length:Int)) then
   (idx r3 i1).bind fun y2 =>
   (idx y1.Bg i1).bind fun y3 =>
   (idx x1 y3).bind fun y4 =>
   (idx r2 y2).bind fun y5 =>
   (qe2 n (⟨a_0.Ab.Aa,a_0.Ab.Ah,a_0.Ab.Af⟩:qc) (⟨a_0.Au.Ak⟩:qn) y5).bind fun r4 =>
   (idx x1 y3).bind fun _ =>
   qaJ a_0 y1 r2 r3 n (setS x1 y3 (W64 (y4+r4))) (W64 (i1+1))
  else
   some (x1,i1)
def qce (n:Nat) (a_0:qk) (a_1:Int):Option (List Int) :=
 (idx a_0.Ac a_1).bind fun y1 =>
 (qf2 n y1.Bk).bind fun r1 =>
 (qbv n (⟨a_0.Ab.Aa,a_0.Ab.Ah,a_0.Ab.Af⟩:qc)).bind fun r2 =>
 (qe3 n (⟨a_0.Ab.Aa,a_0.Ab.Ah,a_0.Ab.Af⟩:qc) a_1).bind fun r3 =>
 (qaJ a_0 y1 r2 r3 n r1 0).bind fun o=>match o with
 | (x1,_) =>
  (qaP y1 n x1 (W64 ((r1.length:Int)-1))).bind fun o=>match o with
  | (x2,_) =>
   some x2
theorem qdY {a_0:qk} {a_1:Int} (ha1:GoT.R w (old w) a_0 cs1) {r:(List Int)} (hF:qce n a_0 a_1=some r):RetV Tryz.prog 176 [GoT.v qk cs1,.int .i64 a_1] w r:=by
 obtain ⟨p1,k1,p2,k2,p3,k3,p4,k4,p5,k5,rfl,s1,s2,s3,s4,s5⟩:=qV ha1
 refine zV 74 Tryz.func176 rfl fun h=>zSR (qu h rfl rfl fun w1 bb1 h=>X1 7 0 h rfl ?_)
 obtain ⟨y1,hy1,hF,he1,b1,_,q1,cs2,hp1,hq1,hr1,hc1⟩:=s5.ix hF
 obtain ⟨p6,k6,p7,k7,p8,k8,p9,k9,rfl,s6,s7,s8,s9⟩:=qa0 hr1
 refine zxe hp1 hq1 he1 rfl (zc 0 (hc1.below h.below) rfl (qx qb h rfl rfl rfl fun w2 bb2 h=>zs 0 h rfl fun w3 h=>X1 5 0 h rfl (zcL h hF (qjF ⟨_,_,rfl,(h.oldS s8)⟩) rfl fun r1 w4 S1 p10 k10 h hF=>X1 6 2 h rfl (zcL h hF (qdn (qaG _ (h.oldS s2) (h.oldS s3) (h.oldS s4))) rfl fun r2 w5 S2 p11 k11 h hF=>X1 8 3 h rfl (zcL h hF (qjT (qaG _ (h.oldS s2) (h.oldS s3) (h.oldS s4))) rfl fun r3 w6 S3 p12 k12 h hF=>X0 3 rfl ?_)))))
 obtain ⟨o1,hF,hK1⟩:=qf hF
 refine ql (rL (fun m e w'=>∃ (x1:(List Int)) (i1:Int),qaJ a_0 y1 r2 r3 m x1 i1=some o1∧e=[(2,.pointer (some ⟨bb1,0,none⟩)),(5,.pointer (some ⟨bb2,0,none⟩)),(6,.slice p10 r1.length k10),(7,.slice p11 r2.length k11),(25,.slice p12 r3.length k12),(26,.int .i64 (r3.length:Int)),(27,.int .i64 i1)]∧SH w w' [Ch.own S3 (r3:List Int) [.slice p12 r3.length k12],Ch.own S2 (r2:List Tplace) [.slice p11 r2.length k11],Ch.own S1 (x1:List Int) [.slice p10 r1.length k10],Ch.box bb2 (qgE y1 p6 p7 p8 p9 k6 k7 k8 k9) 210,Ch.box bb1 (qaC a_0 p1 p2 p3 p4 p5 k1 k2 k3 k4 k5) 53]) n ⟨_,_,hF,rfl,h⟩ rfl ?_)
 rintro m1 e1 w7 ⟨x1,i1,hF,rfl,h⟩
 rcases m1 with _|m1
 ·cases hF
 refine X0 5 rfl (qh rfl hF ?_ ?_)<;>intro hF
 ·refine X0 6 rfl ?_
  obtain ⟨y2,hy2,hF,he2,b2,_,q2,cs3,hp2,hq2,rfl,hc3⟩:=(h.sl 0 rfl).1.ix hF
  refine zx hp2 hq2 ⟨he2.1,qJ he2.2.1 (h.sl 0 rfl).2⟩ rfl (zc 0 hc3 rfl (X0 3 rfl (rA [19] [1,2,3,4] h rfl fun w8 h=>M1 15 [0,1,2,3] 2 (h.pick [1,2,3,4] rfl) rfl ?_)))
  obtain ⟨y3,hy3,hF,he3,b3,_,q3,cs4,hp3,hq3,rfl,hc4⟩:=s9.ix hF
  refine Ae 4 31 hp3 hq3 he3 (h.pick [1,2,3,4] rfl) rfl (Al 5 63 0 hc4 (h.pick [1,2,3,4] rfl) rfl ?_)
  obtain ⟨y4,hy4,hF,he4,b4,_,q4,cs5,hp4,hq4,rfl,hc5⟩:=(h.sl 2 rfl).1.ix hF
  refine Ax 6 127 hp4 hq4 ⟨he4.1,qJ he4.2.1 (h.sl 2 rfl).2⟩ (h.pick [1,2,3,4] rfl) rfl (Aw 7 255 (fun w' hw=>qjs qb (qgQ (w1:=w) (S1:=fun _=>False) hw 1 rfl hy4 hp4 hq4 rfl) (j:=0) rfl rfl rfl) (h.pick [1,2,3,4] rfl) rfl ?_)
  refine M2 16383 [8,9,10,11,12,13] 3 3 (h.pick [1,2,3,4] rfl) rfl ?_
  obtain ⟨y5,hy5,hF,he5,b5,_,q5,cs6,hp5,hq5,hr8,hc6⟩:=(h.sl 1 rfl).1.ix hF
  obtain rfl:=qe9 hr8
  refine Ax 14 32767 hp5 hq5 ⟨he5.1,qJ he5.2.1 (h.sl 1 rfl).2⟩ (h.pick [1,2,3,4] rfl) rfl (Aw 15 65535 (fun w' hw=>qjs qb (qgQ hw 0 rfl hy5 hp5 hq5 (qim (w:=w) (S:=fun _=>False) y5)) (j:=0) rfl rfl rfl) (h.pick [1,2,3,4] rfl) rfl ?_)
  refine Ao 16 131071 rfl (zcI h hF (qkb (qaG _ (h.oldS s2) (h.oldS s3) (h.oldS s4)) (qdD _ (h.oldS s1)) (qim y5)) rfl fun r4 w9 h hF=>G0 262143 [17] (h.pick [1,2,3,4] rfl) rfl ?_)
  obtain ⟨y6,hy6,hF,he6,b6,_,q6,cs7,hp6,hq6,rfl,hc7⟩:=(h.sl 2 rfl).1.ix hF
  exact Ax 18 524287 hp6 hq6 ⟨he6.1,qJ he6.2.1 (h.sl 2 rfl).2⟩ (h.pick [1,2,3,4] rfl) rfl (Ao 19 1048575 rfl (qaS qb 2 0 (W64 (y4+r4)) h rfl hy6 hp6 hq6 rfl hc7 rfl rfl rfl rfl rfl rfl rfl fun w10 h=>qia (fun hs=>absurd (hs 19 (by decide)) (by decide)) (Ad (X0 5 rfl (rK ⟨_,_,hF,rfl,h⟩ rfl)))))
 refine qr rfl ?_
 obtain rfl:=qa hF;replace hF:=hK1
 refine X0 8 rfl ?_
 obtain ⟨o2,hF,hK2⟩:=qf hF
 refine ql ?_
 replace h:=h.pick [2,3] rfl
 refine rL (fun m e w'=>∃ (x2:(List Int)) (i2:Int),qaP y1 m x2 i2=some o2∧e=[(5,.pointer (some ⟨bb2,0,none⟩)),(6,.slice p10 r1.length k10),(10,.int .i64 i2)]∧SH w w' [Ch.own S1 (x2:List Int) [.slice p10 r1.length k10],Ch.box bb2 (qgE y1 p6 p7 p8 p9 k6 k7 k8 k9) 210]) n ⟨_,_,hF,rfl,h⟩ rfl ?_
 rintro m2 e2 w11 ⟨x2,i2,hF,rfl,h⟩
 rcases m2 with _|m2
 ·cases hF
 refine X0 6 rfl (qh rfl hF ?_ ?_)<;>intro hF
 ·refine zKSB (rA [14] [0,1] h rfl fun w12 h=>M1 15 [0,1,2,3] 1 (h.pick [0,1] rfl) rfl ?_)
  obtain ⟨y7,hy7,hF,he7,b7,_,q7,cs8,hp7,hq7,rfl,hc9⟩:=s6.ix hF
  refine Ae 4 31 hp7 hq7 he7 (h.pick [0,1] rfl) rfl (Al 5 63 0 hc9 (h.pick [0,1] rfl) rfl ?_)
  obtain ⟨y8,hy8,hF,he8,b8,_,q8,cs9,hp8,hq8,rfl,hc10⟩:=(h.sl 0 rfl).1.ix hF
  refine Ax 6 127 hp8 hq8 ⟨he8.1,qJ he8.2.1 (h.sl 0 rfl).2⟩ (h.pick [0,1] rfl) rfl (Aw 7 255 (fun w' hw=>qjs qb (qgQ (w1:=w) (S1:=fun _=>False) hw 0 rfl hy8 hp8 hq8 rfl) (j:=0) rfl rfl rfl) (h.pick [0,1] rfl) rfl ?_)
  refine M0 1023 [8,9] (h.pick [0,1] rfl) rfl ?_
  obtain ⟨y9,hy9,hF,he9,b9,_,q9,cs10,hp9,hq9,rfl,hc11⟩:=(h.sl 0 rfl).1.ix hF
  refine Ax 10 2047 hp9 hq9 ⟨he9.1,qJ he9.2.1 (h.sl 0 rfl).2⟩ (h.pick [0,1] rfl) rfl (Aw 11 4095 (fun w' hw=>qjs qb (qgQ (w1:=w) (S1:=fun _=>False) hw 0 rfl hy9 hp9 hq9 rfl) (j:=0) rfl rfl rfl) (h.pick [0,1] rfl) rfl ?_)
  refine M0 8191 [12] (h.pick [0,1] rfl) rfl ?_
  obtain ⟨y10,hy10,hF,he10,b10,_,q10,cs11,hp10,hq10,rfl,hc12⟩:=(h.sl 0 rfl).1.ix hF
  exact Ax 13 16383 hp10 hq10 ⟨he10.1,qJ he10.2.1 (h.sl 0 rfl).2⟩ (h.pick [0,1] rfl) rfl (Ao 14 32767 rfl (qaS qb 0 0 (W64 (y8+y9)) h rfl hy10 hp10 hq10 rfl hc12 rfl rfl rfl rfl rfl rfl rfl fun w13 h=>qia (fun hs=>absurd (hs 14 (by decide)) (by decide)) (Ad (X0 6 rfl (rK ⟨_,_,hF,rfl,h⟩ rfl)))))
 refine qr rfl ?_
 obtain rfl:=qa hF;replace hF:=hK2
 refine X0 5 rfl ?_
 obtain rfl:=qa hF
 exact rO 0 h rfl ⟨rfl,trivial⟩
def qa3 (y1:qw) (r1:(List Int)) (x1:(List Int)):Nat→(List Int)→Int→Option ((List Int) × Int)
 | 0,_,_=>none
 | n+1,x2,i1 =>
  bif decide (i1<(x1.length:Int)) then
   (idx y1.Ai i1).bind fun y2 =>
   (idx x2 y2).bind fun y3 =>
   (idx y1.Bn i1).bind fun y4 =>
   (idx r1 i1).bind fun y5 =>
   (idx x2 i1).bind fun _ =>
   qa3 y1 r1 x1 n (setS x2 i1 (W64 (y3+(W64 (y4*y5))))) (W64 (i1+1))
  else
   some (x2,i1)
def qdm (n:Nat) (b:qk) (net:Int):Option (List Int) :=
 (idx b.Ac net).bind fun y1 =>
 (qce n b net).bind fun r1 =>
 (mkS (r1.length:Int) (0:Int)).bind fun x1 =>
 (qa3 y1 r1 x1 n x1 1).bind fun o=>match o with
 | (x2,_) =>
  some x2
theorem qiW {b:qk} {net:Int} (ha1:GoT.R w (old w) b cs1) {r:(List Int)} (hF:qdm n b net=some r):RetV Tryz.prog 245 [GoT.v qk cs1,.int .i64 net] w r:=by
 obtain ⟨p1,k1,p2,k2,p3,k3,p4,k4,p5,k5,rfl,s1,s2,s3,s4,s5⟩:=qV ha1
 refine zV 49 Tryz.func245 rfl fun h=>zSR (qu h rfl rfl fun w1 bb1 h=>X0 3 rfl (rA [] [0] h rfl fun w2 h=>M1 7 [0,1,2] 0 (h.pick [0] rfl) rfl ?_))
 obtain ⟨y1,hy1,hF,he1,b1,_,q1,cs2,hp1,hq1,hr1,hc1⟩:=s5.ix hF
 obtain ⟨p6,k6,p7,k7,p8,k8,p9,k9,rfl,s6,s7,s8,s9⟩:=qa0 hr1
 refine Ae 3 15 hp1 hq1 he1 (h.pick [0] rfl) rfl (Al 4 31 0 hc1 (h.pick [0] rfl) rfl (M1 127 [5,6] 0 (h.pick [0] rfl) rfl ?_))
 obtain ⟨r1,hr2,hF⟩:=qf hF
 refine qo9 (fun e w'=>∃ (bb6:Nat) (S5:Nat→Prop) (p14:Option Addr) (k14:Nat),e=[(5,.pointer (some ⟨bb6,0,none⟩)),(6,.slice p14 r1.length k14)]∧SH w w' [Ch.box bb6 (qgE y1 p6 p7 p8 p9 k6 k7 k8 k9) 210,Ch.own S5 (r1:List Int) [.slice p14 r1.length k14],Ch.box bb1 (qaC b p1 p2 p3 p4 p5 k1 k2 k3 k4 k5) 53]) 0 (bits 11 2047) ?_ ?_
 ·intro K
  refine At 7 8 255 383 rfl ?_ ?_
  ·exact qoV r1 h (cB 176 rfl) (qdY (h.old ha1) hr2) rfl rfl rfl rfl fun w10 S4 p13 k13 h=>Ag (h.pick [1] rfl) (Ao 8 511 rfl (qx qb h rfl rfl rfl fun w11 bb5 h=>Ag (h.pick [2] rfl) (Ao 9 1023 rfl (zs 0 h rfl fun w12 h=>G0 2047 [10] (h.pick [2] rfl) rfl (qoo [(5,_),(6,_)] ⟨rfl,rfl,trivial⟩ (K _ _ ⟨_,_,_,_,rfl,h⟩))))))
  refine qx qb h rfl rfl rfl fun w10 bb5 h=>Ag (h.pick [1] rfl) (Ao 7 511 rfl (qoV r1 h (cB 176 rfl) (qdY (h.old ha1) hr2) rfl rfl rfl rfl fun w11 S4 p13 k13 h=>Ag (h.pick [2] rfl) (Ao 9 1023 rfl (zs 1 h rfl fun w12 h=>G0 2047 [10] (h.pick [2] rfl) rfl ?_))))
  replace h:=h.pick [1,0,2] rfl
  exact qoo [(5,_),(6,_)] ⟨rfl,rfl,trivial⟩ (K _ _ ⟨_,_,_,_,rfl,h⟩)
 rintro e2 w13 ⟨bb6,S5,p14,k14,rfl,h⟩
 refine Ad (X0 4 rfl ?_)
 obtain ⟨x1,hx1,hF⟩:=qf hF
 obtain ⟨g1,g2,hx1⟩:=qbM hx1
 refine qcT qb Int h rfl rfl rfl rfl rfl rfl rfl rfl rfl g1 g2 hx1 rfl fun w14 S6 p15 h=>X0 7 rfl ?_
 obtain ⟨o1,hF,hK1⟩:=qf hF
 refine ql ?_
 replace h:=h.pick [0,1,2] rfl
 refine rL (fun m e w'=>∃ (x2:(List Int)) (i1:Int),qa3 y1 r1 x1 m x2 i1=some o1∧e=[(5,.pointer (some ⟨bb6,0,none⟩)),(6,.slice p14 r1.length k14),(7,.slice p15 x1.length x1.length),(8,.int .i64 i1)]∧SH w w' [Ch.own S6 (x2:List Int) [.slice p15 x1.length x1.length],Ch.box bb6 (qgE y1 p6 p7 p8 p9 k6 k7 k8 k9) 210,Ch.own S5 (r1:List Int) [.slice p14 r1.length k14]]) n ⟨_,_,hF,rfl,h⟩ rfl ?_
 rintro m1 e3 w15 ⟨x2,i1,hF,rfl,h⟩
 rcases m1 with _|m1
 ·cases hF
 refine X0 8 rfl (qh rfl hF ?_ ?_)<;>intro hF
 ·refine zKSB (rA [22] [0,1,2] h rfl fun w16 h=>M1 63 [0,1,2,3,4,5] 1 (h.pick [0,1,2] rfl) rfl ?_)
  obtain ⟨y2,hy2,hF,he2,b2,_,q2,cs3,hp2,hq2,rfl,hc3⟩:=s6.ix hF
  refine Ae 6 127 hp2 hq2 he2 (h.pick [0,1,2] rfl) rfl (Al 7 255 0 hc3 (h.pick [0,1,2] rfl) rfl ?_)
  obtain ⟨y3,hy3,hF,he3,b3,_,q3,cs4,hp3,hq3,rfl,hc4⟩:=(h.sl 0 rfl).1.ix hF
  refine Ax 8 511 hp3 hq3 ⟨he3.1,qJ he3.2.1 (h.sl 0 rfl).2⟩ (h.pick [0,1,2] rfl) rfl (Aw 9 1023 (fun w' hw=>qjs qb (qgQ (w1:=w) (S1:=fun _=>False) hw 0 rfl hy3 hp3 hq3 rfl) (j:=0) rfl rfl rfl) (h.pick [0,1,2] rfl) rfl ?_)
  refine M1 8191 [10,11,12] 1 (h.pick [0,1,2] rfl) rfl ?_
  obtain ⟨y4,hy4,hF,he4,b4,_,q4,cs5,hp4,hq4,rfl,hc5⟩:=s7.ix hF
  refine Ae 13 16383 hp4 hq4 he4 (h.pick [0,1,2] rfl) rfl (Al 14 32767 0 hc5 (h.pick [0,1,2] rfl) rfl (M0 131071 [15,16] (h.pick [0,1,2] rfl) rfl ?_))
  obtain ⟨y5,hy5,hF,he5,b5,_,q5,cs6,hp5,hq5,rfl,hc6⟩:=(h.sl 2 rfl).1.ix hF
  refine Ax 17 262143 hp5 hq5 ⟨he5.1,qJ he5.2.1 (h.sl 2 rfl).2⟩ (h.pick [0,1,2] rfl) rfl (Aw 18 524287 (fun w' hw=>qjs qb (qgQ (w1:=w) (S1:=fun _=>False) hw 2 rfl hy5 hp5 hq5 rfl) (j:=0) rfl rfl rfl) (h.pick [0,1,2] rfl) rfl ?_)
  refine M0 2097151 [19,20] (h.pick [0,1,2] rfl) rfl ?_
  obtain ⟨y6,hy6,hF,he6,b6,_,q6,cs7,hp6,hq6,rfl,hc7⟩:=(h.sl 0 rfl).1.ix hF
  exact Ax 21 4194303 hp6 hq6 ⟨he6.1,qJ he6.2.1 (h.sl 0 rfl).2⟩ (h.pick [0,1,2] rfl) rfl (Ao 22 8388607 rfl (qaS qb 0 0 (W64 (y3+(W64 (y4*y5)))) h rfl hy6 hp6 hq6 rfl hc7 rfl rfl rfl rfl rfl rfl rfl fun w17 h=>qia (fun hs=>absurd (hs 22 (by decide)) (by decide)) (Ad (X0 6 rfl (rK ⟨_,_,hF,rfl,h⟩ rfl)))))
 refine qr rfl ?_
 obtain rfl:=qa hF;replace hF:=hK1
 refine X0 5 rfl ?_
 obtain rfl:=qa hF
 exact rO 0 h rfl ⟨rfl,trivial⟩
def qar (r1:(List Int)) (y1:qw):Nat→(List Int)→Int→Option ((List Int) × Int)
 | 0,_,_=>none
 | n+1,x1,i1 =>
  bif decide (i1<(y1.Bg.length:Int)) then
   (idx y1.Bg i1).bind fun y2 =>
   (idx r1 y2).bind fun y3 =>
   (appS x1 ([y3]:List Int)).bind fun x2 =>
   qar r1 y1 n x2 (W64 (i1+1))
  else
   some (x1,i1)
def qcP (n:Nat) (b:qk) (net:Int):Option (List Int) :=
 (qdm n b net).bind fun r1 =>
 (idx b.Ac net).bind fun y1 =>
 (qar r1 y1 n ([]:List Int) 0).bind fun o=>match o with
 | (x1,_) =>
  some x1
theorem qiB {b:qk} {net:Int} (ha1:GoT.R w (old w) b cs1) {r:(List Int)} (hF:qcP n b net=some r):RetV Tryz.prog 177 [GoT.v qk cs1,.int .i64 net] w r:=by
 obtain ⟨p1,k1,p2,k2,p3,k3,p4,k4,p5,k5,rfl,s1,s2,s3,s4,s5⟩:=qV ha1
 refine zV 32 Tryz.func177 rfl fun h=>zSR (qu h rfl rfl fun w1 bb1 h=>X1 6 0 h rfl (zcL h hF (qiW (h.old ha1)) rfl fun r1 w2 S1 p6 k6 h hF=>X1 12 1 h rfl ?_))
 obtain ⟨y1,hy1,hF,he1,b1,_,q1,cs2,hp1,hq1,hr2,hc1⟩:=s5.ix hF
 obtain ⟨p7,k7,p8,k8,p9,k9,p10,k10,rfl,s6,s7,s8,s9⟩:=qa0 hr2
 refine zxe hp1 hq1 he1 rfl (zp1 rfl (zc 3 (hc1.below h.below) rfl (X0 3 rfl ?_)))
 replace h:=h.nil (α:=Int)
 obtain ⟨o1,hF,hK1⟩:=qf hF
 refine ql ?_
 replace h:=h.pick [0,1] rfl
 refine rL (fun m e w'=>∃ (S2:Nat→Prop) (p11:Option Addr) (ln1:Nat) (k11:Nat) (x1:(List Int)) (i1:Int),qar r1 y1 m x1 i1=some o1∧e=[(5,.slice p6 r1.length k6),(6,.slice p11 ln1 k11),(17,.slice p10 y1.Bg.length k10),(18,.int .i64 (y1.Bg.length:Int)),(19,.int .i64 i1)]∧SH w w' [Ch.own S2 (x1:List Int) [.slice p11 ln1 k11],Ch.own S1 (r1:List Int) [.slice p6 r1.length k6]]) n ⟨_,_,_,_,_,_,hF,rfl,h⟩ rfl ?_
 rintro m1 e1 w3 ⟨S2,p11,ln1,k11,x1,i1,hF,rfl,h⟩
 obtain rfl:=(h.sl 0 rfl).2
 rcases m1 with _|m1
 ·cases hF
 refine X0 5 rfl (qh rfl hF ?_ ?_)<;>intro hF
 ·refine zKSBSR ?_
  obtain ⟨y2,hy2,hF,he2,b2,_,q2,cs3,hp2,hq2,rfl,hc3⟩:=s9.ix hF
  refine zxe hp2 hq2 he2 rfl (zc 0 (hc3.below h.below) rfl (X0 6 rfl ?_))
  obtain ⟨y3,hy3,hF,he3,b3,_,q3,cs4,hp3,hq3,rfl,hc4⟩:=(h.sl 1 rfl).1.ix hF
  refine zx hp3 hq3 ⟨he3.1,qJ he3.2.1 (h.sl 1 rfl).2⟩ rfl (zc 0 hc4 rfl (qab qb [.tmp 27] _ ([y3]:List Int) h rfl rfl rfl rfl rfl rfl rfl rfl rfl ⟨rfl,trivial⟩ rfl fun w4 p12 S3 h=>?_))
  obtain ⟨x2,hx1,hF⟩:=qf hF
  obtain ⟨g1,hx1⟩:=qaY hx1
  refine qd1 qb 1 h rfl (h.sl 0 rfl).1 (h.sl 0 rfl).2 rfl rfl rfl rfl rfl rfl rfl rfl rfl g1 hx1 rfl fun w5 p13 k12 S4 h=>X0 7 rfl ?_
  replace h:=h.pick [1,2] rfl
  exact rK ⟨_,_,_,_,_,_,hF,rfl,h⟩ rfl
 refine qr rfl ?_
 obtain rfl:=qa hF;replace hF:=hK1
 refine X0 5 rfl ?_
 obtain rfl:=qa hF
 exact rO 0 h rfl ⟨rfl,trivial⟩
end Go.Fw


namespace Go.Fw
open Go Go.Proofs
open Go.RowKit (Below)
set_option maxRecDepth 100000
set_option maxHeartbeats 1600000
variable {n:Nat} {w:World} {cs1 cs2 cs3 cs4 cs5 cs6 cs7 cs8 cs9:List Value}
def qcD (x6:(List Int)) (i4:Int) (i5:Int) (y7:Int):Nat→(List qaa)→Int→Option ((List qaa) × Int)
 | 0,_,_=>none
 | n+1,x14,i6 =>
  bif decide (i6<2) then
   (idx x6 i4).bind fun y8 =>
   (appS x14 ([(⟨W64 ((W64 (2*y8))+i6),W64 ((W64 (2*y7))+i6),2,i5⟩:qaa)]:List qaa)).bind fun x15 =>
   qcD x6 i4 i5 y7 n x15 (W64 (i6+1))
  else
   some (x14,i6)
def qcE (x6:(List Int)) (i4:Int) (y6:(List Int)):Nat→(List qaa)→Int→Option ((List qaa) × Int)
 | 0,_,_=>none
 | n+1,x13,i5 =>
  bif decide (i5<(y6.length:Int)) then
   (idx y6 i5).bind fun y7 =>
   (qcD x6 i4 i5 y7 n x13 0).bind fun o=>match o with
   | (x14,_) =>
    qcE x6 i4 y6 n x14 (W64 (i5+1))
  else
   some (x13,i5)
def qcB (a_0:qk) (x5:(List (List Int))) (x6:(List Int)):Nat→(List (List Int))→(List Int)→(List qaa)→Int→Option ((List (List Int)) × (List Int) × (List qaa) × Int)
 | 0,_,_,_,_=>none
 | n+1,x8,x9,x10,i4 =>
  bif decide (i4<(a_0.Ac.length:Int)) then
   (qce n a_0 i4).bind fun r4 =>
   (idx r4 0).bind fun y5 =>
   (appS x9 ([y5]:List Int)).bind fun x11 =>
   (qcP n a_0 i4).bind fun r5 =>
   (appS x8 ([r5]:List (List Int))).bind fun x12 =>
   (idx x5 i4).bind fun y6 =>
   (qcE x6 i4 y6 n x10 0).bind fun o=>match o with
   | (x13,_) =>
    qcB a_0 x5 x6 n x12 x11 x13 (W64 (i4+1))
  else
   some (x8,x9,x10,i4)
def qbY (r1:(List Tplace)):Nat→(List (List Int))→(List Int)→Int→Option ((List (List Int)) × (List Int) × Int)
 | 0,_,_,_=>none
 | n+1,x5,x6,i3 =>
  bif decide (i3<(r1.length:Int)) then
   (idx r1 i3).bind fun y2 =>
   bif y2.drives then
    (idx x6 y2.net).bind fun _ =>
    qbY r1 n x5 (setS x6 y2.net i3) (W64 (i3+1))
   else
    (idx x5 y2.net).bind fun y4 =>
    (appS y4 ([i3]:List Int)).bind fun x7 =>
    qbY r1 n (setS x5 y2.net x7) x6 (W64 (i3+1))
  else
   some (x5,x6,i3)
def qcz (a_0:qk):Nat→(List qaa)→Int→Int→Option ((List qaa) × Int × Int)
 | 0,_,_,_=>none
 | n+1,x1,i1,i2 =>
  bif decide (i2<(a_0.Ab.Aa.length:Int)) then
   (idx a_0.Ab.Aa i2).bind fun y1 =>
   (qdC n a_0 y1 i1).bind fun r2 =>
   (appS x1 r2).bind fun x2 =>
   (qaR n y1.Ah).bind fun r3 =>
   qcz a_0 n x2 (W64 (i1+r3)) (W64 (i2+1))
  else
   some (x1,i1,i2)
def qhS (n:Nat) (a_0:qk):Option (Option Tview) :=
 (qbv n (⟨a_0.Ab.Aa,a_0.Ab.Ah,a_0.Ab.Af⟩:qc)).bind fun r1 =>
 (qcz a_0 n ([]:List qaa) 0 0).bind fun o=>match o with
 | (x1,_,_) =>
  (mkS (a_0.Ac.length:Int) (0:Int)).bind fun x3 =>
  (mkS (a_0.Ac.length:Int) ([]:(List Int))).bind fun x4 =>
  (qbY r1 n x4 x3 0).bind fun o=>match o with
  | (x5,x6,_) =>
   (qcB a_0 x5 x6 n ([]:List (List Int)) ([]:List Int) x1 0).bind fun o=>match o with
   | (x8,x9,x10,_) =>
    some (some (⟨(⟨(⟨a_0.Au.Ak⟩:qn),(⟨a_0.Ab.Aa,a_0.Ab.Ah,a_0.Ab.Af⟩:qc),a_0.Ac⟩:qk),r1,x10,x9,x8,[]⟩:Tview))
theorem qmv {A:Nat→Prop} (hA:∀ b,A b→old w b) {a_0:qk} (ha1:GoT.R w A a_0 cs1) {r:(Option Tview)} (hF:qhS n a_0=some r):RetG Tryz.prog 101 [GoT.v qk cs1] w A r:=by
 obtain ⟨p1,k1,p2,k2,p3,k3,p4,k4,p5,k5,rfl,s1,s2,s3,s4,s5⟩:=qV ha1
 have hg:=Rg.start hA
 refine qme Tryz.func101 rfl (m:=156) rfl rfl (fun h=>?_)
 refine zSR (qu h rfl rfl fun w1 bb1 h=>X0 3 rfl (rA [] [0] h rfl fun w2 h=>M2 7 [0,1,2] 0 0 (h.pick [0] rfl) rfl (Ao 3 15 rfl (zcL h hF (qdn (qaG _ (h.oldS (s2.mono hg.old)) (h.oldS (s3.mono hg.old)) (h.oldS (s4.mono hg.old)))) rfl fun r1 w3 S1 p6 k6 h hF=>Ag (h.pick [1] rfl) (Aw 4 31 (fun w' hw=>qdO qb [0,1] [.tmp 15,.tmp 18] rfl rfl rfl rfl rfl rfl rfl rfl) (h.pick [1] rfl) rfl ?_)))))
 refine Ao 5 63 rfl (qu h rfl rfl fun w4 bb2 h=>G0 127 [6] (h.pick [2] rfl) rfl (Ad (X1 13 2 h rfl ?_)))
 replace h:=h.nil (α:=qaa)
 obtain ⟨o1,hF,hK1⟩:=qf hF
 refine ql (rL (fun m e w'=>∃ (S2:Nat→Prop) (p7:Option Addr) (ln1:Nat) (k7:Nat) (x1:(List qaa)) (i1:Int) (i2:Int),qcz a_0 m x1 i1 i2=some o1∧e=[(1,.pointer (some ⟨bb1,0,none⟩)),(3,.pointer (some ⟨bb2,0,none⟩)),(4,.int .i64 i1),(23,.slice p2 a_0.Ab.Aa.length k2),(24,.int .i64 (a_0.Ab.Aa.length:Int)),(25,.int .i64 i2)]∧SH w w' [Ch.own S2 (x1:List qaa) [.slice p7 ln1 k7],Ch.box bb2 [.slice p1 a_0.Au.Ak.length k1,.slice p2 a_0.Ab.Aa.length k2,.slice p3 a_0.Ab.Ah.length k3,.slice p4 a_0.Ab.Af.length k4,.slice p5 a_0.Ac.length k5,.slice p6 r1.length k6,.slice p7 ln1 k7,.slice none 0 0,.slice none 0 0,.slice none 0 0] 155,Ch.own S1 (r1:List Tplace) [.slice p6 r1.length k6],Ch.box bb1 (qaC a_0 p1 p2 p3 p4 p5 k1 k2 k3 k4 k5) 53]) n ⟨_,_,_,_,_,_,_,hF,rfl,h⟩ rfl ?_)
 rintro m1 e1 w5 ⟨S2,p7,ln1,k7,x1,i1,i2,hF,rfl,h⟩
 obtain rfl:=(h.sl 0 rfl).2
 rcases m1 with _|m1
 ·cases hF
 refine X0 5 rfl (qh rfl hF ?_ ?_)<;>intro hF
 ·refine zKSBSR ?_
  obtain ⟨y1,hy1,hF,he1,b1,_,q1,cs2,hp1,hq1,hr2,hc2⟩:=s2.ix hF
  obtain ⟨p8,k8,rfl,s6⟩:=qM hr2
  refine zxe hp1 hq1 he1 rfl (zc 0 (hc2.below h.below) rfl (qx qb h rfl rfl rfl fun w6 bb3 h=>zs 0 h rfl fun w7 h=>zNS (rA [12] [0,2,4] h rfl fun w8 h=>M3 255 [0,1,2,3,4,5,6,7] 1 2 0 (h.pick [0,2,4] rfl) rfl (Ao 8 511 rfl (zcL h hF (qi5 (h.old (GoT.mono ha1 hg.old)) (qeS y1 (h.oldS (s6.mono hg.old)))) rfl fun r2 w9 S3 p9 k9 h hF=>Ag (h.pick [1,3,5] rfl) (Ao 9 1023 rfl ?_))))))
  obtain ⟨x2,hx1,hF⟩:=qf hF
  obtain ⟨g1,hx1⟩:=qaY hx1
  refine qd1 qb 2 h rfl (h.sl 0 rfl).1 (h.sl 0 rfl).2 rfl rfl rfl rfl rfl rfl rfl rfl rfl g1 hx1 rfl fun w10 p10 k10 S4 h=>Ag (h.pick [1,3,5] rfl) (Ao 10 2047 rfl (zp1 rfl (G0 4095 [11] (h.pick [1,3,5] rfl) rfl (Ao 12 8191 rfl (zs 3 h rfl fun w11 h=>qia (fun hs=>absurd (hs 12 (by decide)) (by decide)) (Ad (X1 4 1 h rfl (zcI h hF (qby ⟨_,_,rfl,(h.oldS (s6.mono hg.old))⟩) rfl fun r3 w12 h hF=>X0 8 rfl ?_))))))))
  replace h:=h.pick [2,3,4,5] rfl
  exact rK ⟨_,_,_,_,_,_,_,hF,rfl,h⟩ rfl
 refine qr rfl ?_
 obtain rfl:=qa hF;replace hF:=hK1
 refine X1 5 3 h rfl ?_
 obtain ⟨x3,hx2,hF⟩:=qf hF
 obtain ⟨g2,g3,hx2⟩:=qbM hx2
 refine qcT qb Int h rfl rfl rfl rfl rfl rfl rfl rfl rfl g2 g3 hx2 rfl fun w13 S5 p11 h=>X1 7 4 h rfl ?_
 obtain ⟨x4,hx3,hF⟩:=qf hF
 obtain ⟨g4,g5,hx3⟩:=qbM hx3
 refine qcT qb (List Int) h rfl rfl rfl rfl rfl rfl rfl rfl rfl g4 g5 hx3 rfl fun w14 S6 p12 h=>X1 12 3 h rfl ?_
 obtain ⟨o2,hF,hK2⟩:=qf hF
 refine ql (rL (fun m e w'=>∃ (S7:Nat→Prop) (x5:(List (List Int))) (x6:(List Int)) (i3:Int),qbY r1 m x5 x6 i3=some o2∧e=[(1,.pointer (some ⟨bb1,0,none⟩)),(3,.pointer (some ⟨bb2,0,none⟩)),(7,.slice p11 x3.length x3.length),(8,.slice p12 x4.length x4.length),(58,.slice p6 r1.length k6),(59,.int .i64 (r1.length:Int)),(60,.int .i64 i3)]∧SH w w' [Ch.own S7 (x5:List (List Int)) [.slice p12 x4.length x4.length],Ch.own S5 (x6:List Int) [.slice p11 x3.length x3.length],Ch.own S2 (x1:List qaa) [.slice p7 x1.length k7],Ch.box bb2 [.slice p1 a_0.Au.Ak.length k1,.slice p2 a_0.Ab.Aa.length k2,.slice p3 a_0.Ab.Ah.length k3,.slice p4 a_0.Ab.Af.length k4,.slice p5 a_0.Ac.length k5,.slice p6 r1.length k6,.slice p7 x1.length k7,.slice none 0 0,.slice none 0 0,.slice none 0 0] 155,Ch.own S1 (r1:List Tplace) [.slice p6 r1.length k6],Ch.box bb1 (qaC a_0 p1 p2 p3 p4 p5 k1 k2 k3 k4 k5) 53]) n ⟨_,_,_,_,hF,rfl,h⟩ rfl ?_)
 rintro m2 e2 w15 ⟨S7,x5,x6,i3,hF,rfl,h⟩
 rcases m2 with _|m2
 ·cases hF
 refine X0 5 rfl (qh rfl hF ?_ ?_)<;>intro hF
 ·refine X0 6 rfl ?_
  obtain ⟨y2,hy2,hF,he2,b2,_,q2,cs3,hp2,hq2,hr5,hc4⟩:=(h.sl 4 rfl).1.ix hF
  obtain rfl:=qe9 hr5
  refine zx hp2 hq2 ⟨he2.1,qJ he2.2.1 (h.sl 4 rfl).2⟩ rfl (zc 0 hc4 rfl (qx qb h rfl rfl rfl fun w16 bb4 h=>zp1 rfl (zs 0 h rfl fun w17 h=>X1 6 0 h rfl (qh rfl hF ?_ ?_))))<;>intro hF
  ·refine X1 5 0 h rfl ?_
   obtain ⟨y3,hy3,hF,he3,b3,_,q3,cs4,hp3,hq3,rfl,hc6⟩:=(h.sl 2 rfl).1.ix hF
   refine zx hp3 hq3 ⟨he3.1,qJ he3.2.1 (h.sl 2 rfl).2⟩ rfl (qaS qb 2 0 i3 h rfl hy3 hp3 hq3 rfl hc6 rfl rfl rfl rfl rfl rfl rfl fun w18 h=>X0 6 rfl ?_)
   replace h:=h.pick [1,2,3,4,5,6] rfl
   exact rK ⟨_,_,_,_,hF,rfl,h⟩ rfl
  obtain ⟨y4,hy4,hF⟩:=qf hF
  have he4:=qcf hy4
  replace h:=h.pick [1,0,2,3,4,5,6] rfl
  obtain ⟨S8,S9,cs5,h⟩:=h.take hy4
  obtain ⟨p13,k11,rfl,-⟩:=h.own 0 rfl
  refine rA [12] [1,2] h rfl fun w19 h=>M2 63 [0,1,2,3,4,5] 1 1 (h.pick [1,2] rfl) rfl ?_
  obtain ⟨b4,hp4,-,-,hl2⟩:=h.holeAt 1 rfl
  obtain ⟨q4,hq4⟩:∃ q,q=0+(y2.net).toNat*GoT.k (List Int):=⟨_,rfl⟩
  refine Ax 6 127 hp4 hq4 ⟨he4.1,qJ he4.2.1 hl2⟩ (h.pick [1,2] rfl) rfl (Aw 7 255 (fun w' hw=>qjs qb (qbR hw 0 rfl hp4 hq4) (j:=0) rfl rfl rfl) (h.pick [1,2] rfl) rfl ?_)
  refine M0 511 [8] (h.pick [1,2] rfl) rfl (Ao 9 1023 rfl (qab qb [.tmp 80] _ ([i3]:List Int) h rfl rfl rfl rfl rfl rfl rfl rfl rfl ⟨rfl,trivial⟩ rfl fun w20 p14 S10 h=>Ag (h.pick [2,3] rfl) (Ao 10 2047 rfl ?_)))
  obtain ⟨x7,hx4,hF⟩:=qf hF
  obtain ⟨g6,hx4⟩:=qaY hx4
  refine qd1 qb 1 h rfl (h.sl 0 rfl).1 (h.sl 0 rfl).2 rfl rfl rfl rfl rfl rfl rfl rfl rfl g6 hx4 rfl fun w21 p15 k12 S11 h=>Ag (h.pick [2,3] rfl) ?_
  obtain ⟨b5,hp5,-,-,hl4⟩:=h.holeAt 2 rfl
  obtain ⟨q5,hq5⟩:∃ q,q=0+(y2.net).toNat*GoT.k (List Int):=⟨_,rfl⟩
  refine Ax 11 4095 hp5 hq5 ⟨he4.1,qJ he4.2.1 hl4⟩ (h.pick [2,3] rfl) rfl (Ao 12 8191 rfl (qe7 qb 2 0 h rfl hp5 hq5 rfl rfl rfl rfl rfl rfl fun w22 h=>?_))
  replace h:SH _ _ [Ch.own S10 (([i3]:List Int):List Int) [.slice p14 1 1],Ch.own S11 (x7:List Int) [.slice p15 x7.length k12],Ch.hole S9 (x5:List (List Int)) p12 x4.length x4.length (y2.net).toNat [.slice p15 x7.length k12],Ch.box bb4 (qng y2) 244,Ch.own S5 (x6:List Int) [.slice p11 x3.length x3.length],Ch.own S2 (x1:List qaa) [.slice p7 x1.length k7],Ch.box bb2 [.slice p1 a_0.Au.Ak.length k1,.slice p2 a_0.Ab.Aa.length k2,.slice p3 a_0.Ab.Ah.length k3,.slice p4 a_0.Ab.Af.length k4,.slice p5 a_0.Ac.length k5,.slice p6 r1.length k6,.slice p7 x1.length k7,.slice none 0 0,.slice none 0 0,.slice none 0 0] 155,Ch.own S1 (r1:List Tplace) [.slice p6 r1.length k6],Ch.box bb1 (qaC a_0 p1 p2 p3 p4 p5 k1 k2 k3 k4 k5) 53]:=h
  refine qia (fun hs=>absurd (hs 12 (by decide)) (by decide)) (Ad (X0 5 rfl ?_))
  replace h:=h.pick [1,2,0,3,4,5,6,7,8] rfl
  replace h:=h.put
  obtain ⟨S12,h⟩:=qlO (S:=_) h
  replace h:=h.pick [0,3,4,5,6,7] rfl
  exact rK ⟨_,_,_,_,hF,rfl,h⟩ rfl
 refine qr rfl ?_
 obtain rfl:=qa hF;replace hF:=hK2
 refine X1 8 5 h rfl ?_
 replace h:=h.nil (α:=Int)
 replace h:=h.nil (α:=(List Int))
 obtain ⟨o3,hF,hK3⟩:=qf hF
 refine ql (rL (fun m e w'=>∃ (S13:Nat→Prop) (p16:Option Addr) (ln2:Nat) (k13:Nat) (x8:(List (List Int))) (S14:Nat→Prop) (p17:Option Addr) (ln3:Nat) (k14:Nat) (x9:(List Int)) (S15:Nat→Prop) (p18:Option Addr) (ln4:Nat) (k15:Nat) (x10:(List qaa)) (i4:Int),qcB a_0 x5 x6 m x8 x9 x10 i4=some o3∧e=[(1,.pointer (some ⟨bb1,0,none⟩)),(3,.pointer (some ⟨bb2,0,none⟩)),(7,.slice p11 x3.length x3.length),(8,.slice p12 x4.length x4.length),(87,.int .i64 (a_0.Ac.length:Int)),(88,.int .i64 i4)]∧SH w w' [Ch.own S13 (x8:List (List Int)) [.slice p16 ln2 k13],Ch.own S14 (x9:List Int) [.slice p17 ln3 k14],Ch.own S7 (x5:List (List Int)) [.slice p12 x4.length x4.length],Ch.own S5 (x6:List Int) [.slice p11 x3.length x3.length],Ch.own S15 (x10:List qaa) [.slice p18 ln4 k15],Ch.box bb2 [.slice p1 a_0.Au.Ak.length k1,.slice p2 a_0.Ab.Aa.length k2,.slice p3 a_0.Ab.Ah.length k3,.slice p4 a_0.Ab.Af.length k4,.slice p5 a_0.Ac.length k5,.slice p6 r1.length k6,.slice p18 ln4 k15,.slice p17 ln3 k14,.slice p16 ln2 k13,.slice none 0 0] 155,Ch.own S1 (r1:List Tplace) [.slice p6 r1.length k6],Ch.box bb1 (qaC a_0 p1 p2 p3 p4 p5 k1 k2 k3 k4 k5) 53]) n ⟨_,_,_,_,_,_,_,_,_,_,_,_,_,_,_,_,hF,rfl,h⟩ rfl ?_)
 rintro m3 e3 w23 ⟨S13,p16,ln2,k13,x8,S14,p17,ln3,k14,x9,S15,p18,ln4,k15,x10,i4,hF,rfl,h⟩
 obtain rfl:=(h.sl 0 rfl).2
 obtain rfl:=(h.sl 1 rfl).2
 obtain rfl:=(h.sl 4 rfl).2
 rcases m3 with _|m3
 ·cases hF
 refine X0 5 rfl (qh rfl hF ?_ ?_)<;>intro hF
 ·refine X0 9 rfl (rA [14] [5,7] h rfl fun w24 h=>M2 127 [0,1,2,3,4,5,6] 0 1 (h.pick [5,7] rfl) rfl (Ao 7 255 rfl (zcL h hF (qdY (h.old (GoT.mono ha1 hg.old))) rfl fun r4 w25 S16 p19 k16 h hF=>Ag (h.pick [6,8] rfl) ?_)))
  obtain ⟨y5,hy5,hF,he5,b6,_,q6,cs6,hp6,hq6,rfl,hc8⟩:=(h.sl 0 rfl).1.ix hF
  refine Ax 8 511 hp6 hq6 ⟨he5.1,qJ he5.2.1 (h.sl 0 rfl).2⟩ (h.pick [6,8] rfl) rfl (Ao 9 1023 rfl (zc 0 hc8 rfl (Ag (h.pick [6,8] rfl) (Ao 10 2047 rfl (qab qb [.tmp 100] _ ([y5]:List Int) h rfl rfl rfl rfl rfl rfl rfl rfl rfl ⟨rfl,trivial⟩ rfl fun w26 p20 S17 h=>Ag (h.pick [7,9] rfl) (Ao 11 4095 rfl ?_))))))
  obtain ⟨x11,hx5,hF⟩:=qf hF
  obtain ⟨g7,hx5⟩:=qaY hx5
  refine qd1 qb 3 h rfl (h.sl 0 rfl).1 (h.sl 0 rfl).2 rfl rfl rfl rfl rfl rfl rfl rfl rfl g7 hx5 rfl fun w27 p21 k17 S18 h=>Ag (h.pick [7,9] rfl) (Ao 12 8191 rfl (zp1 rfl (G0 16383 [13] (h.pick [7,9] rfl) rfl (Ao 14 32767 rfl (zs 7 h rfl fun w28 h=>qia (fun hs=>absurd (hs 14 (by decide)) (by decide)) (Ad (qej (rA [12] [7,9] h rfl fun w29 h=>M2 127 [0,1,2,3,4,5,6] 0 1 (h.pick [7,9] rfl) rfl (Ao 7 255 rfl (zcL h hF (qiB (h.old (GoT.mono ha1 hg.old))) rfl fun r5 w30 S19 p22 k18 h hF=>Ag (h.pick [8,10] rfl) (Ao 8 511 rfl (qrF qb [.tmp 112] _ ([r5]:List (List Int)) [1,2,3,4,5,6,7,8,9,10] h rfl rfl rfl rfl rfl rfl rfl rfl rfl (qsC (qas 0 h rfl) qtm rfl) rfl rfl fun w31 p23 S20 h=>Ag (h.pick [8,10] rfl) (Ao 9 1023 rfl ?_)))))))))))))
  obtain ⟨x12,hx6,hF⟩:=qf hF
  obtain ⟨g8,hx6⟩:=qaY hx6
  replace h:=h.pick [0,3,1,2,4,5,6,7,8,9,10] rfl
  refine qtz qb h rfl rfl rfl rfl rfl rfl rfl rfl rfl g8 hx6 rfl fun w32 p24 k19 S21 h=>Ag (h.pick [7,9] rfl) (Ao 10 2047 rfl (zp1 rfl (G0 4095 [11] (h.pick [7,9] rfl) rfl (Ao 12 8191 rfl (zs 7 h rfl fun w33 h=>qia (fun hs=>absurd (hs 12 (by decide)) (by decide)) (Ad (X0 4 rfl ?_)))))))
  obtain ⟨y6,hy6,hF⟩:=qf hF
  have he6:=qcf hy6
  replace h:=h.lrn0 4 rfl
  obtain ⟨b7,o_5,q7,cs7,hp7,hq7,-,hr10,hc9⟩:=(qiT (h.lrnO 4 rfl)).1.at hy6
  have hr11:=hr10
  obtain ⟨p25,k20,rfl,s7⟩:=hr10
  replace h:=h.lrnAdd 4 rfl hr11
  refine zx hp7 hq7 ⟨he6.1,qJ he6.2.1 (qiT (h.lrnO 4 rfl)).2⟩ rfl (zc 0 hc9 rfl (X0 3 rfl ?_))
  obtain ⟨o4,hF,hK4⟩:=qf hF
  refine ql ?_
  replace h:=h.pick [0,3,4,5,6,7,8,9] rfl
  refine rL (fun m e w'=>∃ (S22:Nat→Prop) (p26:Option Addr) (ln5:Nat) (k21:Nat) (x13:(List qaa)) (i5:Int),qcE x6 i4 y6 m x13 i5=some o4∧e=[(1,.pointer (some ⟨bb1,0,none⟩)),(3,.pointer (some ⟨bb2,0,none⟩)),(7,.slice p11 x3.length x3.length),(8,.slice p12 x4.length x4.length),(11,.int .i64 i4),(87,.int .i64 (a_0.Ac.length:Int)),(88,.int .i64 i4),(120,.slice p25 y6.length k20),(121,.int .i64 (y6.length:Int)),(122,.int .i64 i5)]∧SH w w' [Ch.own S21 (x12:List (List Int)) [.slice p24 x12.length k19],Ch.own S18 (x11:List Int) [.slice p21 x11.length k17],Ch.lrn S7 (x5:List (List Int)) [.slice p12 x4.length x4.length] [fct (y6:(List Int)) [.slice p25 y6.length k20]],Ch.own S5 (x6:List Int) [.slice p11 x3.length x3.length],Ch.own S22 (x13:List qaa) [.slice p26 ln5 k21],Ch.box bb2 [.slice p1 a_0.Au.Ak.length k1,.slice p2 a_0.Ab.Aa.length k2,.slice p3 a_0.Ab.Ah.length k3,.slice p4 a_0.Ab.Af.length k4,.slice p5 a_0.Ac.length k5,.slice p6 r1.length k6,.slice p26 ln5 k21,.slice p21 x11.length k17,.slice p24 x12.length k19,.slice none 0 0] 155,Ch.own S1 (r1:List Tplace) [.slice p6 r1.length k6],Ch.box bb1 (qaC a_0 p1 p2 p3 p4 p5 k1 k2 k3 k4 k5) 53]) m3 ⟨_,_,_,_,_,_,hF,rfl,h⟩ rfl ?_
  rintro m4 e4 w34 ⟨S22,p26,ln5,k21,x13,i5,hF,rfl,h⟩
  obtain rfl:=(h.sl 4 rfl).2
  rcases m4 with _|m4
  ·cases hF
  refine X0 5 rfl (qh rfl hF ?_ ?_)<;>intro hF
  ·refine X0 6 rfl ?_
   obtain ⟨y7,hy7,hF,he7,b8,_,q8,cs8,hp8,hq8,rfl,hc11⟩:=(qiT (GoT.mono (h.lrnS 2 0 rfl rfl) (h.lrnB 2 rfl))).1.ix hF
   refine zx hp8 hq8 ⟨he7.1,qJ he7.2.1 (qiT (GoT.mono (h.lrnS 2 0 rfl rfl) (h.lrnB 2 rfl))).2⟩ rfl (zc 0 hc11 rfl (X0 7 rfl ?_))
   obtain ⟨o5,hF,hK5⟩:=qf hF
   refine ql (rL (fun m e w'=>∃ (S23:Nat→Prop) (p27:Option Addr) (ln6:Nat) (k22:Nat) (x14:(List qaa)) (i6:Int),qcD x6 i4 i5 y7 m x14 i6=some o5∧e=[(1,.pointer (some ⟨bb1,0,none⟩)),(3,.pointer (some ⟨bb2,0,none⟩)),(7,.slice p11 x3.length x3.length),(8,.slice p12 x4.length x4.length),(11,.int .i64 i4),(12,.int .i64 i5),(13,.int .i64 y7),(87,.int .i64 (a_0.Ac.length:Int)),(88,.int .i64 i4),(120,.slice p25 y6.length k20),(121,.int .i64 (y6.length:Int)),(122,.int .i64 i5),(127,.int .i64 i6)]∧SH w w' [Ch.own S21 (x12:List (List Int)) [.slice p24 x12.length k19],Ch.own S18 (x11:List Int) [.slice p21 x11.length k17],Ch.lrn S7 (x5:List (List Int)) [.slice p12 x4.length x4.length] [fct (y6:(List Int)) [.slice p25 y6.length k20]],Ch.own S5 (x6:List Int) [.slice p11 x3.length x3.length],Ch.own S23 (x14:List qaa) [.slice p27 ln6 k22],Ch.box bb2 [.slice p1 a_0.Au.Ak.length k1,.slice p2 a_0.Ab.Aa.length k2,.slice p3 a_0.Ab.Ah.length k3,.slice p4 a_0.Ab.Af.length k4,.slice p5 a_0.Ac.length k5,.slice p6 r1.length k6,.slice p27 ln6 k22,.slice p21 x11.length k17,.slice p24 x12.length k19,.slice none 0 0] 155,Ch.own S1 (r1:List Tplace) [.slice p6 r1.length k6],Ch.box bb1 (qaC a_0 p1 p2 p3 p4 p5 k1 k2 k3 k4 k5) 53]) m4 ⟨_,_,_,_,_,_,hF,rfl,h⟩ rfl ?_)
   rintro m5 e5 w35 ⟨S23,p27,ln6,k22,x14,i6,hF,rfl,h⟩
   obtain rfl:=(h.sl 4 rfl).2
   rcases m5 with _|m5
   ·cases hF
   refine X0 5 rfl (qh rfl hF ?_ ?_)<;>intro hF
   ·refine X0 8 rfl (rA [22] [3,5] h rfl fun w36 h=>M1 127 [0,1,2,3,4,5,6] 1 (h.pick [3,5] rfl) rfl ?_)
    obtain ⟨y8,hy8,hF,he8,b9,_,q9,cs9,hp9,hq9,rfl,hc13⟩:=(h.sl 3 rfl).1.ix hF
    refine Ax 7 255 hp9 hq9 ⟨he8.1,qJ he8.2.1 (h.sl 3 rfl).2⟩ (h.pick [3,5] rfl) rfl (Aw 8 511 (fun w' hw=>qjs qb (qgQ (w1:=w) (S1:=fun _=>False) hw 0 rfl hy8 hp9 hq9 rfl) (j:=0) rfl rfl rfl) (h.pick [3,5] rfl) rfl ?_)
    refine M0 131071 [9,10,11,12,13,14,15,16] (h.pick [3,5] rfl) rfl (Aw 17 262143 (fun w' hw=>qdO qb [0,1,2,3] [.tmp 141,.tmp 145,.const (.int .i64 (2)),.tmp 146] rfl rfl rfl rfl rfl rfl rfl rfl) (h.pick [3,5] rfl) rfl ?_)
    refine Ao 18 524287 rfl (qab qb [.tmp 147] _ ([(⟨W64 ((W64 (2*y8))+i6),W64 ((W64 (2*y7))+i6),2,i5⟩:qaa)]:List qaa) h rfl rfl rfl rfl rfl rfl rfl rfl rfl ⟨(qoE (⟨W64 ((W64 (2*y8))+i6),W64 ((W64 (2*y7))+i6),2,i5⟩:qaa)),trivial⟩ rfl fun w37 p28 S24 h=>Ag (h.pick [4,6] rfl) (Ao 19 1048575 rfl ?_))
    obtain ⟨x15,hx7,hF⟩:=qf hF
    obtain ⟨g9,hx7⟩:=qaY hx7
    refine qd1 qb 5 h rfl (h.sl 0 rfl).1 (h.sl 0 rfl).2 rfl rfl rfl rfl rfl rfl rfl rfl rfl g9 hx7 rfl fun w38 p29 k23 S25 h=>Ag (h.pick [4,6] rfl) (Ao 20 2097151 rfl (zp1 rfl (G0 4194303 [21] (h.pick [4,6] rfl) rfl (Ao 22 8388607 rfl (zs 6 h rfl fun w39 h=>qia (fun hs=>absurd (hs 22 (by decide)) (by decide)) (Ad (X0 5 rfl ?_)))))))
    replace h:=h.pick [1,2,3,4,5,6,7,8] rfl
    exact rK ⟨_,_,_,_,_,_,hF,rfl,h⟩ rfl
   refine qr rfl ?_
   obtain rfl:=qa hF;replace hF:=hK5
   exact X0 5 rfl (rK ⟨_,_,_,_,_,_,hF,rfl,h⟩ rfl)
  refine qr rfl ?_
  obtain rfl:=qa hF;replace hF:=hK4
  refine X0 5 rfl ?_
  replace h:=h.unlrn 2 rfl
  exact rK ⟨_,_,_,_,_,_,_,_,_,_,_,_,_,_,_,_,hF,rfl,h⟩ rfl
 refine qr rfl ?_
 obtain rfl:=qa hF;replace hF:=hK3
 refine X0 5 rfl ?_
 obtain rfl:=qa hF
 have hv1:GoRs.Rs (ρ:=(Option Tview)) h.wc (reg A w h.wc) (some (⟨(⟨(⟨a_0.Au.Ak⟩:qn),(⟨a_0.Ab.Aa,a_0.Ab.Ah,a_0.Ab.Af⟩:qc),a_0.Ac⟩:qk),r1,x10,x9,x8,[]⟩:Tview)) [GoT.v (Option Tview) [.pointer (some ⟨bb2,0,none⟩)]]:=⟨_,rfl,(hg.outR h (Rg.boxR (x:=(⟨(⟨(⟨a_0.Au.Ak⟩:qn),(⟨a_0.Ab.Aa,a_0.Ab.Ah,a_0.Ab.Af⟩:qc),a_0.Ac⟩:qk),r1,x10,x9,x8,[]⟩:Tview)) 5 h rfl (⟨[.slice p1 a_0.Au.Ak.length k1,.slice p2 a_0.Ab.Aa.length k2,.slice p3 a_0.Ab.Ah.length k3,.slice p4 a_0.Ab.Af.length k4,.slice p5 a_0.Ac.length k5],[.slice p6 r1.length k6,.slice p18 x10.length k15,.slice p17 x9.length k14,.slice p16 x8.length k13,.slice none 0 0],rfl,⟨[.slice p1 a_0.Au.Ak.length k1],[.slice p2 a_0.Ab.Aa.length k2,.slice p3 a_0.Ab.Ah.length k3,.slice p4 a_0.Ab.Af.length k4,.slice p5 a_0.Ac.length k5],rfl,⟨_,_,rfl,(hg.inS h s1)⟩,⟨[.slice p2 a_0.Ab.Aa.length k2,.slice p3 a_0.Ab.Ah.length k3,.slice p4 a_0.Ab.Af.length k4],[.slice p5 a_0.Ac.length k5],rfl,⟨[.slice p2 a_0.Ab.Aa.length k2],[.slice p3 a_0.Ab.Ah.length k3,.slice p4 a_0.Ab.Af.length k4],rfl,⟨_,_,rfl,(hg.inS h s2)⟩,⟨[.slice p3 a_0.Ab.Ah.length k3],[.slice p4 a_0.Ab.Af.length k4],rfl,⟨_,_,rfl,(hg.inS h s3)⟩,⟨_,_,rfl,(hg.inS h s4)⟩⟩⟩,⟨_,_,rfl,(hg.inS h s5)⟩⟩⟩,⟨[.slice p6 r1.length k6],[.slice p18 x10.length k15,.slice p17 x9.length k14,.slice p16 x8.length k13,.slice none 0 0],rfl,(Rg.ownR 6 h rfl),⟨[.slice p18 x10.length k15],[.slice p17 x9.length k14,.slice p16 x8.length k13,.slice none 0 0],rfl,(Rg.ownR 4 h rfl),⟨[.slice p17 x9.length k14],[.slice p16 x8.length k13,.slice none 0 0],rfl,(Rg.ownR 1 h rfl),⟨[.slice p16 x8.length k13],[.slice none 0 0],rfl,(Rg.ownR 0 h rfl),⟨_,_,rfl,qtS⟩⟩⟩⟩⟩⟩)))⟩
 exact qpb qb (ρ:=(Option Tview)) (r:=(some (⟨(⟨(⟨a_0.Au.Ak⟩:qn),(⟨a_0.Ab.Aa,a_0.Ab.Ah,a_0.Ab.Af⟩:qc),a_0.Ac⟩:qk),r1,x10,x9,x8,[]⟩:Tview))) [GoT.v (Option Tview) [.pointer (some ⟨bb2,0,none⟩)]] h ⟨rfl,trivial⟩ hv1
end Go.Fw


namespace Go.Fw
open Go Go.Proofs
open Go.RowKit (Below)
set_option maxRecDepth 100000
set_option maxHeartbeats 1600000
variable {n:Nat} {w:World} {cs1 cs2 cs3 cs4 cs5 cs6 cs7 cs8 cs9:List Value}
def qaW (a_0:qk) (a_1:(List qe)):Nat→Int→Option (Flow Bool Int)
 | 0,_=>none
 | n+1,i1 =>
  bif decide (i1<(a_1.length:Int)) then
   (idx a_1 i1).bind fun y1 =>
   (
    (qX n y1.A 0 (W64 ((a_0.Ab.Ah.length:Int)-1))).bind fun r1 =>
    bif (!r1) then some true else
    (qX n y1.B (W64 (y1.A+1)) (W64 ((a_0.Ab.Ah.length:Int)-1))).bind fun r2 =>
    bif (!r2) then some true else
    (qX n y1.Bo 1 10000).bind fun r3 =>
    some (!r3)).bind fun b2 =>
   bif b2 then some (.ret false) else
   bif decide (i1 > 0) then
    (idx a_1 (W64 (i1-1))).bind fun y2 =>
    bif decide (y2.A > y1.A) then some (.ret false) else
    (idx a_1 (W64 (i1-1))).bind fun y3 =>
    bif (y3.A==y1.A) then
     (idx a_1 (W64 (i1-1))).bind fun y4 =>
     bif decide (y4.B ≥ y1.B) then some (.ret false) else
     qaW a_0 a_1 n (W64 (i1+1))
    else
     qaW a_0 a_1 n (W64 (i1+1))
   else
    qaW a_0 a_1 n (W64 (i1+1))
  else
   some (.nxt i1)
def qeU (n:Nat) (a_0:qk) (a_1:(List qe)):Option Bool :=
 (qaW a_0 a_1 n 0).bind fun o=>match o with
 | .ret r=>some r
 | .nxt _ =>
  some (decide ((a_1.length:Int)≤20))
theorem qjY {a_0:qk} {a_1:(List qe)} (ha1:GoT.R w (old w) a_0 cs1) (ha2:GoT.R w (old w) a_1 cs2) {r:Bool} (hF:qeU n a_0 a_1=some r):RetV Tryz.prog 47 [GoT.v qk cs1,GoT.v (List qe) cs2] w r:=by
 obtain ⟨p1,k1,p2,k2,p3,k3,p4,k4,p5,k5,rfl,s1,s2,s3,s4,s5⟩:=qV ha1
 obtain ⟨p6,k6,rfl,s6⟩:=ha2
 refine zV 83 Tryz.func47 rfl fun h=>zSR (qu h rfl rfl fun w1 bb1 h=>X1 15 0 h rfl ?_)
 obtain ⟨o1,hF,hK1⟩:=qf hF
 refine ql ?_
 replace h:=h.pick [] rfl
 refine rL (fun m e w'=>∃ (i1:Int),qaW a_0 a_1 m i1=some o1∧e=[(1,.slice p6 a_1.length k6),(5,.int .i64 (a_0.Ab.Ah.length:Int)),(6,.int .i64 i1)]∧SH w w' []) n ⟨_,hF,rfl,h⟩ rfl ?_
 rintro m1 e1 w2 ⟨i1,hF,rfl,h⟩
 rcases m1 with _|m1
 ·cases hF
 refine X0 8 rfl (qh rfl hF ?_ ?_)<;>intro hF
 ·refine X0 7 rfl ?_
  obtain ⟨y1,hy1,hF,he1,b1,_,q1,cs3,hp1,hq1,hr1,hc2⟩:=s6.ix hF
  obtain rfl:=qQ hr1
  refine zxe hp1 hq1 he1 rfl (zc 0 (hc2.below h.below) rfl (qx qb h rfl rfl rfl fun w3 bb2 h=>zs 0 h rfl fun w4 h=>zNSS ?_))
  obtain ⟨KF1,hKF1,o2,hF,hK2⟩:=bindE hF
  refine qcx (fun e w'=>∃ (b2:Bool),KF1 b2=some o1∧e=[(1,.slice p6 a_1.length k6),(5,.int .i64 (a_0.Ab.Ah.length:Int)),(6,.int .i64 i1),(7,.pointer (some ⟨bb2,0,none⟩)),(44,.bool b2)]∧SH w w' [Ch.box bb2 (qhs y1) 111]) ?_ ?_
  ·refine X1 5 0 h rfl (zcB h hF qR rfl fun r1 w9 h hF=>zp2 rfl (qg (t:=28) hF rfl ?_ ?_))<;>intro hF
   ·refine X0 17 rfl ?_
    obtain rfl:=qa hF
    exact rG ⟨_,hK2,rfl,h⟩ rfl
   refine X2 15 0 0 h rfl (zcB h hF qR rfl fun r2 w10 h hF=>X0 4 rfl (qg (t:=39) hF rfl ?_ ?_))<;>intro hF
   ·refine X0 6 rfl ?_
    obtain rfl:=qa hF
    exact rG ⟨_,hK2,rfl,h⟩ rfl
   refine X1 5 0 h rfl (zcB h hF qR rfl fun r3 w11 h hF=>X0 4 rfl ?_)
   obtain rfl:=qa hF
   exact rG ⟨_,hK2,rfl,h⟩ rfl
  rintro e2 w12 ⟨b2,hF,rfl,h⟩
  subst hKF1
  refine qh rfl hF ?_ ?_<;>intro hF
  ·refine X0 4 rfl ?_
   obtain rfl:=qa hF;replace hF:=hK1
   exact rb h hF rfl
  refine zKS (rD (zd3 rfl (qba (t:=47) hF rfl ?_ ?_)))<;>intro hF
  ·refine Y0 7 rfl ?_
   obtain ⟨y2,hy2,hF,he2,b3,_,q2,cs4,hp2,hq2,hr2,hc4⟩:=s6.ix hF
   obtain rfl:=qQ hr2
   refine zdxe hp2 hq2 he2 rfl (Y0 3 rfl (zdc 0 (hc4.below h.below) rfl (Y1 4 0 h rfl ?_)))
   refine Y0 4 rfl (qba (t:=57) hF rfl ?_ ?_)<;>intro hF
   ·refine Y0 23 rfl (dN h fun w5 h=>qb2 rfl rfl (X0 4 rfl ?_))
    obtain rfl:=qa hF;replace hF:=hK1
    exact rb h hF rfl
   refine Y0 7 rfl ?_
   obtain ⟨y3,hy3,hF,he3,b4,_,q3,cs5,hp3,hq3,hr3,hc5⟩:=s6.ix hF
   obtain rfl:=qQ hr3
   refine zdxe hp3 hq3 he3 rfl (Y0 3 rfl (zdc 0 (hc5.below h.below) rfl (Y1 4 0 h rfl ?_)))
   refine Y0 4 rfl (qba (t:=67) hF rfl ?_ ?_)<;>intro hF
   ·refine Y0 7 rfl ?_
    obtain ⟨y4,hy4,hF,he4,b5,_,q4,cs6,hp4,hq4,hr4,hc6⟩:=s6.ix hF
    obtain rfl:=qQ hr4
    refine zdxe hp4 hq4 he4 rfl (Y0 3 rfl (zdc 1 (hc6.below h.below) rfl (Y1 4 0 h rfl ?_)))
    refine Y0 7 rfl (dN h fun w6 h=>qh rfl hF ?_ ?_)<;>intro hF
    ·refine X0 4 rfl ?_
     obtain rfl:=qa hF;replace hF:=hK1
     exact rb h hF rfl
    refine X0 7 rfl ?_
    replace h:=h.pick [] rfl
    exact rK ⟨_,hF,rfl,h⟩ rfl
   refine Y0 14 rfl (dN h fun w7 h=>qcO rfl rfl (X0 7 rfl ?_))
   replace h:=h.pick [] rfl
   exact rK ⟨_,hF,rfl,h⟩ rfl
  refine Y0 32 rfl (dN h fun w8 h=>qcO rfl rfl (X0 7 rfl ?_))
  replace h:=h.pick [] rfl
  exact rK ⟨_,hF,rfl,h⟩ rfl
 refine qr rfl ?_
 obtain rfl:=qa hF;replace hF:=hK1
 exact X0 7 rfl (rb h hF rfl)
def qfH (vals:(List Int)):Nat→Int→Option (Flow Int Int)
 | 0,_=>none
 | n+1,i1 =>
  bif decide (i1<(vals.length:Int)) then
   (idx vals i1).bind fun y1 =>
   bif (y1 != 0) then some (.ret y1) else
   qfH vals n (W64 (i1+1))
  else
   some (.nxt i1)
def qjn (n:Nat) (vals:(List Int)):Option Int :=
 (qfH vals n 0).bind fun o=>match o with
 | .ret r=>some r
 | .nxt _ =>
  some 0
theorem qnZ {vals:(List Int)} (ha1:GoT.R w (old w) vals cs1) {r:Int} (hF:qjn n vals=some r):RetV Tryz.prog 130 [GoT.v (List Int) cs1] w r:=by
 obtain ⟨p1,k1,rfl,s1⟩:=ha1
 refine zV 18 Tryz.func130 rfl fun h=>X0 15 rfl ?_
 obtain ⟨o1,hF,hK1⟩:=qf hF
 refine ql (rL (fun m e w'=>∃ (i1:Int),qfH vals m i1=some o1∧e=[(3,.int .i64 0),(6,.slice p1 vals.length k1),(7,.int .i64 (vals.length:Int)),(8,.int .i64 i1)]∧SH w w' []) n ⟨_,hF,rfl,h⟩ rfl ?_)
 rintro m1 e1 w1 ⟨i1,hF,rfl,h⟩
 rcases m1 with _|m1
 ·cases hF
 refine X0 5 rfl (qh rfl hF ?_ ?_)<;>intro hF
 ·refine zKSBSR ?_
  obtain ⟨y1,hy1,hF,he1,b1,_,q1,cs2,hp1,hq1,rfl,hc2⟩:=s1.ix hF
  refine zxe hp1 hq1 he1 rfl (zc 0 (hc2.below h.below) rfl (X0 8 rfl (qh rfl hF ?_ ?_)))<;>intro hF
  ·refine X0 5 rfl ?_
   obtain rfl:=qa hF;replace hF:=hK1
   exact ri h hF rfl
  exact X0 6 rfl (rK ⟨_,hF,rfl,h⟩ rfl)
 refine qr rfl ?_
 obtain rfl:=qa hF;replace hF:=hK1
 exact X0 5 rfl (ri h hF rfl)
def qfU (_:Nat) (x:Int):Option Bool :=
 some (x != x)
theorem qh5 {x:Int}  {r:Bool} (hF:qfU n x=some r):RetV Tryz.prog 206 [.int .i64 x] w r:=by
 exact zV 6 Tryz.func206 rfl fun h=>X0 11 rfl (rb h hF rfl)
def qdJ (n:Nat) (x:Int) (y:Int):Option Int :=
 (qfU n x).bind fun r1 =>
 (qfU n y).bind fun r2 =>
 bif r1 then
  bif r2 then some 0 else
  some (-1)
 else
  bif r2 then some 1 else
  bif decide (x<y) then some (-1) else
  bif decide (x > y) then some 1 else
  some 0
theorem qho {x:Int} {y:Int}  {r:Int} (hF:qdJ n x y=some r):RetV Tryz.prog 131 [.int .i64 x,.int .i64 y] w r:=by
 refine zV 20 Tryz.func131 rfl fun h=>X0 7 rfl (zcB h hF qh5 rfl fun r1 w1 h hF=>X0 5 rfl (zcB h hF qh5 rfl fun r2 w2 h hF=>X0 7 rfl (qh rfl hF ?_ ?_)))<;>intro hF
 ·refine X0 5 rfl (qh rfl hF ?_ ?_)<;>intro hF
  ·exact X0 4 rfl (ri h hF rfl)
  exact X0 5 rfl (ri h hF rfl)
 refine X0 6 rfl (qh rfl hF ?_ ?_)<;>intro hF
 ·exact X0 4 rfl (ri h hF rfl)
 refine X0 8 rfl (qh rfl hF ?_ ?_)<;>intro hF
 ·exact X0 4 rfl (ri h hF rfl)
 refine X0 8 rfl (qh rfl hF ?_ ?_)<;>intro hF
 ·exact X0 4 rfl (ri h hF rfl)
 exact X0 5 rfl (ri h hF rfl)
def qai (a_0:qk) (a_1:(List qe)):Nat→Int→Option (Flow Bool Int)
 | 0,_=>none
 | n+1,i1 =>
  bif decide (i1<(a_1.length:Int)) then
   (idx a_1 i1).bind fun y1 =>
   (
    (qbm n (⟨a_0.Ab.Aa,a_0.Ab.Ah,a_0.Ab.Af⟩:qc) y1.A).bind fun r4 =>
    bif (!r4) then some true else
    (qbm n (⟨a_0.Ab.Aa,a_0.Ab.Ah,a_0.Ab.Af⟩:qc) y1.B).bind fun r5 =>
    bif (!r5) then some true else
    bif decide (y1.A ≥ y1.B) then some true else
    (qam n y1.Bo 1 10000).bind fun r6 =>
    some (!r6)).bind fun b2 =>
   bif b2 then some (.ret false) else
   bif decide (i1 > 0) then
    (idx a_1 (W64 (i1-1))).bind fun y2 =>
    (idx a_1 (W64 (i1-1))).bind fun y3 =>
    (qdJ n y2.A y1.A).bind fun r1 =>
    (qdJ n y3.B y1.B).bind fun r2 =>
    (qjn n ([r1,r2]:List Int)).bind fun r3 =>
    bif decide (r3 ≥ 0) then some (.ret false) else
    qai a_0 a_1 n (W64 (i1+1))
   else
    qai a_0 a_1 n (W64 (i1+1))
  else
   some (.nxt i1)
def qcw (n:Nat) (a_0:qk) (a_1:(List qe)):Option Bool :=
 (qai a_0 a_1 n 0).bind fun o=>match o with
 | .ret r=>some r
 | .nxt _ =>
  some (decide ((a_1.length:Int)≤20))
theorem qig {a_0:qk} {a_1:(List qe)} (ha1:GoT.R w (old w) a_0 cs1) (ha2:GoT.R w (old w) a_1 cs2) {r:Bool} (hF:qcw n a_0 a_1=some r):RetV Tryz.prog 56 [GoT.v qk cs1,GoT.v (List qe) cs2] w r:=by
 obtain ⟨p1,k1,p2,k2,p3,k3,p4,k4,p5,k5,rfl,s1,s2,s3,s4,s5⟩:=qV ha1
 obtain ⟨p6,k6,rfl,s6⟩:=ha2
 refine zV 70 Tryz.func56 rfl fun h=>zSR (qu h rfl rfl fun w1 bb1 h=>X0 9 rfl ?_)
 obtain ⟨o1,hF,hK1⟩:=qf hF
 refine ql (rL (fun m e w'=>∃ (i1:Int),qai a_0 a_1 m i1=some o1∧e=[(1,.slice p6 a_1.length k6),(2,.pointer (some ⟨bb1,0,none⟩)),(7,.slice p6 a_1.length k6),(8,.int .i64 (a_1.length:Int)),(9,.int .i64 i1)]∧SH w w' [Ch.box bb1 (qaC a_0 p1 p2 p3 p4 p5 k1 k2 k3 k4 k5) 53]) n ⟨_,hF,rfl,h⟩ rfl ?_)
 rintro m1 e1 w2 ⟨i1,hF,rfl,h⟩
 rcases m1 with _|m1
 ·cases hF
 refine X0 5 rfl (qh rfl hF ?_ ?_)<;>intro hF
 ·refine X0 6 rfl ?_
  obtain ⟨y1,hy1,hF,he1,b1,_,q1,cs3,hp1,hq1,hr1,hc2⟩:=s6.ix hF
  obtain rfl:=qQ hr1
  refine zxe hp1 hq1 he1 rfl (zc 0 (hc2.below h.below) rfl (qx qb h rfl rfl rfl fun w3 bb2 h=>zp1 rfl (zs 0 h rfl fun w4 h=>zNSS ?_)))
  obtain ⟨KF1,hKF1,o2,hF,hK2⟩:=bindE hF
  refine qcx (fun e w'=>∃ (b2:Bool),KF1 b2=some o1∧e=[(1,.slice p6 a_1.length k6),(2,.pointer (some ⟨bb1,0,none⟩)),(5,.int .i64 i1),(6,.pointer (some ⟨bb2,0,none⟩)),(7,.slice p6 a_1.length k6),(8,.int .i64 (a_1.length:Int)),(9,.int .i64 i1),(40,.bool b2)]∧SH w w' [Ch.box bb2 (qhs y1) 111,Ch.box bb1 (qaC a_0 p1 p2 p3 p4 p5 k1 k2 k3 k4 k5) 53]) ?_ ?_
  ·refine X2 5 1 0 h rfl (zcB h hF (qch (qaG _ (h.oldS s2) (h.oldS s3) (h.oldS s4))) rfl fun r4 w10 h hF=>zp2 rfl (qg (t:=20) hF rfl ?_ ?_))<;>intro hF
   ·refine X0 21 rfl ?_
    obtain rfl:=qa hF
    exact rG ⟨_,hK2,rfl,h⟩ rfl
   refine X2 9 1 0 h rfl (zcB h hF (qch (qaG _ (h.oldS s2) (h.oldS s3) (h.oldS s4))) rfl fun r5 w11 h hF=>X0 4 rfl (qg (t:=28) hF rfl ?_ ?_))<;>intro hF
   ·refine X0 13 rfl ?_
    obtain rfl:=qa hF
    exact rG ⟨_,hK2,rfl,h⟩ rfl
   refine X2 12 0 0 h rfl (qg (t:=35) hF rfl ?_ ?_)<;>intro hF
   ·refine X0 6 rfl ?_
    obtain rfl:=qa hF
    exact rG ⟨_,hK2,rfl,h⟩ rfl
   refine X1 5 0 h rfl (zcB h hF qac rfl fun r6 w12 h hF=>X0 4 rfl ?_)
   obtain rfl:=qa hF
   exact rG ⟨_,hK2,rfl,h⟩ rfl
  rintro e2 w13 ⟨b2,hF,rfl,h⟩
  subst hKF1
  refine qh rfl hF ?_ ?_<;>intro hF
  ·refine X0 4 rfl ?_
   obtain rfl:=qa hF;replace hF:=hK1
   exact rb h hF rfl
  refine zKS (rA [] [0] h rfl fun w5 h=>M0 7 [0,1,2] (h.pick [0] rfl) rfl (qty (t:=43) hF rfl ?_ ?_))<;>intro hF
  ·refine qdF 3 rfl (by kernel_rfl) (bits 25 15) (by kernel_rfl) (by kernel_rfl) (fun w' hw=>v_p qb rfl w') (h.pick [0] rfl) rfl (qdF 4 rfl (by kernel_rfl) (bits 25 31) (by kernel_rfl) (by kernel_rfl) (fun w' hw=>v_p qb rfl w') (h.pick [0] rfl) rfl (qdF 5 rfl (by kernel_rfl) (bits 25 63) (by kernel_rfl) (by kernel_rfl) (fun w' hw=>v_p qb rfl w') (h.pick [0] rfl) rfl ?_))
   obtain ⟨y2,hy2,hF,he2,b3,_,q2,cs4,hp2,hq2,hr2,hc4⟩:=s6.ix hF
   obtain rfl:=qQ hr2
   refine qdF 6 rfl (by kernel_rfl) (bits 25 127) (by kernel_rfl) (by kernel_rfl) (fun w' hw=>qr0 qb hp2 hq2 ⟨he2.1,he2.2.1⟩ rfl rfl rfl rfl rfl rfl) (h.pick [0] rfl) rfl (qdF 7 rfl (by kernel_rfl) (bits 25 255) (by kernel_rfl) (by kernel_rfl) (fun w' hw=>v_p qb rfl w') (h.pick [0] rfl) rfl (qdF 8 rfl (by kernel_rfl) (bits 25 511) (by kernel_rfl) (by kernel_rfl) (fun w' hw=>qjs qb (hc4.below hw.below) (j:=0) rfl rfl rfl) (h.pick [0] rfl) rfl (qdF 9 rfl (by kernel_rfl) (bits 25 1023) (by kernel_rfl) (by kernel_rfl) (fun w' hw=>v_p qb rfl w') (h.pick [0] rfl) rfl (qdF 10 rfl (by kernel_rfl) (bits 25 2047) (by kernel_rfl) (by kernel_rfl) (fun w' hw=>qjs qb (hw.box 0 rfl) (j:=0) rfl rfl rfl) (h.pick [0] rfl) rfl (qdF 12 rfl (by kernel_rfl) (bits 25 6143) (by kernel_rfl) (by kernel_rfl) (fun w' hw=>v_p qb rfl w') (h.pick [0] rfl) rfl (qdF 13 rfl (by kernel_rfl) (bits 25 14335) (by kernel_rfl) (by kernel_rfl) (fun w' hw=>v_p qb rfl w') (h.pick [0] rfl) rfl (qdF 14 rfl (by kernel_rfl) (bits 25 30719) (by kernel_rfl) (by kernel_rfl) (fun w' hw=>v_p qb rfl w') (h.pick [0] rfl) rfl ?_)))))))
   obtain ⟨y3,hy3,hF,he3,b4,_,q3,cs5,hp3,hq3,hr3,hc5⟩:=s6.ix hF
   obtain rfl:=qQ hr3
   refine qdF 15 rfl (by kernel_rfl) (bits 25 63487) (by kernel_rfl) (by kernel_rfl) (fun w' hw=>qr0 qb hp3 hq3 ⟨he3.1,he3.2.1⟩ rfl rfl rfl rfl rfl rfl) (h.pick [0] rfl) rfl (qdF 16 rfl (by kernel_rfl) (bits 25 129023) (by kernel_rfl) (by kernel_rfl) (fun w' hw=>v_p qb rfl w') (h.pick [0] rfl) rfl (qdF 17 rfl (by kernel_rfl) (bits 25 260095) (by kernel_rfl) (by kernel_rfl) (fun w' hw=>qjs qb (hc5.below hw.below) (j:=1) rfl rfl rfl) (h.pick [0] rfl) rfl (qdF 18 rfl (by kernel_rfl) (bits 25 522239) (by kernel_rfl) (by kernel_rfl) (fun w' hw=>v_p qb rfl w') (h.pick [0] rfl) rfl (qdF 19 rfl (by kernel_rfl) (bits 25 1046527) (by kernel_rfl) (by kernel_rfl) (fun w' hw=>qjs qb (hw.box 0 rfl) (j:=1) rfl rfl rfl) (h.pick [0] rfl) rfl (Ao 11 1048575 rfl (X0 1 rfl (zcI h hF qho rfl fun r1 w6 h hF=>Ag (h.pick [0] rfl) (Ao 20 2097151 rfl (X0 1 rfl (zcI h hF qho rfl fun r2 w7 h hF=>Ag (h.pick [0] rfl) (Ao 21 4194303 rfl (X0 1 rfl (qab qb [.tmp 52,.tmp 61] _ ([r1,r2]:List Int) h rfl rfl rfl rfl rfl rfl rfl rfl rfl ⟨rfl,rfl,trivial⟩ rfl fun w8 p7 S1 h=>Ag (h.pick [1] rfl) (Ao 22 8388607 rfl (X0 1 rfl (zcI h hF (qnZ (h.own 0 rfl)) rfl fun r3 w9 h hF=>Ag (h.pick [1] rfl) (qdF 23 rfl (by kernel_rfl) (bits 25 16777215) (by kernel_rfl) (by kernel_rfl) (fun w' hw=>v_p qb rfl w') (h.pick [1] rfl) rfl (M0 33554431 [24] (h.pick [1] rfl) rfl (Ad (qh rfl hF ?_ ?_))))))))))))))))))))<;>intro hF
   ·refine X0 4 rfl ?_
    obtain rfl:=qa hF;replace hF:=hK1
    exact rb h hF rfl
   refine X0 6 rfl ?_
   replace h:=h.pick [2] rfl
   exact rK ⟨_,hF,rfl,h⟩ rfl
  refine qfG 3 rfl (by kernel_rfl) rfl (bits 25 15) (by kernel_rfl) (by kernel_rfl) (h.pick [0] rfl) rfl (qfG 4 rfl (by kernel_rfl) rfl (bits 25 31) (by kernel_rfl) (by kernel_rfl) (h.pick [0] rfl) rfl (qfG 5 rfl (by kernel_rfl) rfl (bits 25 63) (by kernel_rfl) (by kernel_rfl) (h.pick [0] rfl) rfl (qfG 6 rfl (by kernel_rfl) rfl (bits 25 127) (by kernel_rfl) (by kernel_rfl) (h.pick [0] rfl) rfl (qfG 7 rfl (by kernel_rfl) rfl (bits 25 255) (by kernel_rfl) (by kernel_rfl) (h.pick [0] rfl) rfl (qfG 8 rfl (by kernel_rfl) rfl (bits 25 511) (by kernel_rfl) (by kernel_rfl) (h.pick [0] rfl) rfl (qfG 9 rfl (by kernel_rfl) rfl (bits 25 1023) (by kernel_rfl) (by kernel_rfl) (h.pick [0] rfl) rfl (qfG 10 rfl (by kernel_rfl) rfl (bits 25 2047) (by kernel_rfl) (by kernel_rfl) (h.pick [0] rfl) rfl (qfG 11 rfl (by kernel_rfl) rfl (bits 25 4095) (by kernel_rfl) (by kernel_rfl) (h.pick [0] rfl) rfl (qfG 12 rfl (by kernel_rfl) rfl (bits 25 8191) (by kernel_rfl) (by kernel_rfl) (h.pick [0] rfl) rfl (qfG 13 rfl (by kernel_rfl) rfl (bits 25 16383) (by kernel_rfl) (by kernel_rfl) (h.pick [0] rfl) rfl (qfG 14 rfl (by kernel_rfl) rfl (bits 25 32767) (by kernel_rfl) (by kernel_rfl) (h.pick [0] rfl) rfl (qfG 15 rfl (by kernel_rfl) rfl (bits 25 65535) (by kernel_rfl) (by kernel_rfl) (h.pick [0] rfl) rfl (qfG 16 rfl (by kernel_rfl) rfl (bits 25 131071) (by kernel_rfl) (by kernel_rfl) (h.pick [0] rfl) rfl (qfG 17 rfl (by kernel_rfl) rfl (bits 25 262143) (by kernel_rfl) (by kernel_rfl) (h.pick [0] rfl) rfl (qfG 18 rfl (by kernel_rfl) rfl (bits 25 524287) (by kernel_rfl) (by kernel_rfl) (h.pick [0] rfl) rfl (qfG 19 rfl (by kernel_rfl) rfl (bits 25 1048575) (by kernel_rfl) (by kernel_rfl) (h.pick [0] rfl) rfl (qfG 20 rfl (by kernel_rfl) rfl (bits 25 2097151) (by kernel_rfl) (by kernel_rfl) (h.pick [0] rfl) rfl (qfG 21 rfl (by kernel_rfl) rfl (bits 25 4194303) (by kernel_rfl) (by kernel_rfl) (h.pick [0] rfl) rfl (qfG 22 rfl (by kernel_rfl) rfl (bits 25 8388607) (by kernel_rfl) (by kernel_rfl) (h.pick [0] rfl) rfl (qfG 23 rfl (by kernel_rfl) rfl (bits 25 16777215) (by kernel_rfl) (by kernel_rfl) (h.pick [0] rfl) rfl (M0 33554431 [24] (h.pick [0] rfl) rfl (Ad (qcO rfl rfl (X0 6 rfl ?_))))))))))))))))))))))))
  replace h:=h.pick [1] rfl
  exact rK ⟨_,hF,rfl,h⟩ rfl
 refine qr rfl ?_
 obtain rfl:=qa hF;replace hF:=hK1
 exact X0 7 rfl (rb h hF rfl)
end Go.Fw


namespace Go.Fw
open Go
set_option maxRecDepth 100000
instance:Inhabited qe:=⟨⟨0,0,0⟩⟩
def cplB (b:qk) (y:qe):Bool:=netB b.Ab y.A&&(netB b.Ab y.B&&(decide (y.A<y.B)&&inI y.Bo 1 10000))
def ltC (x y:qe):Bool:=decide (x.A<y.A) || ((x.A==y.A)&&decide (x.B<y.B))
def cplsB (b:qk) (ks:List qe):Bool:=allN (fun j=>cplB b (gt ks j)&&(decide (j=0) || ltC (gt ks (j-1)) (gt ks j))) ks.length&&decide (ks.length≤20)
def cmp3 (x y:Int):Int:=if x<y then -1 else if x > y then 1 else 0
theorem qus {n:Nat} {x y:Int}:qdJ n x y=some (cmp3 x y):=by
 simp only [qdJ,qfU,bne_self_eq_false,jd,cond_false]
 unfold cmp3
 by_cases h1:x<y
 ·simp [h1]
 ·by_cases h2:x > y
  ·simp [h1,h2]
  ·simp [h1,h2]
theorem or3 {x y:Int} {n:Nat}:qfH [x,y] (n+3) 0=bif x != 0 then some (.ret x) else bif y != 0 then some (.ret y) else some (.nxt 2):=rfl
theorem quD {x y:Int}:Ev (fun n=>qjn n [x,y]) (if x=0 then y else x):=by
 unfold qjn
 refine Ev.bind (b:=bif x != 0 then .ret x else bif y != 0 then .ret y else .nxt 2) (Ev.succ (Ev.succ (Ev.succ ?_))) ?_
 ·refine ⟨0,fun n _=>?_⟩
  show qfH [x,y] (n+3) 0=_
  rw [or3]
  cases (x != 0)<;>cases (y != 0)<;>rfl
 ·by_cases h1:x=0
  ·subst h1
   by_cases h2:y=0
   ·subst h2;exact .done
   ·have:(y != 0)=true:=by simpa using h2
    rw [this];exact .done
  ·have:(x != 0)=true:=by simpa using h1
   rw [this,if_neg h1];exact .done
theorem qum {x y:qe}:decide ((if cmp3 x.A y.A=0 then cmp3 x.B y.B else cmp3 x.A y.A) ≥ 0) = !ltC x y:=by
 unfold cmp3 ltC
 by_cases h1:x.A<y.A
 ·simp [h1]
 ·by_cases h2:x.A > y.A
  ·have:¬ x.A=y.A:=by omega
   simp [h1,h2,this]
  ·have:x.A=y.A:=by omega
   rw [this]
   by_cases h3:x.B<y.B
   ·simp [h3]
   ·by_cases h4:x.B > y.B
    ·simp [h3,h4]
    ·simp [h3,h4]
theorem qml {b:qk} {ks:List qe} (hn:b.Ab.Ah.length≤1048576) (hl:ks.length≤1048576):Ev (fun n=>qcw n b ks) (cplsB b ks):=by
 have hL:Ev (fun n=>qai b ks n 0) (bif allN (fun j=>cplB b (gt ks j)&&(decide (j=0) || ltC (gt ks (j-1)) (gt ks j))) ks.length then .nxt (ks.length:Int) else .ret false):=by
  refine qde ?_ (fun j hj X hX=>Ev.succ ?_)
  ·exact Ev.succ (by simp only [qai,qj (je _),cond_false];exact .done)
  ·simp only [qai,qi hj,cond_true,qN hj,jd,wS j,qns (d:=⟨b.Ab.Aa,b.Ab.Ah,b.Ab.Af⟩) hn,qcq,qus,qbb]
   refine Ev.chkT ?_ fun _=>?_
   ·unfold cplB
    refine Ev.orBP fun _=>Ev.orBP fun _=>?_
    rw [show decide ((gt ks j).A ≥ (gt ks j).B) = !decide ((gt ks j).A<(gt ks j).B) by rw [jh];simp,qbb]
    exact Ev.orBP fun _=>.done
   ·by_cases h0:j=0
    ·subst h0
     exact Ev.ff (by decide) hX
    ·have e2:decide (j=0)=false:=by simp;omega
     have e3:decide ((j:Int) > 0)=true:=by simp;omega
     rw [e2,e3,qdk (show j≤9223372036854775807 by omega),show (j:Int)-1=((j-1:Nat):Int) by omega,qN (show j-1<ks.length by omega)]
     simp only [cond_true,jd,Bool.false_or]
     refine Ev.bind quD ?_
     rw [qum]
     simp only [qbb]
     exact Ev.okP1 fun _=>hX
 unfold qcw cplsB
 refine Ev.bind hL ?_
 cases allN (fun j=>cplB b (gt ks j)&&(decide (j=0) || ltC (gt ks (j-1)) (gt ks j))) ks.length
 ·exact .done
 ·refine Ev.now ?_
  show some (decide ((ks.length:Int)≤((20:Nat):Int)))=some (true&&decide (ks.length≤20))
  rw [qiG,jA]
theorem qmI {b:qk} {ks:List qe} (hn:b.Ab.Ah.length≤1048576) (hl:ks.length≤1048576):Ev (fun n=>qeU n b ks) (cplsB b ks):=by
 have hL:Ev (fun n=>qaW b ks n 0) (bif allN (fun j=>cplB b (gt ks j)&&(decide (j=0) || ltC (gt ks (j-1)) (gt ks j))) ks.length then .nxt (ks.length:Int) else .ret false):=by
  refine qde ?_ (fun j hj X hX=>Ev.succ ?_)
  ·exact Ev.succ (by simp only [qaW,qj (je _),cond_false];exact .done)
  ·simp only [qaW,qi hj,cond_true,qN hj,jd,wS j,ql3 hn,qef,qdk (show b.Ab.Ah.length≤9223372036854775807 by omega)]
   rw [show inI (gt ks j).A 0 ((b.Ab.Ah.length:Int)-1)=netB b.Ab (gt ks j).A from rfl]
   refine Ev.chkT ?_ fun _=>?_
   ·unfold cplB
    simp only [qbb]
    refine Ev.orBP fun hA=>?_
    have hA':0≤(gt ks j).A∧(gt ks j).A≤(b.Ab.Ah.length:Int)-1:=qbG.1 hA
    rw [qZ (show -9223372036854775808≤(gt ks j).A+1 by omega) (by omega)]
    rw [←Bool.and_assoc]
    have e:inI (gt ks j).B ((gt ks j).A+1) ((b.Ab.Ah.length:Int)-1)=(netB b.Ab (gt ks j).B&&decide ((gt ks j).A<(gt ks j).B)):=by
     unfold netB inI
     rw [jh];simp;omega
    rw [e]
    exact Ev.orBP fun _=>.done
   ·by_cases h0:j=0
    ·subst h0
     exact Ev.ff (by decide) hX
    ·have e2:decide (j=0)=false:=by simp;omega
     have e3:decide ((j:Int) > 0)=true:=by simp;omega
     rw [e2,e3,qdk (show j≤9223372036854775807 by omega),show (j:Int)-1=((j-1:Nat):Int) by omega,qN (show j-1<ks.length by omega)]
     simp only [cond_true,jd,Bool.false_or]
     unfold ltC
     by_cases h1:(gt ks (j-1)).A > (gt ks j).A
     ·have h2:¬ (gt ks (j-1)).A<(gt ks j).A:=by omega
      have h3:¬ (gt ks (j-1)).A=(gt ks j).A:=by omega
      simp only [h1,h2,h3,decide_true,decide_false,cond_true,Bool.false_or,beq_eq_false_iff_ne.2 h3,Bool.false_and,cond_false]
      exact .done
     ·by_cases h3:(gt ks (j-1)).A=(gt ks j).A
      ·have h2:¬ (gt ks (j-1)).A<(gt ks j).A:=by omega
       simp only [h1,h2,decide_false,cond_false,Bool.false_or,beq_iff_eq.2 h3,cond_true,jA]
       rw [show decide ((gt ks (j-1)).B ≥ (gt ks j).B) = !decide ((gt ks (j-1)).B<(gt ks j).B) by rw [jh];simp]
       simp only [qbb]
       exact Ev.okP1 fun _=>hX
      ·have h2:(gt ks (j-1)).A<(gt ks j).A:=by omega
       simp only [h1,h2,decide_false,decide_true,cond_false,beq_eq_false_iff_ne.2 h3,Bool.true_or,cond_true]
       exact hX
 unfold qeU cplsB
 refine Ev.bind hL ?_
 cases allN (fun j=>cplB b (gt ks j)&&(decide (j=0) || ltC (gt ks (j-1)) (gt ks j))) ks.length
 ·exact .done
 ·refine Ev.now ?_
  show some (decide ((ks.length:Int)≤((20:Nat):Int)))=some (true&&decide (ks.length≤20))
  rw [qiG,jA]
end Go.Fw


namespace Go.Fw
open Go
set_option maxRecDepth 100000
def off (d:qc) (i:Nat):Nat:=(plI d i).length
def place1 (d:qc) (i k:Nat):Tplace:=⟨(i:Int),(k:Int),at0 (gt d.Aa i).Ah k,decide (k+1=(gt d.Aa i).Ah.length)⟩
def place2 (d:qc) (i:Nat):Tplace:=⟨-1,(i:Int),(gt d.Af i).Bp,(gt d.Af i).Bm==1⟩
theorem qi6 {d:qc} {i:Nat}:off d (i+1)=off d i+(gt d.Aa i).Ah.length:=by
 unfold off;rw [qkf,jm,qmO]
theorem qs3 {d:qc} {i j:Nat} (h:i≤j):off d i≤off d j:=by
 induction j with
 | zero =>
  obtain rfl:i=0:=by omega
  exact je _
 | succ j ih =>
  rcases Nat.lt_or_eq_of_le h with h|rfl
  ·rw [qi6];have:=ih (by omega);omega
  ·exact je _
theorem qf8 {d:qc}:(places d).length=off d d.Aa.length+d.Af.length:=by
 unfold places off;rw [jm,qmS]
theorem quu {d:qc} {n i k:Nat} (hi:i<n) (hk:k<(gt d.Aa i).Ah.length):off d i+k<off d n∧gt (plI d n) (off d i+k)=place1 d i k:=by
 induction n with
 | zero=>omega
 | succ n ih =>
  rw [qkf,qkr]
  rcases Nat.lt_succ_iff_lt_or_eq.1 hi with h|rfl
  ·obtain ⟨h1,h2⟩:=ih h
   refine ⟨by rw [qi6];omega,?_⟩
   rw [if_pos (show off d i+k<(plI d n).length from h1),h2]
  ·refine ⟨by rw [qi6];omega,?_⟩
   rw [if_neg (by unfold off;omega),show off d i+k-(plI d i).length=k by unfold off;omega]
   exact qnz hk
theorem qlR {d:qc} {i k:Nat} (hi:i<d.Aa.length) (hk:k<(gt d.Aa i).Ah.length):off d i+k<(places d).length∧gt (places d) (off d i+k)=place1 d i k:=by
 obtain ⟨h1,h2⟩:=quu hi hk
 refine ⟨by rw [qf8];omega,?_⟩
 unfold places
 rw [qkr,if_pos (show off d i+k<(plI d d.Aa.length).length from h1),h2]
theorem qn9 {d:qc} {i:Nat} (hi:i<d.Af.length):off d d.Aa.length+i<(places d).length∧gt (places d) (off d d.Aa.length+i)=place2 d i:=by
 refine ⟨by rw [qf8];omega,?_⟩
 unfold places
 rw [qkr,if_neg (by unfold off;omega),show off d d.Aa.length+i-(plI d d.Aa.length).length=i by unfold off;omega]
 exact qnz hi
theorem qrv {d:qc} {n j:Nat} (hj:j<off d n):∃ i k,i<n∧k<(gt d.Aa i).Ah.length∧j=off d i+k:=by
 induction n with
 | zero=>exact absurd hj (Nat.not_lt_zero _)
 | succ n ih =>
  by_cases h:j<off d n
  ·obtain ⟨i,k,h1,h2,h3⟩:=ih h
   exact ⟨i,k,by omega,h2,h3⟩
  ·rw [qi6] at hj
   exact ⟨n,j-off d n,by omega,by omega,by omega⟩
theorem qpV {d:qc} {j:Nat} (hj:j<(places d).length) :
  (∃ i k,i<d.Aa.length∧k<(gt d.Aa i).Ah.length∧j=off d i+k∧gt (places d) j=place1 d i k) ∨
  (∃ i,i<d.Af.length∧j=off d d.Aa.length+i∧gt (places d) j=place2 d i):=by
 rw [qf8] at hj
 by_cases h:j<off d d.Aa.length
 ·obtain ⟨i,k,h1,h2,rfl⟩:=qrv h
  exact .inl ⟨i,k,h1,h2,rfl,(qlR h1 h2).2⟩
 ·refine .inr ⟨j-off d d.Aa.length,by omega,by omega,?_⟩
  have:=(qn9 (d:=d) (i:=j-off d d.Aa.length) (by omega)).2
  rwa [show off d d.Aa.length+(j-off d d.Aa.length)=j by omega] at this
def drvQ (d:qc) (k:Int) (j:Nat):Bool:=((gt (places d) j).net==k)&&(gt (places d) j).drives
theorem qpm {q:Nat→Bool} {m n:Nat}:cntP q (m+n)=cntP q m+cntP (fun j=>q (m+j)) n:=by
 induction n with
 | zero=>rfl
 | succ n ih =>
  show cntP q (m+n)+(bif q (m+n) then 1 else 0)=cntP q m+(cntP (fun j=>q (m+j)) n+(bif q (m+n) then 1 else 0))
  rw [ih];omega
theorem qrJ {q:Nat→Bool} {n:Nat} {b:Bool} (h:1≤n) (h1:∀ j,j+1<n→q j=false) (h2:q (n-1)=b):cntP q n=bif b then 1 else 0:=by
 obtain ⟨m,rfl⟩:∃ m,n=m+1:=⟨n-1,by omega⟩
 show cntP q m+(bif q m then 1 else 0)=_
 rw [qlE.2 (fun j hj=>h1 j (by omega)),show m=m+1-1 by omega,h2,jP]
theorem qqQ {d:qc} {k:Nat} (hs:smallD d):cntP (drvQ d (k:Int)) (places d).length=drvI d k d.Aa.length+drvP d k d.Af.length:=by
 rw [qf8,qpm]
 congr 1
 ·have:∀ n,n≤d.Aa.length→cntP (drvQ d (k:Int)) (off d n)=drvI d k n:=by
   intro n
   induction n with
   | zero=>intro _;rfl
   | succ n ih =>
    intro hn
    rw [qi6,qpm,ih (by omega),qlL]
    congr 1
    have h2:=(hs.nx n (by omega)).1
    refine qrJ (by omega) (fun j hj=>?_) ?_
    ·show drvQ d _ (off d n+j)=false
     unfold drvQ
     rw [(qlR (by omega) (by omega)).2]
     unfold place1
     simp;omega
    ·show drvQ d _ (off d n+_)=_
     unfold drvQ
     rw [(qlR (by omega) (by omega)).2]
     unfold place1 lastN
     simp;omega
  exact this _ (je _)
 ·refine qqu (fun j hj=>?_)
  show drvQ d _ (off d _+j)=_
  unfold drvQ
  rw [(qn9 hj).2]
  unfold place2
  exact Bool.and_comm _ _
theorem qq1 {l:qn} {d:qc} (h:designB l d=true) {k:Nat} (hk:k<d.Ah.length):cntP (drvQ d (k:Int)) (places d).length=1:=by
 rw [qqQ (qbs h)]
 unfold designB drvB at h
 simp only [jf] at h
 have:=qap.1 h.2.2.2 k hk
 rw [beq_iff_eq] at this
 omega
theorem qpS {l:qn} {d:qc} (h:designB l d=true) {i j:Nat} (hi:i<(places d).length) (hj:j<(places d).length) (he:(gt (places d) i).net=(gt (places d) j).net) (h1:(gt (places d) i).drives=true) (h2:(gt (places d) j).drives=true):i=j:=by
 obtain ⟨n0,n1⟩:=qkT h hi
 have e:=qj4 n0
 have:=qq1 h (k:=(gt (places d) i).net.toNat) (by omega)
 refine qpX (Nat.le_of_eq this) hi hj ?_ ?_
 ·unfold drvQ;rw [←e,h1];simp
 ·unfold drvQ;rw [←e,h2,he];simp
theorem quw {l:qn} {d:qc} (h:designB l d=true) {k:Int} (h0:0≤k) (h1:k<d.Ah.length):∃ j,j<(places d).length∧(gt (places d) j).net=k∧(gt (places d) j).drives=true:=by
 have e:=qj4 h0
 have:=qq1 h (k:=k.toNat) (by omega)
 have hp:decide (0<cntP (drvQ d ((k.toNat:Nat):Int)) (places d).length)=true:=by rw [this];rfl
 rw [qp0,ju,qjk] at hp
 obtain ⟨j,hj,hq⟩:=hp
 rw [Bool.not_eq_false',←e] at hq
 unfold drvQ at hq
 simp only [jf,beq_iff_eq] at hq
 exact ⟨j,hj,hq.1,hq.2⟩
def cellAt (b:qk) (i:Int):qp:=gt b.Au.Ak (gt b.Ab.Aa i.toNat).Bl.toNat
theorem qlI {l:qn} {d:qc} (h:designB l d=true) {i:Nat} (hi:i<d.Aa.length) :
  (0≤(gt d.Aa i).Bl∧(gt d.Aa i).Bl<l.Ak.length)∧(gt d.Aa i).Ah.length=(gt l.Ak (gt d.Aa i).Bl.toNat).Am.length∧cellB (gt l.Ak (gt d.Aa i).Bl.toNat)=true:=by
 unfold designB libB at h
 simp only [jf] at h
 obtain ⟨⟨⟨hc,_⟩,_⟩,hI,_⟩:=h
 rw [qhz,qap] at hI hc
 have:=hI i hi
 unfold instB at this
 simp only [jf,qbG,beq_iff_eq] at this
 exact ⟨⟨this.1.1,by omega⟩,by omega,hc _ (by omega)⟩
theorem qpA {c:qp} (h:cellB c=true) {j:Nat} (hj:j<c.Aj.length):(1≤(gt c.Aj j).Ay∧(gt c.Aj j).Ay≤5)∧(0≤(gt c.Aj j).Bd∧(gt c.Aj j).Bd<(c.Am.length:Int)-1)∧(0≤(gt c.Aj j).To∧(gt c.Aj j).To≤(c.Am.length:Int)-1)∧arcS c.Am (gt c.Aj j)=true:=by
 unfold cellB at h
 simp only [jf] at h
 obtain ⟨_,hp,⟨ha,_⟩,_,_,hk⟩:=h
 have:=qap.1 ha j hj
 rw [jf,qse hp (qoC hk)] at this
 have h1:=this.1
 refine ⟨qop h1,?_⟩
 have h2:=h1
 unfold arcS at h2
 simp only [jf,qbG] at h2
 refine ⟨⟨h2.1.1.1,by omega⟩,h2.1.2,h1⟩
theorem qnc {c:qp} (h:cellB c=true):c.Aj.length≤8:=by
 unfold cellB at h
 simp only [jf,decide_eq_true_eq] at h
 exact h.2.2.1.2
theorem qcC {b:qk} (h:blockB b=true):designB b.Au b.Ab=true:=by
 unfold blockB at h;simp only [jf] at h;exact h.1.1
end Go.Fw


namespace Go.Fw
open Go
set_option maxRecDepth 100000
theorem qrQ {d:qc} {k:Int} {n i:Nat} (hi:i<(sinksL d k n).length):∃ y:Nat,y<n∧idx (sinksL d k n) (i:Int)=some (y:Int)∧snkQ d k y=true:=by
 rw [qf6 hi]
 have hm:(sinksL d k n)[i] ∈ sinksL d k n:=js hi
 generalize (sinksL d k n)[i]=z at hm
 unfold sinksL at hm
 obtain ⟨y,hy,rfl⟩:=List.mem_map.1 hm
 obtain ⟨h1,h2⟩:=List.mem_filter.1 hy
 exact ⟨y,List.mem_range.1 h1,rfl,h2⟩
theorem qnO {d:qc} {k:Int} (h:smallD d):Ev (fun n=>qe3 n d k) (sinksL d k (places d).length):=by
 have hl:=qdQ h
 have hL:Ev (fun n=>qay k (places d) n ([]:List Int) 0) (sinksL d k (places d).length,((places d).length:Int)):=by
  refine loopF (Lf:=qay k (places d)) (S:=fun j=>sinksL d k j) (len:=(places d).length) (fun n=>?_) (fun j hj X hX=>?_)
  ·simp only [qay,qj (je _),cond_false]
  ·have hc:(sinksL d k j).length+[(j:Int)].length≤2147483648:=by
    rw [qgS]
    have:cntP (snkQ d k) j≤j:=qe0
    simp;omega
   simp only [qay,qi hj,cond_true,qN hj,jd,wS j]
   rw [qhj] at hX
   unfold snkQ at hX
   cases h1:((gt (places d) j).net==k)
   ·rw [h1] at hX
    simp only [Bool.false_and,cond_false,List.append_nil] at hX ⊢
    exact hX
   ·cases h2:(gt (places d) j).drives
    ·rw [h1,h2] at hX
     simp only [Bool.not_false,Bool.and_self,cond_true,qdV hc,jd] at hX ⊢
     exact hX
    ·rw [h1,h2] at hX
     simp only [Bool.not_true,Bool.and_false,cond_false,List.append_nil,cond_true] at hX ⊢
     exact hX
 unfold qe3
 exact Ev.bind (qks h) (Ev.bind hL .done)
structure wireOk (b:qk) (i:Nat):Prop where
 lo:1≤(gt b.Ac i).Ai.length
 hi:(gt b.Ac i).Ai.length≤8
 res:(gt b.Ac i).Bn.length=(gt b.Ac i).Ai.length
 cap:(gt b.Ac i).Bk.length=(gt b.Ac i).Ai.length
 par:∀ j,0<j→j<(gt b.Ac i).Ai.length→0≤at0 (gt b.Ac i).Ai j∧at0 (gt b.Ac i).Ai j<j
 snk:(gt b.Ac i).Bg.length=(sinksL b.Ab (i:Int) (places b.Ab).length).length
 sin:∀ j,j<(gt b.Ac i).Bg.length→0≤at0 (gt b.Ac i).Bg j∧at0 (gt b.Ac i).Bg j<(gt b.Ac i).Ai.length
theorem qga {b:qk} (h:blockB b=true) {i:Nat} (hi:i<b.Ac.length):wireOk b i:=by
 unfold blockB at h
 rw [jf,qap] at h
 have:=h.2 i hi
 unfold wireB lenB at this
 simp only [jf,decide_eq_true_eq,beq_iff_eq] at this
 obtain ⟨⟨h1,h2⟩,h3,h4,h5,_,_,h6,h7⟩:=this
 refine ⟨h1,h2,by omega,by omega,fun j hj0 hj=>?_,?_,fun j hj=>?_⟩
 ·have:=qap.1 h5 j hj
  unfold treeB at this
  rw [show decide (j=0)=false by simp;omega] at this
  simp only [cond_false,qbG] at this
  omega
 ·rw [qgS]
  unfold snkN at h6
  omega
 ·rw [qhi (d:=0),qap] at h7
  have:=h7 j hj
  rw [qbG] at this
  unfold at0
  omega
theorem qqy {b:qk} (h:blockB b=true):b.Ac.length=b.Ab.Ah.length:=by
 unfold blockB at h
 simp only [jf,beq_iff_eq] at h
 omega
end Go.Fw


namespace Go.Fw
open Go
set_option maxRecDepth 100000
instance:Inhabited qaa:=⟨⟨0,0,0,0⟩⟩
instance:Inhabited qD:=⟨⟨0,0⟩⟩
theorem qtw {α:Type} {m:Nat} {z:α} (h:m≤2147483648):mkS (m:Int) z=some (List.replicate m z):=by
 unfold mkS big
 rw [if_pos ⟨by omega,by omega⟩,jy]
end Go.Fw


namespace Go.Fw
open Go
set_option maxRecDepth 100000
def sumZ (f:Nat→Int):Nat→Int
 | 0=>0
 | n+1=>sumZ f n+f n
def pinCap (b:qk) (p:Tplace):Int:=bif decide (p.instance_<0) then 0 else (gt (cellAt b p.instance_).Am p.pin.toNat).Bk
def capJ (b:qk) (j:Nat):Int:=pinCap b (gt (places b.Ab) j)
theorem qsc {b:qk} (h:blockB b=true) {j:Nat} (hj:j<(places b.Ab).length) {n:Nat}:qe2 n b.Ab b.Au (gt (places b.Ab) j)=some (capJ b j):=by
 have hd:=qcC h
 unfold capJ pinCap
 rcases qpV hj with ⟨i,k,hi,hk,_,e⟩|⟨i,hi,_,e⟩
 ·rw [e]
  obtain ⟨⟨c0,c1⟩,hn,_⟩:=qlI hd hi
  unfold place1 cellAt
  simp only [qe2,show decide ((i:Int)<0)=false by simp,cond_false,qN hi,jd,qix c0 c1,jy,qN (show k<(gt b.Au.Ak (gt b.Ab.Aa i).Bl.toNat).Am.length by omega)]
 ·rw [e];rfl
def skL (b:qk) (i:Nat):List Int:=sinksL b.Ab (i:Int) (places b.Ab).length
def addSink (b:qk) (w:qw) (sk:List Int) (t:List Int) (j:Nat):List Int:=setS t (at0 w.Bg j) (W64 (gt t (at0 w.Bg j).toNat+capJ b (at0 sk j).toNat))
def ldA (b:qk) (w:qw) (sk:List Int):Nat→List Int
 | 0=>w.Bk
 | j+1=>addSink b w sk (ldA b w sk j) j
def addUp (w:qw) (t:List Int) (j:Nat):List Int:=setS t (at0 w.Ai j) (W64 (gt t (at0 w.Ai j).toNat+gt t j))
def ldB (w:qw):Nat→List Int→List Int
 | 0,t=>t
 | j+1,t=>ldB w j (addUp w t (j+1))
def loadsL (b:qk) (i:Nat):List Int:=ldB (gt b.Ac i) ((gt b.Ac i).Ai.length-1) (ldA b (gt b.Ac i) (skL b i) (skL b i).length)
theorem qoT {b:qk} {w:qw} {sk:List Int} {j:Nat}:(ldA b w sk j).length=w.Bk.length:=by
 induction j with
 | zero=>rfl
 | succ j ih=>unfold ldA addSink;rw [qjb,ih]
theorem qtO {w:qw} {j:Nat} {t:List Int}:(ldB w j t).length=t.length:=by
 induction j generalizing t with
 | zero=>rfl
 | succ j ih=>unfold ldB addUp;rw [ih,qjb]
theorem qmV {b:qk} (h:blockB b=true) {i:Nat} (hi:i<b.Ac.length):(loadsL b i).length=(gt b.Ac i).Ai.length:=by
 unfold loadsL;rw [qtO,qoT,(qga h hi).cap]
theorem qkj {b:qk} (h:blockB b=true) {i:Nat}:(skL b i).length≤78:=by
 have hl:=qdQ (qbs (qcC h))
 unfold skL
 rw [qgS]
 have:cntP (snkQ b.Ab (i:Int)) (places b.Ab).length≤(places b.Ab).length:=qe0
 omega
theorem qsw {b:qk} {i j:Nat} (hj:j<(skL b i).length):∃ y:Nat,y<(places b.Ab).length∧at0 (skL b i) j=(y:Int)∧snkQ b.Ab (i:Int) y=true:=by
 obtain ⟨y,h1,h2,h3⟩:=qrQ hj
 exact ⟨y,h1,by have:=h2;rw [show (sinksL b.Ab (i:Int) (places b.Ab).length)=skL b i from rfl,qbQ hj] at this;exact Option.some.inj this,h3⟩
theorem qlb {b:qk} (h:blockB b=true) {i:Nat} (hi:i<b.Ac.length):Ev (fun n=>qce n b (i:Int)) (loadsL b i):=by
 have hw:=qga h hi
 have hs:=qbs (qcC h)
 have hlo:=hw.lo
 have hhi:=hw.hi
 have hcap:=hw.cap
 have hsm:=qkj h (i:=i)
 have e1:Ev (fun n=>qaJ b (gt b.Ac i) (places b.Ab) (skL b i) n (gt b.Ac i).Bk 0) (ldA b (gt b.Ac i) (skL b i) (skL b i).length,((skL b i).length:Int)):=by
  refine loopF (Lf:=qaJ b (gt b.Ac i) (places b.Ab) (skL b i)) (S:=ldA b (gt b.Ac i) (skL b i)) (len:=(skL b i).length) (fun n=>?_) (fun j hj X hX=>?_)
  ·simp only [qaJ,qj (je _),cond_false]
  ·obtain ⟨y,hy,ey,_⟩:=qsw hj
   have hjs:j<(gt b.Ac i).Bg.length:=by rw [hw.snk];exact hj
   have hsn:=hw.sin j hjs
   have hln:=qoT (b:=b) (w:=gt b.Ac i) (sk:=skL b i) (j:=j)
   simp only [qaJ,qi hj,cond_true,qbQ hj,ey,jd,qbQ hjs,qix hsn.1 (show at0 (gt b.Ac i).Bg j<((ldA b (gt b.Ac i) (skL b i) j).length:Int) by omega),qN hy,qsc h hy,wS j]
   have:ldA b (gt b.Ac i) (skL b i) (j+1)=setS (ldA b (gt b.Ac i) (skL b i) j) (at0 (gt b.Ac i).Bg j) (W64 (gt (ldA b (gt b.Ac i) (skL b i) j) (at0 (gt b.Ac i).Bg j).toNat+capJ b y)):=by
    show addSink _ _ _ _ _=_
    unfold addSink
    rw [ey,jy]
   rw [this] at hX
   exact hX
 have e2:∀ j t,t.length=(gt b.Ac i).Ai.length→j<(gt b.Ac i).Ai.length→Ev (fun n=>qaP (gt b.Ac i) n t (j:Int)) (ldB (gt b.Ac i) j t,0):=by
  intro j
  induction j with
  | zero =>
   intro t _ _
   refine Ev.succ ?_
   show Ev (fun n=>qaP (gt b.Ac i) (n+1) t 0) _
   unfold qaP
   exact Ev.ff rfl .done
  | succ j ih =>
   intro t ht hj
   have hp:=hw.par (j+1) (by omega) hj
   refine Ev.succ ?_
   simp only [qaP,show decide (((j+1:Nat):Int) > 0)=true from decide_eq_true (by omega),cond_true,qbQ hj,jd,qix hp.1 (show at0 (gt b.Ac i).Ai (j+1)<(t.length:Int) by omega),qN (show j+1<t.length by omega),show ((j+1:Nat):Int)-1=(j:Int) by omega,qZ (show -9223372036854775808≤(j:Int) by omega) (by omega)]
   exact ih _ (by rw [qjb];exact ht) (by omega)
 unfold qce qf2
 rw [qN hi]
 simp only [jd,qdV (show ([]:List Int).length+(gt b.Ac i).Bk.length≤2147483648 by simp;omega),List.nil_append]
 refine Ev.bind (qks hs) (Ev.bind (qnO hs) (Ev.bind e1 ?_))
 rw [qdk (show (gt b.Ac i).Bk.length≤9223372036854775807 by omega),show ((gt b.Ac i).Bk.length:Int)-1=(((gt b.Ac i).Ai.length-1:Nat):Int) by omega]
 exact Ev.bind (e2 _ _ (by rw [qoT];exact hcap) (by omega)) .done
structure LdOk (t:List Int) (L:Nat) (S:Int):Prop where
 len:t.length=L
 nn:∀ k,k<L→0≤gt t k
 sum:sumZ (gt t) L≤S
def dlL (w:qw) (ld:List Int):Nat→List Int
 | 0=>[0]
 | k+1=>dlL w ld k++[W64 (gt (dlL w ld k) (at0 w.Ai (k+1)).toNat+W64 (at0 w.Bn (k+1)*gt ld (k+1)))]
theorem qoK {w:qw} {ld:List Int} {k:Nat}:(dlL w ld k).length=k+1:=by
 induction k with
 | zero=>rfl
 | succ k ih=>unfold dlL;rw [jm,ih];rfl
def delaysL (b:qk) (i:Nat):List Int:=dlL (gt b.Ac i) (loadsL b i) ((gt b.Ac i).Ai.length-1)
def exactL (b:qk) (i:Nat):List Int:=(gt b.Ac i).Bg.map fun s=>gt (delaysL b i) s.toNat
theorem qqg {b:qk} (h:blockB b=true) {i:Nat} (hi:i<b.Ac.length):(delaysL b i).length=(gt b.Ac i).Ai.length:=by
 unfold delaysL
 rw [qoK]
 have:=(qga h hi).lo
 omega
theorem qtA {w:qw} {ld:List Int} {k m:Nat} (hm:k+1<m) (hp:at0 w.Ai (k+1)<((k+1:Nat):Int)) (_:0≤at0 w.Ai (k+1)) :
  setS (dlL w ld k++List.replicate (m-(k+1)) 0) ((k+1:Nat):Int) (W64 (gt (dlL w ld k++List.replicate (m-(k+1)) 0) (at0 w.Ai (k+1)).toNat+W64 (at0 w.Bn (k+1)*gt ld (k+1))))=dlL w ld (k+1)++List.replicate (m-(k+1+1)) 0:=by
 have hlen:=qoK (w:=w) (ld:=ld) (k:=k)
 have e1:gt (dlL w ld k++List.replicate (m-(k+1)) 0) (at0 w.Ai (k+1)).toNat=gt (dlL w ld k) (at0 w.Ai (k+1)).toNat:=by
  rw [qkr,if_pos (by omega)]
 rw [e1]
 unfold setS
 rw [jy,List.set_append,if_neg (by omega),hlen,Nat.sub_self,show m-(k+1)=(m-(k+1+1))+1 by omega,List.replicate_succ,List.set_cons_zero]
 show _=(dlL w ld k++[_])++_
 rw [jx]
 rfl
theorem qnR {b:qk} (h:blockB b=true) {i:Nat} (hi:i<b.Ac.length):Ev (fun n=>qdm n b (i:Int)) (delaysL b i):=by
 have hw:=qga h hi
 have hlo:=hw.lo
 have hhi:=hw.hi
 have hres:=hw.res
 have l1:=qmV h hi
 have hmk:mkS ((loadsL b i).length:Int) (0:Int)=some (List.replicate (loadsL b i).length 0):=qfm (by omega)
 have main:∀ d k,k+1+d=(gt b.Ac i).Ai.length→Ev (fun n=>qa3 (gt b.Ac i) (loadsL b i) (List.replicate (loadsL b i).length 0) n (dlL (gt b.Ac i) (loadsL b i) k++List.replicate ((gt b.Ac i).Ai.length-(k+1)) 0) ((k+1:Nat):Int)) (delaysL b i,((loadsL b i).length:Int)):=by
  intro d
  induction d with
  | zero =>
   intro k hk
   refine Ev.succ ?_
   simp only [qa3,List.length_replicate,qj (show (loadsL b i).length≤k+1 by omega),cond_false]
   refine Ev.now ?_
   rw [show (gt b.Ac i).Ai.length-(k+1)=0 by omega,List.replicate_zero,List.append_nil,l1,←hk]
   unfold delaysL
   rw [←hk]
   rfl
  | succ d ih =>
   intro k hk
   have hp:=hw.par (k+1) (by omega) (by omega)
   have hlen:=qoK (w:=gt b.Ac i) (ld:=loadsL b i) (k:=k)
   have hll:(dlL (gt b.Ac i) (loadsL b i) k++List.replicate ((gt b.Ac i).Ai.length-(k+1)) 0).length=(gt b.Ac i).Ai.length:=by rw [jm,List.length_replicate,hlen];omega
   refine Ev.succ ?_
   simp only [qa3,List.length_replicate,qi (show k+1<(loadsL b i).length by omega),cond_true,qbQ (show k+1<(gt b.Ac i).Ai.length by omega),jd,qix hp.1 (show at0 (gt b.Ac i).Ai (k+1)<((dlL (gt b.Ac i) (loadsL b i) k++List.replicate ((gt b.Ac i).Ai.length-(k+1)) 0).length:Int) by omega),
    qbQ (show k+1<(gt b.Ac i).Bn.length by omega),qN (show k+1<(loadsL b i).length by omega),qN (show k+1<(dlL (gt b.Ac i) (loadsL b i) k++List.replicate ((gt b.Ac i).Ai.length-(k+1)) 0).length by omega),qcL (show k+1<9223372036854775807 by omega)]
   rw [qtA (by omega) hp.2 hp.1]
   exact ih (k+1) (by omega)
 unfold qdm
 rw [qN hi]
 simp only [jd]
 refine Ev.bind (qlb h hi) ?_
 rw [hmk]
 simp only [jd]
 have:=main ((gt b.Ac i).Ai.length-1) 0 (by omega)
 have e0:dlL (gt b.Ac i) (loadsL b i) 0++List.replicate ((gt b.Ac i).Ai.length-(0+1)) 0=List.replicate (loadsL b i).length 0:=by
  rw [l1]
  show [(0:Int)]++_=_
  rw [show (gt b.Ac i).Ai.length=((gt b.Ac i).Ai.length-(0+1))+1 by omega,List.replicate_succ]
  rfl
 rw [e0] at this
 exact Ev.bind this .done
theorem qm2 {b:qk} (h:blockB b=true) {i:Nat} (hi:i<b.Ac.length):Ev (fun n=>qcP n b (i:Int)) (exactL b i):=by
 have hw:=qga h hi
 have hsl:(gt b.Ac i).Bg.length≤78:=by rw [hw.snk];exact qkj h
 have hdl:=qqg h hi
 have e3:Ev (fun n=>qar (delaysL b i) (gt b.Ac i) n ([]:List Int) 0) (exactL b i,((gt b.Ac i).Bg.length:Int)):=by
  refine loopF (Lf:=qar (delaysL b i) (gt b.Ac i)) (S:=fun j=>((gt b.Ac i).Bg.take j).map fun s=>gt (delaysL b i) s.toNat) (len:=(gt b.Ac i).Bg.length) (fun n=>?_) (fun j hj X hX=>?_)
  ·simp only [qar,qj (je _),cond_false,jO];rfl
  ·have hsn:=hw.sin j hj
   simp only [qar,qi hj,cond_true,qbQ hj,jd,qix hsn.1 (show at0 (gt b.Ac i).Bg j<((delaysL b i).length:Int) by omega),wS j]
   rw [qdV (by rw [jE,List.length_take,jD];omega)]
   have:((gt b.Ac i).Bg.take j).map (fun s=>gt (delaysL b i) s.toNat)++[gt (delaysL b i) (at0 (gt b.Ac i).Bg j).toNat]=((gt b.Ac i).Bg.take (j+1)).map fun s=>gt (delaysL b i) s.toNat:=by
    rw [List.take_succ_eq_append_getElem hj,jK,qsL hj];rfl
   rw [this]
   exact hX
 unfold qcP
 refine Ev.bind (qnR h hi) ?_
 rw [qN hi]
 simp only [jd]
 exact Ev.bind e3 .done
end Go.Fw


namespace Go.Fw
open Go
set_option maxRecDepth 100000
def pre {α:Type} (f:Nat→α) (j:Nat):List α:=(List.range j).map f
theorem qq9 {α:Type} {f:Nat→α} {j:Nat}:(pre f j).length=j:=by simp [pre]
theorem qsV {α:Type} {f:Nat→α} {j:Nat}:pre f j++[f j]=pre f (j+1):=by unfold pre;rw [List.range_succ,jK];rfl
theorem qrf {α:Type} {f:Nat→α} {j:Nat} (h:j≤1048576):appS (pre f j) [f j]=some (pre f (j+1)):=by
 rw [qdV (by rw [qq9,jD];omega),qsV]
theorem quh {α:Type} [Inhabited α] {f:Nat→α} {n j:Nat} (h:j<n):gt (pre f n) j=f j:=qnz h
theorem qq6 {α:Type} [Inhabited α] {f:Nat→α} {n j:Nat} (h:j<n):idx (pre f n) (j:Int)=some (f j):=by rw [qN (by rw [qq9];exact h),quh h]
theorem qoc {α:Type} {f g:Nat→α} {n:Nat} (h:∀ k,k<n→f k=g k):pre f n=pre g n:=List.map_congr_left fun k hk=>h k (List.mem_range.1 hk)
theorem qtN {α:Type} {f:Nat→α} {n k:Nat} {v:α}:setS (pre f n) (k:Int) v=pre (fun i=>if i=k then v else f i) n:=by
 unfold setS pre
 rw [jy]
 refine List.ext_getElem (by simp) fun i h1 h2=>?_
 rw [List.getElem_set]
 by_cases h:k=i
 ·subst h;simp
 ·rw [if_neg h];simp [show ¬ i=k from fun e=>h e.symm]
def fm {α:Type} (f:Nat→List α) (j:Nat):List α:=(List.range j).flatMap f
theorem qlf {α:Type} {f:Nat→List α} {j:Nat}:fm f (j+1)=fm f j++f j:=by unfold fm;rw [List.range_succ,List.flatMap_append];simp
theorem qnu {α:Type} {f:Nat→List α} {j c:Nat} (h:∀ i,i<j→(f i).length≤c):(fm f j).length≤c*j:=by
 induction j with
 | zero=>exact je _
 | succ j ih=>rw [qlf,jm];have:=ih (fun i hi=>h i (by omega));have:=h j (by omega);rw [Nat.mul_succ];omega
def transL (a:qF):List qD :=
 bif (a.Ay==2) then [⟨0,0⟩,⟨0,1⟩] else bif (a.Ay==3) then [⟨1,0⟩,⟨1,1⟩] else bif (a.Ay != 1) then [] else
 bif (a.Bi==1) then [⟨0,0⟩,⟨1,1⟩] else bif (a.Bi==2) then [⟨0,1⟩,⟨1,0⟩] else [⟨0,0⟩,⟨0,1⟩,⟨1,0⟩,⟨1,1⟩]
theorem qrB {a:qF} {n:Nat}:qdz n a=some (transL a):=by
 unfold qdz transL
 cases (a.Ay==2)
 ·cases (a.Ay==3)
  ·cases (a.Ay != 1)
   ·cases (a.Bi==1)
    ·cases (a.Bi==2)<;>rfl
    ·rfl
   ·rfl
  ·rfl
 ·rfl
theorem qnB {a:qF}:(transL a).length≤4:=by
 unfold transL
 cases (a.Ay==2)
 ·cases (a.Ay==3)
  ·cases (a.Ay != 1)
   ·cases (a.Bi==1)
    ·cases (a.Bi==2)<;>simp
    ·simp
   ·simp
  ·simp
 ·simp
def b01 (x:Int):Prop:=x=0∨x=1
theorem qrA {a:qF} {t:qD} (h:t ∈ transL a):b01 t.e0∧b01 t.e1:=by
 have main:∀ t ∈ [(⟨0,0⟩:qD),⟨0,1⟩,⟨1,0⟩,⟨1,1⟩],b01 t.e0∧b01 t.e1:=by
  intro t ht
  simp only [jR,jN,or_false] at ht
  rcases ht with rfl|rfl|rfl|rfl<;>simp [b01]
 refine main t ?_
 unfold transL at h
 revert h
 cases (a.Ay==2)
 ·cases (a.Ay==3)
  ·cases (a.Ay != 1)
   ·cases (a.Bi==1)
    ·cases (a.Bi==2)
     ·exact fun h=>h
     ·intro h;simp at h;rcases h with rfl|rfl<;>simp
    ·intro h;simp at h;rcases h with rfl|rfl<;>simp
   ·intro h;simp at h
  ·intro h;simp at h;rcases h with rfl|rfl<;>simp
 ·intro h;simp at h;rcases h with rfl|rfl<;>simp
def al1 (first:Int) (k:Nat) (a:qF) (t:qD):qaa:=⟨2*(first+a.Bd)+t.e0,2*(first+a.To)+t.e1,1,(k:Int)⟩
def arcLs (first:Int) (k:Nat) (a:qF):List qaa:=(transL a).map (al1 first k a)
def cellLs (c:qp) (first:Int) (j:Nat):List qaa:=fm (fun k=>arcLs first k (gt c.Aj k)) j
def instLs (b:qk) (j:Nat):List qaa:=fm (fun i=>cellLs (cellAt b (i:Int)) (off b.Ab i:Int) (cellAt b (i:Int)).Aj.length) j
theorem qom {first:Int} {k:Nat} {a:qF}:(arcLs first k a).length≤4:=by unfold arcLs;rw [jE];exact qnB
theorem qoP {b:qk} (h:blockB b=true) {i:Nat} (hi:i<b.Ab.Aa.length):Ev (fun n=>qdC n b (gt b.Ab.Aa i) (off b.Ab i:Int)) (cellLs (cellAt b (i:Int)) (off b.Ab i:Int) (cellAt b (i:Int)).Aj.length):=by
 have hd:=qcC h
 have hs:=qbs hd
 obtain ⟨⟨c0,c1⟩,hnl,hcb⟩:=qlI hd hi
 have ha:=qnc hcb
 have hpb:=(qgP (qkZ hcb)).1
 have hoff:off b.Ab i≤78:=by
  have:=qdQ hs
  rw [qf8] at this
  have:=qs3 (d:=b.Ab) (show i≤b.Ab.Aa.length by omega)
  omega
 show Ev _ (cellLs (gt b.Au.Ak (gt b.Ab.Aa i).Bl.toNat) (off b.Ab i:Int) (gt b.Au.Ak (gt b.Ab.Aa i).Bl.toNat).Aj.length)
 generalize hc:gt b.Au.Ak (gt b.Ab.Aa i).Bl.toNat=c at hnl hcb ha hpb ⊢
 have hL:Ev (fun n=>qaQ (off b.Ab i:Int) c n ([]:List qaa) 0) (cellLs c (off b.Ab i:Int) c.Aj.length,(c.Aj.length:Int)):=by
  refine loopF (Lf:=qaQ (off b.Ab i:Int) c) (S:=cellLs c (off b.Ab i:Int)) (len:=c.Aj.length) (fun n=>?_) (fun j hj X hX=>?_)
  ·simp only [qaQ,qj (je _),cond_false]
  ·have hk:=qpA hcb hj
   have hcl:(cellLs c (off b.Ab i:Int) j).length≤4*j:=qnu fun _ _=>qom
   simp only [qaQ,qi hj,cond_true,qN hj,jd,qrB,wS j]
   have hL2:Ev (fun n=>qaM (off b.Ab i:Int) (j:Int) (gt c.Aj j) (transL (gt c.Aj j)) n (cellLs c (off b.Ab i:Int) j) 0) (cellLs c (off b.Ab i:Int) (j+1),((transL (gt c.Aj j)).length:Int)):=by
    have h4:=qnB (a:=gt c.Aj j)
    have:=loopF (Lf:=qaM (off b.Ab i:Int) (j:Int) (gt c.Aj j) (transL (gt c.Aj j))) (S:=fun k=>cellLs c (off b.Ab i:Int) j++((transL (gt c.Aj j)).take k).map (al1 (off b.Ab i:Int) j (gt c.Aj j))) (len:=(transL (gt c.Aj j)).length) (fin:=(cellLs c (off b.Ab i:Int) (j+1),((transL (gt c.Aj j)).length:Int))) (fun n=>by
      simp only [qaM,qj (je _),cond_false,jO]
      show some (cellLs c _ j++arcLs _ j _,_)=some (fm _ (j+1),_)
      rw [qlf];rfl)
     (fun k hk2 X hX=>by
      have ht:=qrA (a:=gt c.Aj j) (t:=gt (transL (gt c.Aj j)) k) (by rw [qjD hk2];exact js hk2)
      have e0:W64 (W64 (2*W64 ((off b.Ab i:Int)+(gt c.Aj j).Bd))+(gt (transL (gt c.Aj j)) k).e0)=2*((off b.Ab i:Int)+(gt c.Aj j).Bd)+(gt (transL (gt c.Aj j)) k).e0:=by
       rcases ht.1 with e|e<;>rw [e,wO ((off b.Ab i:Int)+(gt c.Aj j).Bd),qZ (x:=2*((off b.Ab i:Int)+(gt c.Aj j).Bd)) (by omega) (by omega),qZ (by omega) (by omega)]
      have e1:W64 (W64 (2*W64 ((off b.Ab i:Int)+(gt c.Aj j).To))+(gt (transL (gt c.Aj j)) k).e1)=2*((off b.Ab i:Int)+(gt c.Aj j).To)+(gt (transL (gt c.Aj j)) k).e1:=by
       rcases ht.2 with e|e<;>rw [e,wO ((off b.Ab i:Int)+(gt c.Aj j).To),qZ (x:=2*((off b.Ab i:Int)+(gt c.Aj j).To)) (by omega) (by omega),qZ (by omega) (by omega)]
      simp only [qaM,qi hk2,cond_true,qN hk2,jd,e0,e1,wS k]
      rw [qdV (by rw [jm,jE,List.length_take,jD];omega),jx]
      have:((transL (gt c.Aj j)).take k).map (al1 (off b.Ab i:Int) j (gt c.Aj j))++[al1 (off b.Ab i:Int) j (gt c.Aj j) (gt (transL (gt c.Aj j)) k)]=((transL (gt c.Aj j)).take (k+1)).map (al1 (off b.Ab i:Int) j (gt c.Aj j)):=qem hk2
      have this2:((transL (gt c.Aj j)).take k).map (al1 (off b.Ab i:Int) j (gt c.Aj j))++[(⟨2*((off b.Ab i:Int)+(gt c.Aj j).Bd)+(gt (transL (gt c.Aj j)) k).e0,2*((off b.Ab i:Int)+(gt c.Aj j).To)+(gt (transL (gt c.Aj j)) k).e1,1,(j:Int)⟩:qaa)]=((transL (gt c.Aj j)).take (k+1)).map (al1 (off b.Ab i:Int) j (gt c.Aj j)):=this
      rw [this2]
      exact hX)
    simpa using this
   exact Ev.bind hL2 hX
 unfold qdC
 rw [qix c0 c1,hc]
 simp only [jd]
 exact Ev.bind hL .done
def dvN (d:qc) (k:Nat):Nat:=((List.range (places d).length).find? fun j=>drvQ d (k:Int) j).getD 0
theorem qi0 {l:qn} {d:qc} (h:designB l d=true) {k:Nat} (hk:k<d.Ah.length):dvN d k<(places d).length∧drvQ d (k:Int) (dvN d k)=true:=by
 obtain ⟨j,hj,hn,hdr⟩:=quw h (k:=(k:Int)) (by omega) (by omega)
 unfold dvN
 cases hf:(List.range (places d).length).find? fun j=>drvQ d (k:Int) j with
 | none =>
  have:=List.find?_eq_none.1 hf j (List.mem_range.2 hj)
  exact absurd (by unfold drvQ;rw [hn,hdr];simp) this
 | some i=>exact ⟨List.mem_range.1 (List.mem_of_find?_eq_some hf),by have:=List.find?_some hf;exact this⟩
theorem qlw {d:qc} {k:Int} {j:Nat}:drvQ d k j=true↔(gt (places d) j).net=k∧(gt (places d) j).drives=true:=by unfold drvQ;simp
theorem qpL {l:qn} {d:qc} (h:designB l d=true) {k:Nat} (hk:k<d.Ah.length) {j:Nat} (hj:j<(places d).length) (hn:(gt (places d) j).net=(k:Int)) (hd:(gt (places d) j).drives=true):dvN d k=j:=by
 obtain ⟨h1,h2⟩:=qi0 h hk
 obtain ⟨h3,h4⟩:=qlw.1 h2
 exact qpS h h1 hj (by rw [h3,hn]) h4 hd
def wl1 (dv:Nat) (s:Int) (k:Nat):List qaa:=[⟨2*(dv:Int),2*s,2,(k:Int)⟩,⟨2*(dv:Int)+1,2*s+1,2,(k:Int)⟩]
def wlN (b:qk) (i j:Nat):List qaa:=fm (fun k=>wl1 (dvN b.Ab i) (at0 (skL b i) k) k) j
def wireLs (b:qk) (j:Nat):List qaa:=fm (fun i=>wlN b i (skL b i).length) j
def linksL (b:qk):List qaa:=instLs b b.Ab.Aa.length++wireLs b b.Ac.length
def load0 (b:qk) (i:Nat):Int:=gt (loadsL b i) 0
def viewE (b:qk) (ex:List Int):Tview:=⟨b,places b.Ab,linksL b,pre (load0 b) b.Ac.length,pre (exactL b) b.Ac.length,ex⟩
def viewV (b:qk):Tview:=viewE b []
theorem qkU {b:qk} (h:blockB b=true) {j:Nat} (hj:j≤b.Ab.Aa.length):(instLs b j).length≤32*j:=by
 refine qnu fun i hi=>?_
 obtain ⟨_,_,hcb⟩:=qlI (qcC h) (show i<b.Ab.Aa.length by omega)
 have ha:=qnc hcb
 have:(cellLs (cellAt b (i:Int)) (off b.Ab i:Int) (cellAt b (i:Int)).Aj.length).length≤4*(cellAt b (i:Int)).Aj.length:=qnu fun _ _=>qom
 have e:(cellAt b (i:Int)).Aj.length≤8:=ha
 omega
theorem qq2 {b:qk} {i j:Nat}:(wlN b i j).length≤2*j:=qnu fun _ _=>je _
theorem qqz {b:qk} (h:blockB b=true) {j:Nat}:(wireLs b j).length≤156*j:=by
 refine qnu fun i _=>?_
 have:=qq2 (b:=b) (i:=i) (j:=(skL b i).length)
 have:=qkj h (i:=i)
 omega
theorem qnv {b:qk} (h:blockB b=true):Ev (fun n=>qhS n b) (some (viewV b)):=by
 have hd:=qcC h
 have hs:=qbs hd
 have hl:=qdQ hs
 have hni:=hs.ni
 have hnn:=hs.nn
 have hwl:=qqy h
 have e1:Ev (fun n=>qcz b n ([]:List qaa) 0 0) (instLs b b.Ab.Aa.length,(off b.Ab b.Ab.Aa.length:Int),(b.Ab.Aa.length:Int)):=by
  have:=loopF (τ:=List qaa × Int) (Lf:=fun n t j=>qcz b n t.1 t.2 j) (S:=fun j=>(instLs b j,(off b.Ab j:Int))) (len:=b.Ab.Aa.length) (fin:=(instLs b b.Ab.Aa.length,(off b.Ab b.Ab.Aa.length:Int),(b.Ab.Aa.length:Int))) (fun n=>by simp only [qcz,qj (je _),cond_false])
   (fun j hj X hX=>by
    have hil:=qkU h (show j≤b.Ab.Aa.length by omega)
    have hil1:=qkU h (show j+1≤b.Ab.Aa.length by omega)
    have hoff:=qi6 (d:=b.Ab) (i:=j)
    have hof:off b.Ab (j+1)≤78:=by
     rw [qf8] at hl
     have:=qs3 (d:=b.Ab) (show j+1≤b.Ab.Aa.length by omega)
     omega
    simp only [qcz,qi hj,cond_true,qN hj,jd,qaR,wS j]
    refine Ev.bind (qoP h hj) ?_
    have e:instLs b j++cellLs (cellAt b (j:Int)) (off b.Ab j:Int) (cellAt b (j:Int)).Aj.length=instLs b (j+1):=qlf.symm
    rw [qdV (by rw [←jm,e];omega),e,qZ (by omega) (by omega),show (off b.Ab j:Int)+((gt b.Ab.Aa j).Ah.length:Int)=((off b.Ab (j+1):Nat):Int) by omega]
    exact hX)
  exact this
 have hm1:mkS (b.Ac.length:Int) (0:Int)=some (vecI (fun _=>0) b.Ac.length):=qrr (by omega)
 have hm2:mkS (b.Ac.length:Int) ([]:List Int)=some (pre (fun _=>[]) b.Ac.length):=by
  rw [qtw (by omega)]
  congr 1
  refine List.ext_getElem (by simp [pre]) fun i h1 h2=>?_
  simp [pre]
 have e2:Ev (fun n=>qbY (places b.Ab) n (pre (fun _=>[]) b.Ac.length) (vecI (fun _=>0) b.Ac.length) 0) (pre (fun i=>skL b i) b.Ac.length,vecI (fun k=>(dvN b.Ab k:Int)) b.Ac.length,((places b.Ab).length:Int)):=by
  have hdv:∀ k,k<b.Ac.length→dvN b.Ab k<(places b.Ab).length:=fun k hk=>(qi0 hd (by omega)).1
  have:=loopF (τ:=List (List Int) × List Int) (Lf:=fun n t j=>qbY (places b.Ab) n t.1 t.2 j) (S:=fun j=>(pre (fun i=>sinksL b.Ab (i:Int) j) b.Ac.length,vecI (fun k=>if dvN b.Ab k<j then (dvN b.Ab k:Int) else 0) b.Ac.length)) (len:=(places b.Ab).length)
   (fin:=(pre (fun i=>skL b i) b.Ac.length,vecI (fun k=>(dvN b.Ab k:Int)) b.Ac.length,((places b.Ab).length:Int))) (fun n=>by
    simp only [qbY,qj (je _),cond_false]
    rw [qkJ (g:=fun k=>(dvN b.Ab k:Int)) (fun k hk=>if_pos (hdv k hk))]
    rfl)
   (fun j hj X hX=>by
    obtain ⟨n0,n1⟩:=qkT hd hj
    obtain ⟨k0,hk0⟩:∃ k0:Nat,(gt (places b.Ab) j).net=(k0:Int):=⟨_,qj4 n0⟩
    have hkl:k0<b.Ac.length:=by omega
    simp only [qbY,qi hj,cond_true,qN hj,jd,hk0,wS j,qqf hkl,qq6 (f:=fun i=>sinksL b.Ab (i:Int) j) hkl]
    cases hdr:(gt (places b.Ab) j).drives
    ·have e5:pre (fun i=>sinksL b.Ab (i:Int) (j+1)) b.Ac.length=setS (pre (fun i=>sinksL b.Ab (i:Int) j) b.Ac.length) (k0:Int) (sinksL b.Ab (k0:Int) j++[(j:Int)]):=by
      rw [qtN]
      refine qoc fun k hk=>?_
      rw [qhj]
      unfold snkQ
      rw [hk0,hdr]
      by_cases hkk:k=k0
      ·subst hkk;rw [if_pos rfl];simp
      ·rw [if_neg hkk,show (((k0:Int)==(k:Int))&&!false)=false by simp;omega];simp
     have e6:vecI (fun k=>if dvN b.Ab k<j+1 then (dvN b.Ab k:Int) else 0) b.Ac.length=vecI (fun k=>if dvN b.Ab k<j then (dvN b.Ab k:Int) else 0) b.Ac.length:=by
      refine qkJ fun k hk=>?_
      have hne:dvN b.Ab k ≠ j:=fun e=>by
       have:=(qlw.1 (qi0 hd (k:=k) (by omega)).2).2
       rw [e,hdr] at this;cases this
      by_cases h1:dvN b.Ab k<j
      ·rw [if_pos h1,if_pos (by omega)]
      ·rw [if_neg h1,if_neg (by omega)]
     rw [e5,e6] at hX
     simp only [cond_false]
     have hsl:(sinksL b.Ab (k0:Int) j).length≤j:=by rw [qgS];exact qe0
     rw [qdV (by rw [jD];omega)]
     exact hX
    ·have e5:pre (fun i=>sinksL b.Ab (i:Int) (j+1)) b.Ac.length=pre (fun i=>sinksL b.Ab (i:Int) j) b.Ac.length:=by
      refine qoc fun k hk=>?_
      rw [qhj]
      unfold snkQ
      rw [hdr];simp
     have hj0:=qpL hd (show k0<b.Ab.Ah.length by omega) hj hk0 hdr
     have e6:vecI (fun k=>if dvN b.Ab k<j+1 then (dvN b.Ab k:Int) else 0) b.Ac.length=setS (vecI (fun k=>if dvN b.Ab k<j then (dvN b.Ab k:Int) else 0) b.Ac.length) (k0:Int) (j:Int):=by
      rw [qst]
      refine qkJ fun k hk=>?_
      by_cases hkk:k=k0
      ·subst hkk;rw [if_pos rfl,hj0,if_pos (by omega)]
      ·rw [if_neg hkk]
       have hne:dvN b.Ab k ≠ j:=fun e=>by
        have:=(qlw.1 (qi0 hd (k:=k) (by omega)).2).1
        rw [e,hk0] at this;omega
       by_cases h1:dvN b.Ab k<j
       ·rw [if_pos h1,if_pos (by omega)]
       ·rw [if_neg h1,if_neg (by omega)]
     rw [e5,e6] at hX
     exact hX)
  simpa [sinksL,pre,vecI] using this
 have hL5:∀ (i k:Nat) (s:Int) (t:List qaa),i<b.Ac.length→0≤s→s≤78→t.length≤1000000→Ev (fun n=>qcD (vecI (fun k=>(dvN b.Ab k:Int)) b.Ac.length) (i:Int) (k:Int) s n t 0) (t++wl1 (dvN b.Ab i) s k,2):=by
  intro i k s t hi hs0 hs1 ht
  have hdv:=(qi0 hd (k:=i) (by omega)).1
  have hy:idx (vecI (fun k=>(dvN b.Ab k:Int)) b.Ac.length) (i:Int)=some (dvN b.Ab i:Int):=qqf hi
  refine Ev.succ ?_
  simp only [qcD,hy,jd]
  refine Ev.tt rfl ?_
  rw [wO (2*(dvN b.Ab i:Int)),wO (2*s),wO (2*(dvN b.Ab i:Int)+0),wO (2*s+0),qdV (by rw [jD];omega)]
  simp only [jd]
  refine Ev.succ ?_
  simp only [qcD,hy,jd]
  refine Ev.tt rfl ?_
  rw [show W64 (0+1)=1 from rfl,wO (2*(dvN b.Ab i:Int)),wO (2*s),wO (2*(dvN b.Ab i:Int)+1),wO (2*s+1),qdV (by rw [jm,jD,jD];omega)]
  simp only [jd]
  refine Ev.succ ?_
  simp only [qcD]
  refine Ev.ff rfl (Ev.now ?_)
  unfold wl1
  rw [jx,Int.add_zero,Int.add_zero]
  rfl
 have hL4:∀ (i:Nat) (t:List qaa),i<b.Ac.length→t.length≤900000→Ev (fun n=>qcE (vecI (fun k=>(dvN b.Ab k:Int)) b.Ac.length) (i:Int) (skL b i) n t 0) (t++wlN b i (skL b i).length,((skL b i).length:Int)):=by
  intro i t hi ht
  have hsm:=qkj h (i:=i)
  have:=loopF (Lf:=qcE (vecI (fun k=>(dvN b.Ab k:Int)) b.Ac.length) (i:Int) (skL b i)) (S:=fun k=>t++wlN b i k) (len:=(skL b i).length) (fin:=(t++wlN b i (skL b i).length,((skL b i).length:Int))) (fun n=>by simp only [qcE,qj (je _),cond_false])
   (fun k hk X hX=>by
    obtain ⟨y,hy,ey,_⟩:=qsw hk
    have hwn:=qq2 (b:=b) (i:=i) (j:=k)
    simp only [qcE,qi hk,cond_true,qbQ hk,jd,wS k]
    refine Ev.bind (hL5 i k (at0 (skL b i) k) (t++wlN b i k) hi (by omega) (by omega) (by rw [jm];omega)) ?_
    rw [jx,show wlN b i k++wl1 (dvN b.Ab i) (at0 (skL b i) k) k=wlN b i (k+1) from qlf.symm]
    exact hX)
  simpa [wlN,fm] using this
 have e3:Ev (fun n=>qcB b (pre (fun i=>skL b i) b.Ac.length) (vecI (fun k=>(dvN b.Ab k:Int)) b.Ac.length) n ([]:List (List Int)) ([]:List Int) (instLs b b.Ab.Aa.length) 0) (pre (exactL b) b.Ac.length,pre (load0 b) b.Ac.length,linksL b,(b.Ac.length:Int)):=by
  have hil:=qkU h (je _)
  have:=loopF (τ:=List (List Int) × List Int × List qaa) (Lf:=fun n t j=>qcB b (pre (fun i=>skL b i) b.Ac.length) (vecI (fun k=>(dvN b.Ab k:Int)) b.Ac.length) n t.1 t.2.1 t.2.2 j) (S:=fun j=>(pre (exactL b) j,pre (load0 b) j,instLs b b.Ab.Aa.length++wireLs b j)) (len:=b.Ac.length)
   (fin:=(pre (exactL b) b.Ac.length,pre (load0 b) b.Ac.length,linksL b,(b.Ac.length:Int))) (fun n=>by simp only [qcB,qj (je _),cond_false];rfl)
   (fun j hj X hX=>by
    have hw:=qga h hj
    have hlo:=hw.lo
    have hll:=qmV h hj
    have hwl2:=qqz h (j:=j)
    simp only [qcB,qi hj,cond_true,wS j]
    refine Ev.bind (qlb h hj) ?_
    rw [show idx (loadsL b j) (0:Int)=some (load0 b j) from qN (j:=0) (by omega)]
    simp only [jd]
    rw [qrf (by omega)]
    simp only [jd]
    refine Ev.bind (qm2 h hj) ?_
    rw [qrf (by omega),qq6 (f:=fun i=>skL b i) hj]
    simp only [jd]
    refine Ev.bind (hL4 j _ hj (by rw [jm];omega)) ?_
    rw [jx,show wireLs b j++wlN b j (skL b j).length=wireLs b (j+1) from qlf.symm]
    exact hX)
  simpa [wireLs,fm,pre] using this
 unfold qhS
 refine Ev.bind (qks hs) (Ev.bind e1 ?_)
 rw [hm1,hm2]
 simp only [jd]
 exact Ev.bind e2 (Ev.bind e3 .done)
end Go.Fw


namespace Go.Fw
open Go Go.Proofs
open Go.RowKit (Below)
set_option maxRecDepth 100000
set_option maxHeartbeats 1600000
variable {n:Nat} {w:World} {cs1 cs2 cs3 cs4 cs5 cs6 cs7 cs8 cs9:List Value}
def qg4 (n:Nat) (b:qk):Option Int :=
 (qd2 n (⟨b.Ab.Aa,b.Ab.Ah,b.Ab.Af⟩:qc)).bind fun r1 =>
 some (W64 (2*(r1.length:Int)))
theorem qlN {b:qk} (ha1:GoT.R w (old w) b cs1) {r:Int} (hF:qg4 n b=some r):RetV Tryz.prog 96 [GoT.v qk cs1] w r:=by
 obtain ⟨p1,k1,p2,k2,p3,k3,p4,k4,p5,k5,rfl,s1,s2,s3,s4,s5⟩:=qV ha1
 exact zV 8 Tryz.func96 rfl fun h=>zSR (qu h rfl rfl fun w1 bb1 h=>X1 6 0 h rfl (zcL h hF (qgh (qaG _ (h.oldS s2) (h.oldS s3) (h.oldS s4))) rfl fun r1 w2 S1 p6 k6 h hF=>X0 4 rfl (ri h hF rfl)))
def qiL (n:Nat) (s:qm):Option Bool :=
 (qX n s.As (-1000000000) 1000000000).bind fun r1 =>
 bif r1 then
  (qX n s.Ba (-1000000000) 1000000000).bind fun r2 =>
  bif r2 then some (decide (s.As≤s.Ba)) else
  some false
 else
  some false
theorem qnn {s:qm} (ha1:GoT.R w (old w) s cs1) {r:Bool} (hF:qiL n s=some r):RetV Tryz.prog 153 [GoT.v qm cs1] w r:=by
 obtain rfl:=qv ha1
 refine zV 18 Tryz.func153 rfl fun h=>zSR (qu h rfl rfl fun w1 bb1 h=>X1 6 0 h rfl (zcB h hF qR rfl fun r1 w2 h hF=>zp1 rfl (qg (t:=6) hF rfl ?_ ?_)))<;>intro hF
 ·refine X1 5 0 h rfl (zcB h hF qR rfl fun r2 w3 h hF=>zp2 rfl (qg (t:=11) hF rfl ?_ ?_))<;>intro hF
  ·exact X2 13 0 0 h rfl (rb h hF rfl)
  exact X0 8 rfl (rb h hF rfl)
 exact X0 13 rfl (rb h hF rfl)
def qg3 (_:Nat) (s:qm):Option Bool :=
 bif decide (s.As ≥ 0) then
  bif decide (s.As≤s.Ba) then some (decide (s.Ba≤1000000)) else
  some false
 else
  some false
theorem qlW {s:qm} (ha1:GoT.R w (old w) s cs1) {r:Bool} (hF:qg3 n s=some r):RetV Tryz.prog 197 [GoT.v qm cs1] w r:=by
 obtain rfl:=qv ha1
 refine zV 18 Tryz.func197 rfl fun h=>zSR (qu h rfl rfl fun w1 bb1 h=>X1 8 0 h rfl (qg (t:=6) hF rfl ?_ ?_))<;>intro hF
 ·refine X2 12 0 0 h rfl (qg (t:=13) hF rfl ?_ ?_)<;>intro hF
  ·exact X1 9 0 h rfl (rb h hF rfl)
  exact X0 6 rfl (rb h hF rfl)
 exact X0 13 rfl (rb h hF rfl)
def qiJ (n:Nat) (t:Int):Option Bool :=
 (qam n t (-1000000000) 1000000000).bind fun r1 =>
 some r1
theorem qkh {t:Int}  {r:Bool} (hF:qiJ n t=some r):RetV Tryz.prog 226 [.int .i64 t] w r:=by
 exact zV 5 Tryz.func226 rfl fun h=>X0 7 rfl (zcB h hF qac rfl fun r1 w1 h hF=>X0 2 rfl (rb h hF rfl))
def qht (n:Nat) (s:qm):Option Bool :=
 (qiJ n s.As).bind fun r1 =>
 bif r1 then
  (qiJ n s.Ba).bind fun r2 =>
  bif r2 then some (decide (s.As≤s.Ba)) else
  some false
 else
  some false
theorem qj0 {s:qm} (ha1:GoT.R w (old w) s cs1) {r:Bool} (hF:qht n s=some r):RetV Tryz.prog 158 [GoT.v qm cs1] w r:=by
 obtain rfl:=qv ha1
 refine zV 18 Tryz.func158 rfl fun h=>zSR (qu h rfl rfl fun w1 bb1 h=>X1 6 0 h rfl (zcB h hF qkh rfl fun r1 w2 h hF=>zp1 rfl (qg (t:=6) hF rfl ?_ ?_)))<;>intro hF
 ·refine X1 5 0 h rfl (zcB h hF qkh rfl fun r2 w3 h hF=>zp2 rfl (qg (t:=11) hF rfl ?_ ?_))<;>intro hF
  ·exact X2 13 0 0 h rfl (rb h hF rfl)
  exact X0 8 rfl (rb h hF rfl)
 exact X0 13 rfl (rb h hF rfl)
def qiN (n:Nat) (a_n:Int):Option Bool :=
 (qam n a_n 0 1000000).bind fun r1 =>
 some r1
theorem qjZ {a_n:Int}  {r:Bool} (hF:qiN n a_n=some r):RetV Tryz.prog 254 [.int .i64 a_n] w r:=by
 exact zV 5 Tryz.func254 rfl fun h=>X0 7 rfl (zcB h hF qac rfl fun r1 w1 h hF=>X0 2 rfl (rb h hF rfl))
def qg8 (n:Nat) (s:qm):Option Bool :=
 (qht n s).bind fun r1 =>
 bif r1 then
  (qiN n s.As).bind fun r2 =>
  bif r2 then
   (qiN n s.Ba).bind fun r3 =>
   some r3
  else
   some false
 else
  some false
theorem ql8 {s:qm} (ha1:GoT.R w (old w) s cs1) {r:Bool} (hF:qg8 n s=some r):RetV Tryz.prog 204 [GoT.v qm cs1] w r:=by
 obtain rfl:=qv ha1
 refine zV 15 Tryz.func204 rfl fun h=>zSR (qu h rfl rfl fun w1 bb1 h=>X1 5 0 h rfl (zcB h hF (qj0 (h.old ha1)) rfl fun r1 w2 h hF=>zp1 rfl (qg (t:=5) hF rfl ?_ ?_)))<;>intro hF
 ·refine X1 5 0 h rfl (zcB h hF qjZ rfl fun r2 w3 h hF=>zp2 rfl (qg (t:=10) hF rfl ?_ ?_))<;>intro hF
  ·exact X1 5 0 h rfl (zcB h hF qjZ rfl fun r3 w4 h hF=>X0 3 rfl (rb h hF rfl))
  exact X0 6 rfl (rb h hF rfl)
 exact X0 11 rfl (rb h hF rfl)
def qel (_:Nat) (list:(List Tplace)):Option Int :=
 some (list.length:Int)
theorem qiy {list:(List Tplace)} (ha1:GoT.R w (old w) list cs1) {r:Int} (hF:qel n list=some r):RetV Tryz.prog 246 [GoT.v (List Tplace) cs1] w r:=by
 obtain ⟨p1,k1,rfl,s1⟩:=ha1
 exact zV 5 Tryz.func246 rfl fun h=>X0 10 rfl (ri h hF rfl)
def qfR (n:Nat) (v:(Option Tview)):Option Int :=
 (v).bind fun y1 =>
 (qel n y1.places).bind fun r1 =>
 some (W64 (2*r1))
theorem qkX {v:(Option Tview)} (ha1:GoT.R w (old w) v cs1) {r:Int} (hF:qfR n v=some r):RetV Tryz.prog 183 [GoT.v (Option Tview) cs1] w r:=by
 obtain ⟨p1,rfl,s1⟩:=qi8 ha1
 refine zV 9 Tryz.func183 rfl fun h=>X0 7 rfl ?_
 obtain ⟨y1,hy1,hF⟩:=qf hF
 obtain ⟨b1,o_1,cs2,rfl,-,hr1,hc1⟩:=PtR.get s1 hy1
 obtain ⟨p2,k1,p3,k2,p4,k3,p5,k4,p6,k5,p7,k6,p8,k7,p9,k8,p10,k9,p11,k10,rfl,s2,s3,s4,s5,s6,s7,s8,s9,s10,s11⟩:=qnC hr1
 exact zp2 rfl (zc 5 (hc1.below h.below) rfl (zcI h hF (qiy ⟨_,_,rfl,(h.oldS s7)⟩) rfl fun r1 w1 h hF=>X0 3 rfl (ri h hF rfl)))
def qhb (_:Nat) (a:qm):Option qm :=
 some (⟨a.As,a.Ba⟩:qm)
theorem qnE {a:qm} (ha1:GoT.R w (old w) a cs1) {r:qm} (hF:qhb n a=some r):RetV Tryz.prog 127 [GoT.v qm cs1] w r:=by
 obtain rfl:=qv ha1
 refine zV 11 Tryz.func127 rfl fun h=>zSR (qu h rfl rfl fun w1 bb1 h=>qx qb h rfl rfl rfl fun w2 bb2 h=>zNSR (qx qb h rfl rfl rfl fun w3 bb3 h=>X1 6 2 h rfl (zs 0 h rfl fun w4 h=>X1 6 2 h rfl (zs 0 h rfl fun w5 h=>X1 4 0 h rfl (zs 1 h rfl fun w6 h=>qdj ?_)))))
 obtain rfl:=qa hF
 exact qaE qb (ρ:=qm) [GoT.v qm (qg6 a)] h ⟨⟨_,_,_,rfl,rfl,h.box 1 rfl,rfl⟩,trivial⟩ (PV.done h (qa1 (qK (S:=fun _=>False) (qS (⟨a.As,a.Ba⟩:qm)))))
def qhl (_:Nat) (a:qm) (b:qm):Option Bool :=
 bif (a.As != b.As) then some false else
 bif (a.Ba != b.Ba) then some false else
 some true
theorem qmZ {a:qm} {b:qm} (ha1:GoT.R w (old w) a cs1) (ha2:GoT.R w (old w) b cs2) {r:Bool} (hF:qhl n a b=some r):RetV Tryz.prog 139 [GoT.v qm cs1,GoT.v qm cs2] w r:=by
 obtain rfl:=qv ha1
 obtain rfl:=qv ha2
 refine zV 15 Tryz.func139 rfl fun h=>zSR (qu h rfl rfl fun w1 bb1 h=>qu h rfl rfl fun w2 bb2 h=>X2 11 1 0 h rfl (qh rfl hF ?_ ?_))<;>intro hF
 ·exact X0 4 rfl (rb h hF rfl)
 refine X2 10 1 0 h rfl (qh rfl hF ?_ ?_)<;>intro hF
 ·exact X0 4 rfl (rb h hF rfl)
 exact X0 5 rfl (rb h hF rfl)
def qgI (_:Nat) (list:(List Bool)):Option Int :=
 some (list.length:Int)
theorem qkC {list:(List Bool)} (ha1:GoT.R w (old w) list cs1) {r:Int} (hF:qgI n list=some r):RetV Tryz.prog 202 [GoT.v (List Bool) cs1] w r:=by
 obtain ⟨p1,k1,rfl,s1⟩:=ha1
 exact zV 5 Tryz.func202 rfl fun h=>X0 10 rfl (ri h hF rfl)
def qdl (_:Nat) (list:(List qm)):Option Int :=
 some (list.length:Int)
theorem qfI {list:(List qm)} (ha1:GoT.R w (old w) list cs1) {r:Int} (hF:qdl n list=some r):RetV Tryz.prog 203 [GoT.v (List qm) cs1] w r:=by
 obtain ⟨p1,k1,rfl,s1⟩:=ha1
 exact zV 5 Tryz.func203 rfl fun h=>X0 10 rfl (ri h hF rfl)
def qaH (a_1:qt):Nat→Int→Option (Flow Bool Int)
 | 0,_=>none
 | n+1,i1 =>
  bif decide (i1<(a_1.Aq.length:Int)) then
   (idx a_1.Aq i1).bind fun y1 =>
   (idx a_1.Ap i1).bind fun y2 =>
   (qht n y2).bind fun r2 =>
   bif (!r2) then some (.ret false) else
   (idx a_1.Az i1).bind fun y3 =>
   (qg8 n y3).bind fun r3 =>
   bif (!r3) then some (.ret false) else
   bif (!y1) then
    (idx a_1.Ap i1).bind fun y4 =>
    bif (!((y4.As==0)&&(y4.Ba==0))) then some (.ret false) else
    (idx a_1.Az i1).bind fun y5 =>
    bif (!((y5.As==0)&&(y5.Ba==0))) then some (.ret false) else
    qaH a_1 n (W64 (i1+1))
   else
    qaH a_1 n (W64 (i1+1))
  else
   some (.nxt i1)
def qeu (n:Nat) (a_0:(Option Tview)) (a_1:qt):Option Bool :=
 (qfR n a_0).bind fun r1 =>
 (
  (qgI n a_1.Aq).bind fun r4 =>
  bif (r4 != r1) then some true else
  (qdl n a_1.Ap).bind fun r5 =>
  bif (r5 != r1) then some true else
  (qdl n a_1.Az).bind fun r6 =>
  some (r6 != r1)).bind fun b1 =>
 bif b1 then some false else
 (qaH a_1 n 0).bind fun o=>match o with
 | .ret r=>some r
 | .nxt _ =>
  some true
theorem qjH {a_0:(Option Tview)} {a_1:qt} (ha1:GoT.R w (old w) a_0 cs1) (ha2:GoT.R w (old w) a_1 cs2) {r:Bool} (hF:qeu n a_0 a_1=some r):RetV Tryz.prog 128 [GoT.v (Option Tview) cs1,GoT.v qt cs2] w r:=by
 obtain ⟨p1,rfl,s1⟩:=qi8 ha1
 obtain ⟨p2,k1,p3,k2,p4,k3,rfl,s2,s3,s4⟩:=qaf ha2
 refine zV 76 Tryz.func128 rfl fun h=>zSR (qu h rfl rfl fun w1 bb1 h=>X0 5 rfl (zcI h hF (qkX (h.old s1)) rfl fun r1 w2 h hF=>X0 4 rfl ?_))
 obtain ⟨KF1,hKF1,o2,hF,hK2⟩:=bindE hF
 refine qcx (fun e w'=>∃ (b1:Bool),KF1 b1=some r∧e=[(3,.pointer (some ⟨bb1,0,none⟩)),(28,.bool b1)]∧SH w w' [Ch.box bb1 (qaB a_1 p2 p3 p4 k1 k2 k3) 57]) ?_ ?_
 ·refine X1 3 0 h rfl (zcI h hF (qkC ⟨_,_,rfl,(h.oldS s2)⟩) rfl fun r4 w6 h hF=>zp3 rfl (qg (t:=15) hF rfl ?_ ?_))<;>intro hF
  ·refine X0 14 rfl ?_
   obtain rfl:=qa hF
   exact rG ⟨_,hK2,rfl,h⟩ rfl
  refine X1 5 0 h rfl (zcI h hF (qfI ⟨_,_,rfl,(h.oldS s3)⟩) rfl fun r5 w7 h hF=>X0 6 rfl (qg (t:=22) hF rfl ?_ ?_))<;>intro hF
  ·refine X0 7 rfl ?_
   obtain rfl:=qa hF
   exact rG ⟨_,hK2,rfl,h⟩ rfl
  refine X1 5 0 h rfl (zcI h hF (qfI ⟨_,_,rfl,(h.oldS s4)⟩) rfl fun r6 w8 h hF=>X0 6 rfl ?_)
  obtain rfl:=qa hF
  exact rG ⟨_,hK2,rfl,h⟩ rfl
 rintro e2 w9 ⟨b1,hF,rfl,h⟩
 subst hKF1
 refine qh rfl hF ?_ ?_<;>intro hF
 ·exact X0 4 rfl (rb h hF rfl)
 refine X1 9 0 h rfl ?_
 obtain ⟨o1,hF,hK1⟩:=qf hF
 refine ql (rL (fun m e w'=>∃ (i1:Int),qaH a_1 m i1=some o1∧e=[(3,.pointer (some ⟨bb1,0,none⟩)),(30,.slice p2 a_1.Aq.length k1),(31,.int .i64 (a_1.Aq.length:Int)),(32,.int .i64 i1)]∧SH w w' [Ch.box bb1 (qaB a_1 p2 p3 p4 k1 k2 k3) 57]) n ⟨_,hF,rfl,h⟩ rfl ?_)
 rintro m1 e1 w3 ⟨i1,hF,rfl,h⟩
 rcases m1 with _|m1
 ·cases hF
 refine X0 5 rfl (qh rfl hF ?_ ?_)<;>intro hF
 ·refine X0 6 rfl ?_
  obtain ⟨y1,hy1,hF,he1,b2,_,q1,cs3,hp1,hq1,rfl,hc3⟩:=s2.ix hF
  refine zxe hp1 hq1 he1 rfl (zc 0 (hc3.below h.below) rfl (X1 8 0 h rfl ?_))
  obtain ⟨y2,hy2,hF,he2,b3,_,q2,cs4,hp2,hq2,hr3,hc4⟩:=s3.ix hF
  obtain rfl:=qv hr3
  refine zxe hp2 hq2 he2 rfl (zc 0 (hc4.below h.below) rfl (zcB h hF (qj0 (qS y2)) rfl fun r2 w4 h hF=>zp2 rfl (qg (t:=44) hF rfl ?_ ?_)))<;>intro hF
  ·refine X0 31 rfl (qb2 rfl rfl (X0 4 rfl ?_))
   obtain rfl:=qa hF;replace hF:=hK1
   exact rb h hF rfl
  refine X1 7 0 h rfl ?_
  obtain ⟨y3,hy3,hF,he3,b4,_,q3,cs5,hp3,hq3,hr5,hc5⟩:=s4.ix hF
  obtain rfl:=qv hr5
  refine zxe hp3 hq3 he3 rfl (X0 1 rfl (zc 0 (hc5.below h.below) rfl (X0 1 rfl (zcB h hF (ql8 (qS y3)) rfl fun r3 w5 h hF=>X0 4 rfl (qg (t:=53) hF rfl ?_ ?_)))))<;>intro hF
  ·refine X0 22 rfl (qb2 rfl rfl (X0 4 rfl ?_))
   obtain rfl:=qa hF;replace hF:=hK1
   exact rb h hF rfl
  refine X0 6 rfl (qg (t:=56) hF rfl ?_ ?_)<;>intro hF
  ·refine X1 7 0 h rfl ?_
   obtain ⟨y4,hy4,hF,he4,b5,_,q4,cs6,hp4,hq4,hr7,hc6⟩:=s3.ix hF
   obtain rfl:=qv hr7
   refine zxe hp4 hq4 he4 rfl (X0 1 rfl (zc 0 (hc6.below h.below) rfl (X0 1 rfl (r_v (qdO qb [] [] rfl rfl rfl rfl rfl rfl rfl rfl) rfl (X0 1 rfl (r_v (qpe (by kernel_rfl) rfl rfl) rfl (X0 2 rfl (qg (t:=64) hF rfl ?_ ?_))))))))<;>intro hF
   ·refine X0 13 rfl (qb2 rfl rfl (X0 4 rfl ?_))
    obtain rfl:=qa hF;replace hF:=hK1
    exact rb h hF rfl
   refine X1 7 0 h rfl ?_
   obtain ⟨y5,hy5,hF,he5,b6,_,q5,cs7,hp5,hq5,hr8,hc7⟩:=s4.ix hF
   obtain rfl:=qv hr8
   refine zxe hp5 hq5 he5 rfl (X0 1 rfl (zc 0 (hc7.below h.below) rfl (X0 1 rfl (r_v (qdO qb [] [] rfl rfl rfl rfl rfl rfl rfl rfl) rfl (X0 1 rfl (r_v (qpe (by kernel_rfl) rfl rfl) rfl (X0 6 rfl (qh rfl hF ?_ ?_))))))))<;>intro hF
   ·refine X0 4 rfl ?_
    obtain rfl:=qa hF;replace hF:=hK1
    exact rb h hF rfl
   exact X0 6 rfl (rK ⟨_,hF,rfl,h⟩ rfl)
  exact X0 20 rfl (qcO rfl rfl (X0 6 rfl (rK ⟨_,hF,rfl,h⟩ rfl)))
 refine qr rfl ?_
 obtain rfl:=qa hF;replace hF:=hK1
 exact X0 4 rfl (rb h hF rfl)
end Go.Fw


namespace Go.Fw
open Go
set_option maxRecDepth 100000
structure LkOk (ls:List qaa) (M:Nat):Prop where
 len:ls.length≤10000
 nodes:M≤156
 fr0:∀ x,x<ls.length→0≤(gt ls x).Bd
 fr1:∀ x,x<ls.length→(gt ls x).Bd<(M:Int)
 to0:∀ x,x<ls.length→0≤(gt ls x).To
 to1:∀ x,x<ls.length→(gt ls x).To<(M:Int)
def frL (ls:List qaa) (x:Nat):Int:=(gt ls x).Bd
def toL (ls:List qaa) (x:Nat):Int:=(gt ls x).To
def lvL (lv:List Bool) (x:Nat):Bool:=gt lv x
abbrev ordL (ls:List qaa) (lv:List Bool) (M m:Nat) (R:List Nat):Option (List Nat):=ordN ls.length (frL ls) (toL ls) (lvL lv) M m R
section
variable {ls:List qaa} {lv:List Bool} {M:Nat} {ps:List Tplace} {b:qk} {lo:List Int} {de:List (List Int)} {ex:List Int}
end
end Go.Fw


namespace Go.Fw
open Go Go.Proofs
open Go.RowKit (Below)
set_option maxRecDepth 100000
set_option maxHeartbeats 1600000
variable {n:Nat} {w:World} {cs1 cs2 cs3 cs4 cs5 cs6 cs7 cs8 cs9:List Value}
def qlA (_:Nat) (a:qm) (b:qm):Option qm :=
 some (⟨(if b.As<a.As then b.As else a.As),(if b.Ba > a.Ba then b.Ba else a.Ba)⟩:qm)
theorem qmL {a:qm} {b:qm} (ha1:GoT.R w (old w) a cs1) (ha2:GoT.R w (old w) b cs2) {r:qm} (hF:qlA n a b=some r):RetV Tryz.prog 198 [GoT.v qm cs1,GoT.v qm cs2] w r:=by
 obtain rfl:=qv ha1
 obtain rfl:=qv ha2
 refine zV 16 Tryz.func198 rfl fun h=>zSR (qu h rfl rfl fun w1 bb1 h=>qu h rfl rfl fun w2 bb2 h=>qx qb h rfl rfl rfl fun w3 bb3 h=>X4 13 2 1 2 1 h rfl (r_v (qdO qb [0,1] [.tmp 9,.tmp 14] rfl rfl rfl rfl rfl rfl rfl rfl) rfl (zs 0 h rfl fun w4 h=>qdj ?_)))
 obtain rfl:=qa hF
 exact qaE qb (ρ:=qm) [GoT.v qm [.int .i64 (if b.As<a.As then b.As else a.As),.int .i64 (if b.Ba > a.Ba then b.Ba else a.Ba)]] h ⟨⟨_,_,_,rfl,rfl,h.box 0 rfl,rfl⟩,trivial⟩ (PV.done h (qa1 (qK (S:=fun _=>False) (qS (⟨(if b.As<a.As then b.As else a.As),(if b.Ba > a.Ba then b.Ba else a.Ba)⟩:qm)))))
end Go.Fw


namespace Go.Fw
open Go Go.Proofs
open Go.RowKit (Below)
set_option maxRecDepth 100000
set_option maxHeartbeats 1600000
variable {n:Nat} {w:World} {cs1 cs2 cs3 cs4 cs5 cs6 cs7 cs8 cs9:List Value}
def qgk (_:Nat) (s:qm) (t:qm):Option qm :=
 some (⟨(if t.As<s.As then t.As else s.As),(if t.Ba > s.Ba then t.Ba else s.Ba)⟩:qm)
theorem qcn {s:qm} {t:qm} (ha1:GoT.R w (old w) s cs1) (ha2:GoT.R w (old w) t cs2) {r:qm} (hF:qgk n s t=some r):RetV Tryz.prog 262 [GoT.v qm cs1,GoT.v qm cs2] w r:=by
 obtain rfl:=qv ha1
 obtain rfl:=qv ha2
 refine zV 16 Tryz.func262 rfl fun h=>zSR (qu h rfl rfl fun w1 bb1 h=>qu h rfl rfl fun w2 bb2 h=>qx qb h rfl rfl rfl fun w3 bb3 h=>X4 13 2 1 2 1 h rfl (r_v (qdO qb [0,1] [.tmp 9,.tmp 14] rfl rfl rfl rfl rfl rfl rfl rfl) rfl (zs 0 h rfl fun w4 h=>qdj ?_)))
 obtain rfl:=qa hF
 exact qaE qb (ρ:=qm) [GoT.v qm [.int .i64 (if t.As<s.As then t.As else s.As),.int .i64 (if t.Ba > s.Ba then t.Ba else s.Ba)]] h ⟨⟨_,_,_,rfl,rfl,h.box 0 rfl,rfl⟩,trivial⟩ (PV.done h (qa1 (qK (S:=fun _=>False) (qS (⟨(if t.As<s.As then t.As else s.As),(if t.Ba > s.Ba then t.Ba else s.Ba)⟩:qm)))))
def qgJ (n:Nat) (s:qcl) (reached:Bool) (arrival:qm) (slew:qm):Option (qcl × Bool) :=
 bif (!reached) then some ((⟨s.Bw,(⟨arrival.As,arrival.Ba⟩:qm),(⟨slew.As,slew.Ba⟩:qm)⟩:qcl),true) else
 (qgk n (⟨s.Ap.As,s.Ap.Ba⟩:qm) arrival).bind fun r1 =>
 (qgk n (⟨s.Az.As,s.Az.Ba⟩:qm) slew).bind fun r2 =>
 some ((⟨s.Bw,(⟨r1.As,r1.Ba⟩:qm),(⟨r2.As,r2.Ba⟩:qm)⟩:qcl),reached)
theorem qkg {n:Nat} {w0 w:World} {F:List Ch} {bb1:Nat} {s:qcl} {bb2:Nat} {reached:Bool} {arrival:qm} {slew:qm} (h:SH w0 w (Ch.box bb2 [.bool reached] 4::Ch.box bb1 (qlJ s) 140::F)) {r:(qcl × Bool)} (hF:qgJ n s reached arrival slew=some r):RetU Tryz.prog 222 [.pointer (some ⟨bb1,0,none⟩),.pointer (some ⟨bb2,0,none⟩),.agg #[.int .i64 arrival.As,.int .i64 arrival.Ba],.agg #[.int .i64 slew.As,.int .i64 slew.Ba]] w (fun w'=>SH w0 w' (Ch.box bb2 [.bool r.2] 4::Ch.box bb1 (qlJ r.1) 140::F)):=by
 refine qpU Tryz.func222 rfl (m:=40) rfl rfl (zSR (qu h rfl rfl fun w1 bb3 h=>qu h rfl rfl fun w2 bb4 h=>X1 9 2 h rfl (qh rfl hF ?_ ?_)))<;>intro hF
 ·refine qej (rA [] [0,1] h rfl fun w3 h=>M2 63 [0,1,2,3,4,5] 1 0 (h.pick [0,1] rfl) rfl (Ao 6 127 rfl (zs 2 h rfl fun w4 h=>G0 511 [7,8] (h.pick [0,1] rfl) rfl (Ao 9 1023 rfl (zs 3 h rfl fun w5 h=>G0 4095 [10,11] (h.pick [0,1] rfl) rfl (Ao 12 8191 rfl (zs 3 h rfl fun w6 h=>Ag (h.pick [0,1] rfl) (Ad ?_))))))))
  obtain rfl:=qa hF
  replace h:=h.pickT 4 [2,3] rfl
  exact qt4 qb h trivial
 refine qh9 ?_
 obtain ⟨r1,hr1,hF⟩:=qf hF
 obtain ⟨r2,hr2,hF⟩:=qf hF
 refine qcx (fun e w'=>e=[]∧SH w0 w' (Ch.box bb2 [.bool reached] 4::Ch.box bb1 [.int .i64 s.Bw,.int .i64 r1.As,.int .i64 r1.Ba,.int .i64 r2.As,.int .i64 r2.Ba] 140::F)) ?_ ?_
 ·refine rA [] [0,1] h rfl fun w11 h=>M2 5983 [0,1,2,3,4,6,8,9,10,12] 1 0 (h.pick [0,1] rfl) rfl (At 5 11 6015 8031 rfl ?_ ?_)
  ·refine zl 3 1 h rfl (Ag (h.pick [0,1] rfl) (At 7 11 6143 8063 rfl ?_ ?_))
   ·refine qjz r1 h (cB 262 rfl) (qcn (qS _) (qS arrival) hr1) rfl rfl rfl rfl fun w24 S9 cs9 h=>?_
    obtain rfl:=qv (h.own 0 rfl)
    refine Ag (h.pick [1,2] rfl) (Ao 11 8191 rfl (zl 4 3 h rfl (Ag (h.pick [1,2] rfl) (Ao 13 16383 rfl (qjz r2 h (cB 262 rfl) (qcn (qS _) (qS slew) hr2) rfl rfl rfl rfl fun w25 S10 cs10 h=>?_)))))
    obtain rfl:=qv (h.own 0 rfl)
    refine G0 65535 [14,15] (h.pick [2,3] rfl) rfl (Ao 16 131071 rfl (zs 5 h rfl fun w26 h=>G0 524287 [17,18] (h.pick [2,3] rfl) rfl (Ao 19 1048575 rfl (zs 5 h rfl fun w27 h=>Ag (h.pick [2,3] rfl) (Ad ?_)))))
    replace h:=h.pickT 6 [4,5] rfl
    exact rG ⟨rfl,h⟩ rfl
   refine zl 3 3 h rfl (Ag (h.pick [0,1] rfl) (Ao 7 8191 rfl (qjz r1 h (cB 262 rfl) (qcn (qS _) (qS arrival) hr1) rfl rfl rfl rfl fun w28 S11 cs11 h=>?_)))
   obtain rfl:=qv (h.own 0 rfl)
   refine Ag (h.pick [1,2] rfl) (Ao 13 16383 rfl (qjz r2 h (cB 262 rfl) (qcn (qS _) (qS slew) hr2) rfl rfl rfl rfl fun w29 S12 cs12 h=>?_))
   obtain rfl:=qv (h.own 0 rfl)
   refine G0 65535 [14,15] (h.pick [2,3] rfl) rfl (Ao 16 131071 rfl (zs 5 h rfl fun w30 h=>G0 524287 [17,18] (h.pick [2,3] rfl) rfl (Ao 19 1048575 rfl (zs 5 h rfl fun w31 h=>Ag (h.pick [2,3] rfl) (Ad ?_)))))
   replace h:=h.pickT 6 [4,5] rfl
   exact rG ⟨rfl,h⟩ rfl
  refine zl 3 3 h rfl (Ag (h.pick [0,1] rfl) (Ao 5 8063 rfl (zl 3 1 h rfl (Ag (h.pick [0,1] rfl) (Ao 7 8191 rfl (qjz r1 h (cB 262 rfl) (qcn (qS _) (qS arrival) hr1) rfl rfl rfl rfl fun w32 S13 cs13 h=>?_))))))
  obtain rfl:=qv (h.own 0 rfl)
  refine Ag (h.pick [1,2] rfl) (Ao 13 16383 rfl (qjz r2 h (cB 262 rfl) (qcn (qS _) (qS slew) hr2) rfl rfl rfl rfl fun w33 S14 cs14 h=>?_))
  obtain rfl:=qv (h.own 0 rfl)
  refine G0 65535 [14,15] (h.pick [2,3] rfl) rfl (Ao 16 131071 rfl (zs 5 h rfl fun w34 h=>G0 524287 [17,18] (h.pick [2,3] rfl) rfl (Ao 19 1048575 rfl (zs 5 h rfl fun w35 h=>Ag (h.pick [2,3] rfl) (Ad ?_)))))
  replace h:=h.pickT 6 [4,5] rfl
  exact rG ⟨rfl,h⟩ rfl
 rintro e1 w36 ⟨rfl,h⟩
 obtain rfl:=qa hF
 exact qt5 qb h trivial
end Go.Fw


namespace Go.Fw
open Go Go.Proofs
open Go.RowKit (Below)
set_option maxRecDepth 100000
set_option maxHeartbeats 1600000
variable {n:Nat} {w:World} {cs1 cs2 cs3 cs4 cs5 cs6 cs7 cs8 cs9:List Value}
end Go.Fw


namespace Go.Fw
open Go
set_option maxRecDepth 100000
structure AxOk (ax:List Int):Prop where
 lo:1≤ax.length
 hi:ax.length≤4
 at_:∀ j,j<ax.length→0≤at0 ax j∧at0 ax j≤100000
 inc:∀ j i,i<j→j<ax.length→at0 ax i<at0 ax j
structure Wt (ax:List Int) (i:Nat) (a b:Int):Prop where
 il:i<ax.length
 a0:0<a
 a1:a≤100000
 b0:0≤b
 b1:b≤100000
 nx:0<b→i+1<ax.length
 one:b=0→a=1
end Go.Fw


namespace Go.Fw
open Go
set_option maxRecDepth 100000
structure TbOk (t:qq):Prop where
 s:AxOk t.Bf
 l:AxOk t.Be
 n:t.Av.length=t.Bf.length*t.Be.length
 v:∀ k,-1000000≤at0 t.Av k∧at0 t.Av k≤1000000
end Go.Fw


namespace Go.Fw
open Go
set_option maxRecDepth 100000
end Go.Fw


namespace Go.Fw
open Go
set_option maxRecDepth 100000
instance:Inhabited qcl:=⟨⟨0,⟨0,0⟩,⟨0,0⟩⟩⟩
instance:Inhabited qm:=⟨⟨0,0⟩⟩
def cornerB (c:qhL):Bool:=(inI c.Bs 100 5000&&(inI c.Bv 100 5000&&(inI c.Br 100 5000&&inI c.Bu 100 5000)))&&(nameB c.Ar&&(decide (c.Bs≤c.Bv)&&decide (c.Br≤c.Bu)))
def spanB (s:qm):Bool:=inI s.As (-1000000000) 1000000000&&(inI s.Ba (-1000000000) 1000000000&&decide (s.As≤s.Ba))
def slewB (s:qm):Bool:=decide (s.As ≥ 0)&&(decide (s.As≤s.Ba)&&decide (s.Ba≤1000000))
theorem qqv {n:Nat} {s:qm}:qiL n s=some (spanB s):=by
 unfold qiL spanB
 simp only [qef,jd]
 cases inI s.As (-1000000000) 1000000000
 ·rfl
 ·cases inI s.Ba (-1000000000) 1000000000<;>rfl
theorem qoA {n:Nat} {s:qm}:qht n s=some (spanB s):=by
 unfold qht qiJ spanB
 simp only [qcq,jd]
 cases inI s.As (-1000000000) 1000000000
 ·rfl
 ·cases inI s.Ba (-1000000000) 1000000000<;>rfl
theorem qpk {n:Nat} {s:qm}:qg3 n s=some (slewB s):=by
 unfold qg3 slewB
 cases decide (s.As ≥ 0)
 ·rfl
 ·cases decide (s.As≤s.Ba)<;>rfl
theorem qpD {n:Nat} {s:qm}:qg8 n s=some (slewB s):=by
 have e:slewB s=(spanB s&&(inI s.As 0 1000000&&inI s.Ba 0 1000000)):=by
  unfold slewB spanB
  rw [jh]
  simp only [jf,qbG,decide_eq_true_eq]
  constructor
  ·rintro ⟨h1,h2,h3⟩
   refine ⟨⟨⟨?_,?_⟩,⟨?_,?_⟩,?_⟩,⟨?_,?_⟩,?_,?_⟩<;>omega
  ·rintro ⟨⟨h1,h2,h3⟩,h4,h5⟩
   refine ⟨?_,?_,?_⟩<;>omega
 rw [e]
 unfold qg8 qiN
 simp only [qoA,qcq,jd]
 cases spanB s
 ·rfl
 ·cases inI s.As 0 1000000<;>rfl
end Go.Fw


namespace Go.Fw
open Go Go.Proofs
open Go.RowKit (Below)
set_option maxRecDepth 100000
set_option maxHeartbeats 1600000
variable {n:Nat} {w:World} {cs1 cs2 cs3 cs4 cs5 cs6 cs7 cs8 cs9:List Value}
def qbn (a_1:qt):Nat→Int→Option (Flow Bool Int)
 | 0,_=>none
 | n+1,i1 =>
  bif decide (i1<(a_1.Aq.length:Int)) then
   (idx a_1.Ap i1).bind fun y1 =>
   (qiL n y1).bind fun r1 =>
   bif (!r1) then some (.ret false) else
   (idx a_1.Az i1).bind fun y2 =>
   (qg3 n y2).bind fun r2 =>
   bif (!r2) then some (.ret false) else
   (idx a_1.Aq i1).bind fun y3 =>
   bif (!y3) then
    (idx a_1.Ap i1).bind fun y4 =>
    bif (!((y4.As==0)&&(y4.Ba==0))) then some (.ret false) else
    (idx a_1.Az i1).bind fun y5 =>
    bif (!((y5.As==0)&&(y5.Ba==0))) then some (.ret false) else
    qbn a_1 n (W64 (i1+1))
   else
    qbn a_1 n (W64 (i1+1))
  else
   some (.nxt i1)
def qgF (n:Nat) (a_0:Int) (a_1:qt):Option Bool :=
 (
  bif ((a_1.Aq.length:Int) != a_0) then some true else
  bif ((a_1.Ap.length:Int) != a_0) then some true else
  some ((a_1.Az.length:Int) != a_0)).bind fun b1 =>
 bif b1 then some false else
 (qbn a_1 n 0).bind fun o=>match o with
 | .ret r=>some r
 | .nxt _ =>
  some true
theorem qla {a_0:Int} {a_1:qt} (ha1:GoT.R w (old w) a_1 cs1) {r:Bool} (hF:qgF n a_0 a_1=some r):RetV Tryz.prog 120 [.int .i64 a_0,GoT.v qt cs1] w r:=by
 obtain ⟨p1,k1,p2,k2,p3,k3,rfl,s1,s2,s3⟩:=qaf ha1
 refine zV 74 Tryz.func120 rfl fun h=>zSR (qu h rfl rfl fun w1 bb1 h=>X0 4 rfl ?_)
 obtain ⟨KF1,hKF1,o2,hF,hK2⟩:=bindE hF
 refine qcx (fun e w'=>∃ (b1:Bool),KF1 b1=some r∧e=[(3,.pointer (some ⟨bb1,0,none⟩)),(24,.bool b1)]∧SH w w' [Ch.box bb1 (qaB a_1 p1 p2 p3 k1 k2 k3) 57]) ?_ ?_
 ·refine X1 7 0 h rfl (qg (t:=11) hF rfl ?_ ?_)<;>intro hF
  ·refine X0 14 rfl ?_
   obtain rfl:=qa hF
   exact rG ⟨_,hK2,rfl,h⟩ rfl
  refine X1 12 0 h rfl (qg (t:=18) hF rfl ?_ ?_)<;>intro hF
  ·refine X0 7 rfl ?_
   obtain rfl:=qa hF
   exact rG ⟨_,hK2,rfl,h⟩ rfl
  refine X1 12 0 h rfl ?_
  obtain rfl:=qa hF
  exact rG ⟨_,hK2,rfl,h⟩ rfl
 rintro e2 w5 ⟨b1,hF,rfl,h⟩
 subst hKF1
 refine qh rfl hF ?_ ?_<;>intro hF
 ·exact X0 4 rfl (rb h hF rfl)
 refine X0 6 rfl ?_
 obtain ⟨o1,hF,hK1⟩:=qf hF
 refine ql (rL (fun m e w'=>∃ (i1:Int),qbn a_1 m i1=some o1∧e=[(3,.pointer (some ⟨bb1,0,none⟩)),(5,.int .i64 i1)]∧SH w w' [Ch.box bb1 (qaB a_1 p1 p2 p3 k1 k2 k3) 57]) n ⟨_,hF,rfl,h⟩ rfl ?_)
 rintro m1 e1 w2 ⟨i1,hF,rfl,h⟩
 rcases m1 with _|m1
 ·cases hF
 refine X1 9 0 h rfl (qh rfl hF ?_ ?_)<;>intro hF
 ·refine X1 8 0 h rfl ?_
  obtain ⟨y1,hy1,hF,he1,b2,_,q1,cs2,hp1,hq1,hr1,hc3⟩:=s2.ix hF
  obtain rfl:=qv hr1
  refine zxe hp1 hq1 he1 rfl (zc 0 (hc3.below h.below) rfl (zcB h hF (qnn (qS y1)) rfl fun r1 w3 h hF=>zp2 rfl (qg (t:=39) hF rfl ?_ ?_)))<;>intro hF
  ·refine X0 35 rfl (qb2 rfl rfl (X0 4 rfl ?_))
   obtain rfl:=qa hF;replace hF:=hK1
   exact rb h hF rfl
  refine X1 7 0 h rfl ?_
  obtain ⟨y2,hy2,hF,he2,b3,_,q2,cs3,hp2,hq2,hr3,hc4⟩:=s3.ix hF
  obtain rfl:=qv hr3
  refine zxe hp2 hq2 he2 rfl (X0 1 rfl (zc 0 (hc4.below h.below) rfl (X0 1 rfl (zcB h hF (qlW (qS y2)) rfl fun r2 w4 h hF=>X0 4 rfl (qg (t:=48) hF rfl ?_ ?_)))))<;>intro hF
  ·refine X0 26 rfl (qb2 rfl rfl (X0 4 rfl ?_))
   obtain rfl:=qa hF;replace hF:=hK1
   exact rb h hF rfl
  refine X1 7 0 h rfl ?_
  obtain ⟨y3,hy3,hF,he3,b4,_,q3,cs4,hp3,hq3,rfl,hc5⟩:=s1.ix hF
  refine zxe hp3 hq3 he3 rfl (X0 1 rfl (zc 0 (hc5.below h.below) rfl (X0 4 rfl (qg (t:=55) hF rfl ?_ ?_))))<;>intro hF
  ·refine X1 7 0 h rfl ?_
   obtain ⟨y4,hy4,hF,he4,b5,_,q4,cs5,hp4,hq4,hr6,hc6⟩:=s2.ix hF
   obtain rfl:=qv hr6
   refine zxe hp4 hq4 he4 rfl (X0 1 rfl (zc 0 (hc6.below h.below) rfl (X0 1 rfl (r_v (qdO qb [] [] rfl rfl rfl rfl rfl rfl rfl rfl) rfl (X0 1 rfl (r_v (qpe (by kernel_rfl) rfl rfl) rfl (X0 2 rfl (qg (t:=63) hF rfl ?_ ?_))))))))<;>intro hF
   ·refine X0 13 rfl (qb2 rfl rfl (X0 4 rfl ?_))
    obtain rfl:=qa hF;replace hF:=hK1
    exact rb h hF rfl
   refine X1 7 0 h rfl ?_
   obtain ⟨y5,hy5,hF,he5,b6,_,q5,cs6,hp5,hq5,hr7,hc7⟩:=s3.ix hF
   obtain rfl:=qv hr7
   refine zxe hp5 hq5 he5 rfl (X0 1 rfl (zc 0 (hc7.below h.below) rfl (X0 1 rfl (r_v (qdO qb [] [] rfl rfl rfl rfl rfl rfl rfl rfl) rfl (X0 1 rfl (r_v (qpe (by kernel_rfl) rfl rfl) rfl (X0 6 rfl (qh rfl hF ?_ ?_))))))))<;>intro hF
   ·refine X0 4 rfl ?_
    obtain rfl:=qa hF;replace hF:=hK1
    exact rb h hF rfl
   exact X0 7 rfl (rK ⟨_,hF,rfl,h⟩ rfl)
  exact X0 20 rfl (qcO rfl rfl (X0 7 rfl (rK ⟨_,hF,rfl,h⟩ rfl)))
 refine qr rfl ?_
 obtain rfl:=qa hF;replace hF:=hK1
 exact X0 4 rfl (rb h hF rfl)
def qfb (n:Nat) (b:qk) (t:qt):Option Int :=
 (qhE n b).bind fun r1 =>
 bif (!r1) then some 1 else
 (qg4 n b).bind fun r2 =>
 (qgF n r2 t).bind fun r3 =>
 bif (!r3) then some 1 else
 some 0
theorem qlh {b:qk} {t:qt} (ha1:GoT.R w (old w) b cs1) (ha2:GoT.R w (old w) t cs2) {r:Int} (hF:qfb n b t=some r):RetV Tryz.prog 46 [GoT.v qk cs1,GoT.v qt cs2] w r:=by
 obtain ⟨p1,k1,p2,k2,p3,k3,p4,k4,p5,k5,rfl,s1,s2,s3,s4,s5⟩:=qV ha1
 obtain ⟨p6,k6,p7,k7,p8,k8,rfl,s6,s7,s8⟩:=qaf ha2
 refine zV 15 Tryz.func46 rfl fun h=>zSR (qu h rfl rfl fun w1 bb1 h=>qu h rfl rfl fun w2 bb2 h=>X0 4 rfl (rD (Y1 1 1 h rfl ?_)))
 obtain ⟨r1,hr1,hF⟩:=qf hF
 refine qbF r1 (vsB _) (cB 69 rfl) (fun _ hb=>qmx ((h.ext hb).old ha1) hr1) rfl rfl rfl rfl (zd2 rfl (qba (t:=8) hF rfl ?_ ?_))<;>intro hF
 ·exact Y0 6 rfl (dN h fun w3 h=>qb2 rfl rfl (X0 4 rfl (ri h hF rfl)))
 refine Y1 2 1 h rfl ?_
 refine Y0 1 rfl ?_
 obtain ⟨r2,hr2,hF⟩:=qf hF
 refine qbF r2 (vsI _) (cB 96 rfl) (fun _ hb=>qlN ((h.ext hb).old ha1) hr2) rfl rfl rfl rfl (Y1 2 0 h rfl ?_)
 refine Y0 1 rfl ?_
 obtain ⟨r3,hr3,hF⟩:=qf hF
 refine qbF r3 (vsB _) (cB 120 rfl) (fun _ hb=>qla ((h.ext hb).old ha2) hr3) rfl rfl rfl rfl (Y0 3 rfl (dN h fun w4 h=>qh rfl hF ?_ ?_))<;>intro hF
 ·exact X0 4 rfl (ri h hF rfl)
 exact X0 5 rfl (ri h hF rfl)
def qfd (n:Nat) (a_0:qk) (a_1:qt) (a_2:Int):Option (qm × Bool) :=
 (qgi n (⟨a_0.Ab.Aa,a_0.Ab.Ah,a_0.Ab.Af⟩:qc) a_2).bind fun r1 =>
 (
  (idx a_1.Aq (W64 (2*r1))).bind fun y7 =>
  bif y7 then
   (idx a_1.Aq (W64 ((W64 (2*r1))+1))).bind fun y8 =>
   some y8
  else
   some false).bind fun b1 =>
 bif b1 then
  (idx a_1.Ap (W64 (2*r1))).bind fun y1 =>
  (idx a_1.Ap (W64 ((W64 (2*r1))+1))).bind fun y2 =>
  (qlA n y1 y2).bind fun r2 =>
  some (r2,true)
 else
  (idx a_1.Aq (W64 (2*r1))).bind fun y3 =>
  bif y3 then
   (idx a_1.Ap (W64 (2*r1))).bind fun y4 =>
   some (y4,true)
  else
   (idx a_1.Aq (W64 ((W64 (2*r1))+1))).bind fun y5 =>
   bif y5 then
    (idx a_1.Ap (W64 ((W64 (2*r1))+1))).bind fun y6 =>
    some (y6,true)
   else
    some ((⟨0,0⟩:qm),false)
theorem qeX {a_0:qk} {a_1:qt} {a_2:Int} (ha1:GoT.R w (old w) a_0 cs1) (ha2:GoT.R w (old w) a_1 cs2) {r:(qm × Bool)} (hF:qfd n a_0 a_1 a_2=some r):RetV Tryz.prog 121 [GoT.v qk cs1,GoT.v qt cs2,.int .i64 a_2] w r:=by
 obtain ⟨p1,k1,p2,k2,p3,k3,p4,k4,p5,k5,rfl,s1,s2,s3,s4,s5⟩:=qV ha1
 obtain ⟨p6,k6,p7,k7,p8,k8,rfl,s6,s7,s8⟩:=qaf ha2
 refine zV 65 Tryz.func121 rfl fun h=>zSR (qu h rfl rfl fun w1 bb1 h=>qu h rfl rfl fun w2 bb2 h=>qx qb h rfl rfl rfl fun w3 bb3 h=>X1 7 2 h rfl (zcI h hF (qlq (qaG _ (h.oldS s2) (h.oldS s3) (h.oldS s4))) rfl fun r1 w4 h hF=>X0 6 rfl ?_))
 obtain ⟨KF1,hKF1,o1,hF,hK1⟩:=bindE hF
 refine qcx (fun e w'=>∃ (b1:Bool),KF1 b1=some r∧e=[(4,.pointer (some ⟨bb2,0,none⟩)),(6,.pointer (some ⟨bb3,0,none⟩)),(8,.int .i64 (W64 (2*r1))),(14,.bool b1)]∧SH w w' [Ch.box bb3 [.int .i64 0,.int .i64 0] 138,Ch.box bb2 (qaB a_1 p6 p7 p8 k6 k7 k8) 57]) ?_ ?_
 ·refine X1 4 1 h rfl ?_
  obtain ⟨y7,hy7,hF,he7,b8,_,q7,cs10,hp7,hq7,rfl,hc10⟩:=s6.ix hF
  refine zxe hp7 hq7 he7 rfl (zc 0 (hc10.below h.below) rfl (zp1 rfl (qg (t:=20) hF rfl ?_ ?_)))<;>intro hF
  ·refine X1 9 1 h rfl ?_
   obtain ⟨y8,hy8,hF,he8,b9,_,q8,cs11,hp8,hq8,rfl,hc11⟩:=s6.ix hF
   refine zxe hp8 hq8 he8 rfl (X0 1 rfl (zc 0 (hc11.below h.below) rfl (X0 3 rfl ?_)))
   replace h:=h.pick [0,1] rfl
   obtain rfl:=qa hF
   exact rG ⟨_,hK1,rfl,h⟩ rfl
  refine X0 9 rfl ?_
  replace h:=h.pick [0,1] rfl
  obtain rfl:=qa hF
  exact rG ⟨_,hK1,rfl,h⟩ rfl
 rintro e1 w11 ⟨b1,hF,rfl,h⟩
 subst hKF1
 refine qh rfl hF ?_ ?_<;>intro hF
 ·refine qej (rA [] [1] h rfl fun w5 h=>M1 7 [0,1,2] 0 (h.pick [1] rfl) rfl ?_)
  obtain ⟨y1,hy1,hF,he1,b2,_,q1,cs3,hp1,hq1,hr2,hc2⟩:=s7.ix hF
  obtain rfl:=qv hr2
  refine Ae 3 15 hp1 hq1 he1 (h.pick [1] rfl) rfl (Al 4 31 0 hc2 (h.pick [1] rfl) rfl (M1 511 [5,6,7,8] 0 (h.pick [1] rfl) rfl ?_))
  obtain ⟨y2,hy2,hF,he2,b3,_,q2,cs4,hp2,hq2,hr3,hc3⟩:=s7.ix hF
  obtain rfl:=qv hr3
  refine Ae 9 1023 hp2 hq2 he2 (h.pick [1] rfl) rfl (Al 10 2047 0 hc3 (h.pick [1] rfl) rfl (Ao 11 4095 rfl (zcO h hF (qmL (qS y1) (qS y2)) rfl fun r2 w6 S1 cs5 h hF=>?_)))
  obtain rfl:=qv (h.own 0 rfl)
  refine Ag (h.pick [2] rfl) (Ao 12 8191 rfl (zs 1 h rfl fun w7 h=>G0 16383 [13] (h.pick [2] rfl) rfl (Ad ?_)))
  obtain rfl:=qa hF
  exact qaE qb (ρ:=(qm × Bool)) [GoT.v qm (qg6 r2),GoT.v Bool [.bool true]] h ⟨⟨_,_,_,rfl,rfl,h.box 1 rfl,rfl⟩,rfl,trivial⟩ (PV.done h (qcU h (qas 0 h rfl) (qa1 (qK (S:=fun _=>False) rfl)) (by rfl)))
 refine X1 5 1 h rfl ?_
 obtain ⟨y3,hy3,hF,he3,b4,_,q3,cs6,hp3,hq3,rfl,hc4⟩:=s6.ix hF
 refine zxe hp3 hq3 he3 rfl (zc 0 (hc4.below h.below) rfl (X0 2 rfl (qh rfl hF ?_ ?_)))<;>intro hF
 ·refine X1 5 1 h rfl ?_
  obtain ⟨y4,hy4,hF,he4,b5,_,q4,cs7,hp4,hq4,hr6,hc6⟩:=s7.ix hF
  obtain rfl:=qv hr6
  refine zxe hp4 hq4 he4 rfl (zc 0 (hc6.below h.below) rfl (zs 0 h rfl fun w8 h=>X0 2 rfl ?_))
  obtain rfl:=qa hF
  exact qaE qb (ρ:=(qm × Bool)) [GoT.v qm (qg6 y4),GoT.v Bool [.bool true]] h ⟨⟨_,_,_,rfl,rfl,h.box 0 rfl,rfl⟩,rfl,trivial⟩ (PV.done h (qcU h (qK (S:=fun _=>False) (qS y4)) (qa1 (qK (S:=fun _=>False) rfl)) (by rfl)))
 refine X1 6 1 h rfl ?_
 obtain ⟨y5,hy5,hF,he5,b6,_,q5,cs8,hp5,hq5,rfl,hc7⟩:=s6.ix hF
 refine zxe hp5 hq5 he5 rfl (zc 0 (hc7.below h.below) rfl (X0 2 rfl (qh rfl hF ?_ ?_)))<;>intro hF
 ·refine X1 6 1 h rfl ?_
  obtain ⟨y6,hy6,hF,he6,b7,_,q6,cs9,hp6,hq6,hr8,hc9⟩:=s7.ix hF
  obtain rfl:=qv hr8
  refine zxe hp6 hq6 he6 rfl (zc 0 (hc9.below h.below) rfl (zs 0 h rfl fun w9 h=>X0 2 rfl ?_))
  obtain rfl:=qa hF
  exact qaE qb (ρ:=(qm × Bool)) [GoT.v qm (qg6 y6),GoT.v Bool [.bool true]] h ⟨⟨_,_,_,rfl,rfl,h.box 0 rfl,rfl⟩,rfl,trivial⟩ (PV.done h (qcU h (qK (S:=fun _=>False) (qS y6)) (qa1 (qK (S:=fun _=>False) rfl)) (by rfl)))
 refine X0 4 rfl (r_v (qdO qb [] [] rfl rfl rfl rfl rfl rfl rfl rfl) rfl (zs 0 h rfl fun w10 h=>X0 2 rfl ?_))
 obtain rfl:=qa hF
 exact qaE qb (ρ:=(qm × Bool)) [GoT.v qm [.int .i64 0,.int .i64 0],GoT.v Bool [.bool false]] h ⟨⟨_,_,_,rfl,rfl,h.box 0 rfl,rfl⟩,rfl,trivial⟩ (PV.done h (qcU h (qK (S:=fun _=>False) (qS (⟨0,0⟩:qm))) (qa1 (qK (S:=fun _=>False) rfl)) (by rfl)))
def qbo (a_0:qk) (a_1:qt) (a_2:(List qe)):Nat→(List Int)→Int→Option ((List Int) × Int)
 | 0,_,_=>none
 | n+1,x1,i1 =>
  bif decide (i1<(a_2.length:Int)) then
   (idx a_2 i1).bind fun y1 =>
   (qfd n a_0 a_1 y1.A).bind fun o=>match o with
    | (r2,r3) =>
     (idx a_2 i1).bind fun y4 =>
     (qfd n a_0 a_1 y4.B).bind fun o=>match o with
      | (r11,r12) =>
       (
        bif r3 then
         bif r12 then
          bif decide (r2.As≤r11.Ba) then some (decide (r11.As≤r2.Ba)) else
          some false
         else
          some false
        else
         some false).bind fun b7 =>
       bif b7 then
        (appS x1 ([i1]:List Int)).bind fun x3 =>
        qbo a_0 a_1 a_2 n x3 (W64 (i1+1))
       else
        qbo a_0 a_1 a_2 n x1 (W64 (i1+1))
  else
   some (x1,i1)
def qgn (n:Nat) (a_0:qk) (a_1:qt) (a_2:(List qe)):Option (List Int) :=
 (qbo a_0 a_1 a_2 n ([]:List Int) 0).bind fun o=>match o with
 | (x1,_) =>
  some x1
theorem qlj {a_0:qk} {a_1:qt} {a_2:(List qe)} (ha1:GoT.R w (old w) a_0 cs1) (ha2:GoT.R w (old w) a_1 cs2) (ha3:GoT.R w (old w) a_2 cs3) {r:(List Int)} (hF:qgn n a_0 a_1 a_2=some r):RetV Tryz.prog 48 [GoT.v qk cs1,GoT.v qt cs2,GoT.v (List qe) cs3] w r:=by
 obtain ⟨p1,k1,p2,k2,p3,k3,p4,k4,p5,k5,rfl,s1,s2,s3,s4,s5⟩:=qV ha1
 obtain ⟨p6,k6,p7,k7,p8,k8,rfl,s6,s7,s8⟩:=qaf ha2
 obtain ⟨p9,k9,rfl,s9⟩:=ha3
 refine zV 65 Tryz.func48 rfl fun h=>zSR (qu h rfl rfl fun w1 bb1 h=>qu h rfl rfl fun w2 bb2 h=>X0 4 rfl (qab qb [] _ ([]:List Int) h rfl rfl rfl rfl rfl rfl rfl rfl rfl trivial rfl fun w3 p10 S1 h=>X0 7 rfl ?_))
 obtain ⟨o1,hF,hK1⟩:=qf hF
 refine ql (rL (fun m e w'=>∃ (S2:Nat→Prop) (p11:Option Addr) (ln1:Nat) (k10:Nat) (x1:(List Int)) (i1:Int),qbo a_0 a_1 a_2 m x1 i1=some o1∧e=[(2,.slice p9 a_2.length k9),(3,.pointer (some ⟨bb1,0,none⟩)),(4,.pointer (some ⟨bb2,0,none⟩)),(7,.slice p11 ln1 k10),(8,.int .i64 i1)]∧SH w w' [Ch.own S2 (x1:List Int) [.slice p11 ln1 k10],Ch.box bb2 (qaB a_1 p6 p7 p8 k6 k7 k8) 57,Ch.box bb1 (qaC a_0 p1 p2 p3 p4 p5 k1 k2 k3 k4 k5) 53]) n ⟨_,_,_,_,_,_,hF,rfl,h⟩ rfl ?_)
 rintro m1 e1 w4 ⟨S2,p11,ln1,k10,x1,i1,hF,rfl,h⟩
 obtain rfl:=(h.sl 0 rfl).2
 rcases m1 with _|m1
 ·cases hF
 refine X0 8 rfl (qh rfl hF ?_ ?_)<;>intro hF
 ·refine X0 4 rfl (rA [] [1,2] h rfl fun w5 h=>M2 15 [0,1,2,3] 1 0 (h.pick [1,2] rfl) rfl ?_)
  obtain ⟨y1,hy1,hF,he1,b1,_,q1,cs4,hp1,hq1,hr1,hc2⟩:=s9.ix hF
  obtain rfl:=qQ hr1
  refine Ae 4 31 hp1 hq1 he1 (h.pick [1,2] rfl) rfl (M0 63 [5] (h.pick [1,2] rfl) rfl (Al 6 127 0 hc2 (h.pick [1,2] rfl) rfl ?_))
  obtain ⟨r1,hr2,hF⟩:=qf hF
  obtain ⟨r2,r3⟩:=r1
  refine qo9 (fun e w'=>∃ (bb25:Nat),e=[(10,.bool r3),(2,.slice p9 a_2.length k9),(3,.pointer (some ⟨bb1,0,none⟩)),(4,.pointer (some ⟨bb2,0,none⟩)),(7,.slice p11 x1.length k10),(8,.int .i64 i1),(9,.pointer (some ⟨bb25,0,none⟩))]∧SH w w' [Ch.box bb25 (qg6 r2) 138,Ch.own S2 (x1:List Int) [.slice p11 x1.length k10],Ch.box bb2 (qaB a_1 p6 p7 p8 k6 k7 k8) 57,Ch.box bb1 (qaC a_0 p1 p2 p3 p4 p5 k1 k2 k3 k4 k5) 53]) 0 (bits 14 16383) ?_ ?_
  ·intro K
   refine At 7 11 255 2175 rfl ?_ ?_
   ·refine qfg (r2,r3) h (cB 121 rfl) (qeX (h.old ha1) (h.old ha2) hr2) rfl rfl rfl rfl fun w58 S54 us25 hv37 hr43=>?_
    obtain ⟨S55,S56,cs19,us26,rfl,hv38,hr44⟩:=hv37.cons hr43
    obtain rfl:=qv (hv38.sh.own 0 rfl)
    obtain ⟨rfl,h⟩:=hv38.lastB hr44
    refine G0 2047 [8,9,10] (h.pick [2,3] rfl) rfl (Ao 11 4095 rfl (qx qb h rfl rfl rfl fun w59 bb24 h=>Ag (h.pick [3,4] rfl) (Ao 12 8191 rfl (zs 0 h rfl fun w60 h=>G0 16383 [13] (h.pick [3,4] rfl) rfl ?_))))
    replace h:=h.pick [0,2,3,4] rfl
    exact qoo [(10,_),(2,_),(3,_),(4,_),(7,_),(8,_),(9,_)] ⟨rfl,rfl,rfl,rfl,rfl,rfl,rfl,trivial⟩ (K _ _ ⟨_,rfl,h⟩)
   refine qx qb h rfl rfl rfl fun w58 bb24 h=>Ag (h.pick [2,3] rfl) (Ao 7 2303 rfl (qfg (r2,r3) h (cB 121 rfl) (qeX (h.old ha1) (h.old ha2) hr2) rfl rfl rfl rfl fun w59 S54 us25 hv37 hr43=>?_))
   obtain ⟨S55,S56,cs19,us26,rfl,hv38,hr44⟩:=hv37.cons hr43
   obtain rfl:=qv (hv38.sh.own 0 rfl)
   obtain ⟨rfl,h⟩:=hv38.lastB hr44
   refine G0 4095 [8,9,10] (h.pick [3,4] rfl) rfl (Ao 12 8191 rfl (zs 1 h rfl fun w60 h=>G0 16383 [13] (h.pick [3,4] rfl) rfl ?_))
   replace h:=h.pick [1,2,3,4] rfl
   exact qoo [(10,_),(2,_),(3,_),(4,_),(7,_),(8,_),(9,_)] ⟨rfl,rfl,rfl,rfl,rfl,rfl,rfl,trivial⟩ (K _ _ ⟨_,rfl,h⟩)
  rintro e12 w61 ⟨bb25,rfl,h⟩
  refine Ad (qej (rA [] [2,3] h rfl fun w62 h=>M2 15 [0,1,2,3] 1 0 (h.pick [2,3] rfl) rfl ?_))
  obtain ⟨y4,hy4,hF,he4,b6,_,q4,cs20,hp4,hq4,hr46,hc7⟩:=s9.ix hF
  obtain rfl:=qQ hr46
  refine Ae 4 31 hp4 hq4 he4 (h.pick [2,3] rfl) rfl (M0 63 [5] (h.pick [2,3] rfl) rfl (Al 6 127 1 hc7 (h.pick [2,3] rfl) rfl ?_))
  obtain ⟨r10,hr47,hF⟩:=qf hF
  obtain ⟨r11,r12⟩:=r10
  refine qo9 (fun e w'=>∃ (bb30:Nat),e=[(10,.bool r3),(11,.pointer (some ⟨bb30,0,none⟩)),(12,.bool r12),(2,.slice p9 a_2.length k9),(3,.pointer (some ⟨bb1,0,none⟩)),(4,.pointer (some ⟨bb2,0,none⟩)),(7,.slice p11 x1.length k10),(8,.int .i64 i1),(9,.pointer (some ⟨bb25,0,none⟩))]∧SH w w' [Ch.box bb30 (qg6 r11) 138,Ch.box bb25 (qg6 r2) 138,Ch.own S2 (x1:List Int) [.slice p11 x1.length k10],Ch.box bb2 (qaB a_1 p6 p7 p8 k6 k7 k8) 57,Ch.box bb1 (qaC a_0 p1 p2 p3 p4 p5 k1 k2 k3 k4 k5) 53]) 0 (bits 14 16383) ?_ ?_
  ·intro K
   refine At 7 11 255 2175 rfl ?_ ?_
   ·refine qfg (r11,r12) h (cB 121 rfl) (qeX (h.old ha1) (h.old ha2) hr47) rfl rfl rfl rfl fun w70 S66 us31 hv46 hr54=>?_
    obtain ⟨S67,S68,cs23,us32,rfl,hv47,hr55⟩:=hv46.cons hr54
    obtain rfl:=qv (hv47.sh.own 0 rfl)
    obtain ⟨rfl,h⟩:=hv47.lastB hr55
    refine G0 2047 [8,9,10] (h.pick [3,4] rfl) rfl (Ao 11 4095 rfl (qx qb h rfl rfl rfl fun w71 bb29 h=>Ag (h.pick [4,5] rfl) (Ao 12 8191 rfl (zs 0 h rfl fun w72 h=>G0 16383 [13] (h.pick [4,5] rfl) rfl ?_))))
    replace h:=h.pick [0,2,3,4,5] rfl
    exact qoo [(10,_),(11,_),(12,_),(2,_),(3,_),(4,_),(7,_),(8,_),(9,_)] ⟨rfl,rfl,rfl,rfl,rfl,rfl,rfl,rfl,rfl,trivial⟩ (K _ _ ⟨_,rfl,h⟩)
   refine qx qb h rfl rfl rfl fun w70 bb29 h=>Ag (h.pick [3,4] rfl) (Ao 7 2303 rfl (qfg (r11,r12) h (cB 121 rfl) (qeX (h.old ha1) (h.old ha2) hr47) rfl rfl rfl rfl fun w71 S66 us31 hv46 hr54=>?_))
   obtain ⟨S67,S68,cs23,us32,rfl,hv47,hr55⟩:=hv46.cons hr54
   obtain rfl:=qv (hv47.sh.own 0 rfl)
   obtain ⟨rfl,h⟩:=hv47.lastB hr55
   refine G0 4095 [8,9,10] (h.pick [4,5] rfl) rfl (Ao 12 8191 rfl (zs 1 h rfl fun w72 h=>G0 16383 [13] (h.pick [4,5] rfl) rfl ?_))
   replace h:=h.pick [1,2,3,4,5] rfl
   exact qoo [(10,_),(11,_),(12,_),(2,_),(3,_),(4,_),(7,_),(8,_),(9,_)] ⟨rfl,rfl,rfl,rfl,rfl,rfl,rfl,rfl,rfl,trivial⟩ (K _ _ ⟨_,rfl,h⟩)
  rintro e14 w73 ⟨bb30,rfl,h⟩
  refine Ad (qej ?_)
  obtain ⟨KF3,hKF3,o3,hF,hK3⟩:=bindE hF
  refine qcx (fun e w'=>∃ (b7:Bool),KF3 b7=some o1∧e=[(2,.slice p9 a_2.length k9),(3,.pointer (some ⟨bb1,0,none⟩)),(4,.pointer (some ⟨bb2,0,none⟩)),(7,.slice p11 x1.length k10),(8,.int .i64 i1),(59,.bool b7)]∧SH w w' [Ch.own S2 (x1:List Int) [.slice p11 x1.length k10],Ch.box bb2 (qaB a_1 p6 p7 p8 k6 k7 k8) 57,Ch.box bb1 (qaC a_0 p1 p2 p3 p4 p5 k1 k2 k3 k4 k5) 53]) ?_ ?_
  ·refine X0 3 rfl (qg (t:=43) hF rfl ?_ ?_)<;>intro hF
   ·refine X0 4 rfl (qg (t:=46) hF rfl ?_ ?_)<;>intro hF
    ·refine X2 12 1 0 h rfl (qg (t:=53) hF rfl ?_ ?_)<;>intro hF
     ·refine X2 12 0 1 h rfl ?_
      replace h:=h.pick [2,3,4] rfl
      obtain rfl:=qa hF
      exact rG ⟨_,hK3,rfl,h⟩ rfl
     refine X0 7 rfl ?_
     replace h:=h.pick [2,3,4] rfl
     obtain rfl:=qa hF
     exact rG ⟨_,hK3,rfl,h⟩ rfl
    refine X0 14 rfl ?_
    replace h:=h.pick [2,3,4] rfl
    obtain rfl:=qa hF
    exact rG ⟨_,hK3,rfl,h⟩ rfl
   refine X0 17 rfl ?_
   replace h:=h.pick [2,3,4] rfl
   obtain rfl:=qa hF
   exact rG ⟨_,hK3,rfl,h⟩ rfl
  rintro e15 w76 ⟨b7,hF,rfl,h⟩
  subst hKF3
  refine qh rfl hF ?_ ?_<;>intro hF
  ·refine X0 3 rfl (qab qb [.tmp 61] _ ([i1]:List Int) h rfl rfl rfl rfl rfl rfl rfl rfl rfl ⟨rfl,trivial⟩ rfl fun w74 p15 S70 h=>?_)
   obtain ⟨x3,hx3,hF⟩:=qf hF
   obtain ⟨g3,hx3⟩:=qaY hx3
   refine qd1 qb 1 h rfl (h.sl 0 rfl).1 (h.sl 0 rfl).2 rfl rfl rfl rfl rfl rfl rfl rfl rfl g3 hx3 rfl fun w75 p16 k12 S71 h=>X0 8 rfl ?_
   replace h:=h.pick [1,2,3] rfl
   exact rK ⟨_,_,_,_,_,_,hF,rfl,h⟩ rfl
  exact X0 7 rfl (rK ⟨_,_,_,_,_,_,hF,rfl,h⟩ rfl)
 refine qr rfl ?_
 obtain rfl:=qa hF;replace hF:=hK1
 refine X0 5 rfl ?_
 obtain rfl:=qa hF
 exact rO 0 h rfl ⟨rfl,trivial⟩
def qdI (n:Nat) (b:qk) (t:qt) (list:(List qe)):Option ((List Int) × Int) :=
 (qfb n b t).bind fun r1 =>
 bif (r1 != 0) then some (([]:List Int),r1) else
 (qeU n b list).bind fun r2 =>
 bif (!r2) then some (([]:List Int),2) else
 (qgn n b t list).bind fun r3 =>
 some (r3,0)
theorem qi4 {b:qk} {t:qt} {list:(List qe)} (ha1:GoT.R w (old w) b cs1) (ha2:GoT.R w (old w) t cs2) (ha3:GoT.R w (old w) list cs3) {r:((List Int) × Int)} (hF:qdI n b t list=some r):RetV Tryz.prog 10 [GoT.v qk cs1,GoT.v qt cs2,GoT.v (List qe) cs3] w r:=by
 obtain ⟨p1,k1,p2,k2,p3,k3,p4,k4,p5,k5,rfl,s1,s2,s3,s4,s5⟩:=qV ha1
 obtain ⟨p6,k6,p7,k7,p8,k8,rfl,s6,s7,s8⟩:=qaf ha2
 obtain ⟨p9,k9,rfl,s9⟩:=ha3
 refine zV 25 Tryz.func10 rfl fun h=>zSR (qu h rfl rfl fun w1 bb1 h=>qu h rfl rfl fun w2 bb2 h=>X2 8 1 0 h rfl (zcI h hF (qlh (h.old ha1) (h.old ha2)) rfl fun r1 w3 h hF=>X0 7 rfl (qh rfl hF ?_ ?_)))<;>intro hF
 ·refine zSR (qab qb [] _ ([]:List Int) h rfl rfl rfl rfl rfl rfl rfl rfl rfl trivial rfl fun w4 p10 S1 h=>X0 4 rfl ?_)
  obtain rfl:=qa hF
  exact qaE qb (ρ:=((List Int) × Int)) [GoT.v (List Int) [.slice p10 0 0],GoT.v Int [.int .i64 r1]] h ⟨rfl,rfl,trivial⟩ (PV.done h (qcU h (qas 0 h rfl) (qa1 (qK (S:=fun _=>False) rfl)) (by rfl)))
 refine X1 6 1 h rfl (zcB h hF (qjY (h.old ha1) ⟨_,_,rfl,(h.oldS s9)⟩) rfl fun r2 w5 h hF=>X0 2 rfl (qh rfl hF ?_ ?_))<;>intro hF
 ·refine zSR (qab qb [] _ ([]:List Int) h rfl rfl rfl rfl rfl rfl rfl rfl rfl trivial rfl fun w6 p11 S2 h=>X0 3 rfl ?_)
  obtain rfl:=qa hF
  exact qaE qb (ρ:=((List Int) × Int)) [GoT.v (List Int) [.slice p11 0 0],GoT.v Int [.int .i64 2]] h ⟨rfl,rfl,trivial⟩ (PV.done h (qcU h (qas 0 h rfl) (qa1 (qK (S:=fun _=>False) rfl)) (by rfl)))
 refine X2 6 1 0 h rfl (zcL h hF (qlj (h.old ha1) (h.old ha2) ⟨_,_,rfl,(h.oldS s9)⟩) rfl fun r3 w7 S3 p12 k10 h hF=>X0 3 rfl ?_)
 obtain rfl:=qa hF
 exact qaE qb (ρ:=((List Int) × Int)) [GoT.v (List Int) [.slice p12 r3.length k10],GoT.v Int [.int .i64 0]] h ⟨rfl,rfl,trivial⟩ (PV.done h (qcU h (qas 0 h rfl) (qa1 (qK (S:=fun _=>False) rfl)) (by rfl)))
def qe5 (n:Nat) (b:qk) (t:qt):Option ((Option Tview) × Int) :=
 (qhC n b).bind fun r1 =>
 bif (!r1) then some (none,1) else
 (qhS n b).bind fun r2 =>
 (qeu n r2 t).bind fun r3 =>
 bif (!r3) then some (none,1) else
 some (r2,0)
theorem qlC {A:Nat→Prop} (hA:∀ b,A b→old w b) {b:qk} {t:qt} (ha1:GoT.R w A b cs1) (ha2:GoT.R w A t cs2) {r:((Option Tview) × Int)} (hF:qe5 n b t=some r):RetG Tryz.prog 55 [GoT.v qk cs1,GoT.v qt cs2] w A r:=by
 obtain ⟨p1,k1,p2,k2,p3,k3,p4,k4,p5,k5,rfl,s1,s2,s3,s4,s5⟩:=qV ha1
 obtain ⟨p6,k6,p7,k7,p8,k8,rfl,s6,s7,s8⟩:=qaf ha2
 have hg:=Rg.start hA
 refine qme Tryz.func55 rfl (m:=17) rfl rfl (fun h=>?_)
 refine zSR (qu h rfl rfl fun w1 bb1 h=>qu h rfl rfl fun w2 bb2 h=>X1 7 1 h rfl (zcB h hF (qmK (h.old (GoT.mono ha1 hg.old))) rfl fun r1 w3 h hF=>X0 2 rfl (qh rfl hF ?_ ?_)))<;>intro hF
 ·refine X0 5 rfl ?_
  obtain rfl:=qa hF
  have hv1:GoRs.Rs (ρ:=((Option Tview) × Int)) h.wc (reg A w h.wc) (none,1) [GoT.v (Option Tview) [.pointer none],GoT.v Int [.int .i64 1]]:=⟨_,_,rfl,rfl,⟨_,rfl,rfl⟩⟩
  exact qpb qb (ρ:=((Option Tview) × Int)) (r:=(none,1)) [GoT.v (Option Tview) [.pointer none],GoT.v Int [.int .i64 1]] h ⟨rfl,rfl,trivial⟩ hv1
 refine X1 4 1 h rfl ?_
 obtain ⟨r2,hr2,hF⟩:=qf hF
 refine qra r2 hg h (cB 101 rfl) (qmv (hg.regOld h) (hg.inR h ha1) hr2) rfl rfl rfl rfl fun w4 us1 B1 hg1 hu1 hz1 hv2=>?_
 have hL1:=h.ext hu1.below
 have hc2:=Up.box 0 h hu1 rfl
 have s9:=Up.S hg h hu1 s6
 have s10:=Up.S hg h hu1 s7
 have s11:=Up.S hg h hu1 s8
 have s12:=Up.R hg h hu1 ha2
 have ha3:=Up.boxP (x:=t) hg 0 h hu1 rfl (hg.inR h ha2)
 have hb1:=h.below.trans (hu1.below.mono h.below.size)
 replace h:=hz1
 obtain ⟨cs3,rfl,hr3⟩:=qs4 hv2
 obtain ⟨p9,rfl,s13⟩:=qi8 hr3
 refine X0 6 rfl (zc 0 (hc2.below h.below) rfl (zcB h hF (qjH (h.old (GoT.mono s13 hg1.old)) (h.old (GoT.mono s12 hg1.old))) rfl fun r3 w5 h hF=>X0 2 rfl (qh rfl hF ?_ ?_)))<;>intro hF
 ·refine X0 5 rfl ?_
  obtain rfl:=qa hF
  have hv3:GoRs.Rs (ρ:=((Option Tview) × Int)) h.wc (reg A w h.wc) (none,1) [GoT.v (Option Tview) [.pointer none],GoT.v Int [.int .i64 1]]:=⟨_,_,rfl,rfl,⟨_,rfl,rfl⟩⟩
  exact qpb qb (ρ:=((Option Tview) × Int)) (r:=(none,1)) [GoT.v (Option Tview) [.pointer none],GoT.v Int [.int .i64 1]] (h.unbase hg1.below (show NoD [] from trivial)) ⟨rfl,rfl,trivial⟩ hv3
 refine X0 7 rfl ?_
 obtain rfl:=qa hF
 have hv4:GoRs.Rs (ρ:=((Option Tview) × Int)) h.wc (reg A w h.wc) (r2,0) [GoT.v (Option Tview) [.pointer p9],GoT.v Int [.int .i64 0]]:=⟨_,_,rfl,(hg1.outR h (hg1.inR h s13)),⟨_,rfl,rfl⟩⟩
 exact qpb qb (ρ:=((Option Tview) × Int)) (r:=(r2,0)) [GoT.v (Option Tview) [.pointer p9],GoT.v Int [.int .i64 0]] (h.unbase hg1.below (show NoD [] from trivial)) ⟨rfl,rfl,trivial⟩ hv4
def qfe (t:qt) (nodes:(List Int)):Nat→Bool→Int→Int→Int→Int→Int→Int→Option (Bool × Int × Int × Int × Int × Int × Int)
 | 0,_,_,_,_,_,_,_=>none
 | n+1,b1,i1,i2,i3,i4,i5,i6 =>
  bif decide (i6<(nodes.length:Int)) then
   (idx nodes i6).bind fun y1 =>
   (idx t.Aq y1).bind fun y2 =>
   bif y2 then
    (idx t.Ap y1).bind fun y3 =>
    (qgJ n (⟨i1,(⟨i2,i3⟩:qm),(⟨i4,i5⟩:qm)⟩:qcl) b1 y3 (⟨0,0⟩:qm)).bind fun o=>match o with
     | (x1,x2) =>
      qfe t nodes n x2 x1.Bw x1.Ap.As x1.Ap.Ba x1.Az.As x1.Az.Ba (W64 (i6+1))
   else
    qfe t nodes n b1 i1 i2 i3 i4 i5 (W64 (i6+1))
  else
   some (b1,i1,i2,i3,i4,i5,i6)
def qiC (n:Nat) (t:qt) (nodes:(List Int)):Option (qm × Bool) :=
 (qfe t nodes n false 0 0 0 0 0 0).bind fun o=>match o with
 | (b1,_,i2,i3,_,_,_) =>
  some ((⟨i2,i3⟩:qm),b1)
theorem qnq {t:qt} {nodes:(List Int)} (ha1:GoT.R w (old w) t cs1) (ha2:GoT.R w (old w) nodes cs2) {r:(qm × Bool)} (hF:qiC n t nodes=some r):RetV Tryz.prog 189 [GoT.v qt cs1,GoT.v (List Int) cs2] w r:=by
 obtain ⟨p1,k1,p2,k2,p3,k3,rfl,s1,s2,s3⟩:=qaf ha1
 obtain ⟨p4,k4,rfl,s4⟩:=ha2
 refine zV 32 Tryz.func189 rfl fun h=>zSR (qu h rfl rfl fun w1 bb1 h=>qx qb h rfl rfl rfl fun w2 bb2 h=>X0 4 rfl (qx qb h rfl rfl rfl fun w3 bb3 h=>zNSR (qx qb h rfl rfl rfl fun w4 bb4 h=>zs 0 h rfl fun w5 h=>X0 8 rfl ?_)))
 obtain ⟨o1,hF,hK1⟩:=qf hF
 refine ql (rL (fun m e w'=>∃ (b1:Bool) (i1:Int) (i2:Int) (i3:Int) (i4:Int) (i5:Int) (i6:Int),qfe t nodes m b1 i1 i2 i3 i4 i5 i6=some o1∧e=[(2,.pointer (some ⟨bb1,0,none⟩)),(4,.pointer (some ⟨bb2,0,none⟩)),(6,.pointer (some ⟨bb3,0,none⟩)),(7,.pointer (some ⟨bb4,0,none⟩)),(10,.slice p4 nodes.length k4),(11,.int .i64 (nodes.length:Int)),(12,.int .i64 i6)]∧SH w w' [Ch.box bb4 [.bool b1] 4,Ch.box bb3 [.int .i64 i1,.int .i64 i2,.int .i64 i3,.int .i64 i4,.int .i64 i5] 140,Ch.box bb2 [.int .i64 0,.int .i64 0] 138,Ch.box bb1 (qaB t p1 p2 p3 k1 k2 k3) 57]) n ⟨_,_,_,_,_,_,_,hF,rfl,h⟩ rfl ?_)
 rintro m1 e1 w6 ⟨b1,i1,i2,i3,i4,i5,i6,hF,rfl,h⟩
 rcases m1 with _|m1
 ·cases hF
 refine X0 5 rfl (qh rfl hF ?_ ?_)<;>intro hF
 ·refine zKSBSR ?_
  obtain ⟨y1,hy1,hF,he1,b2,_,q1,cs3,hp1,hq1,rfl,hc2⟩:=s4.ix hF
  refine zxe hp1 hq1 he1 rfl (zc 0 (hc2.below h.below) rfl (X1 7 3 h rfl ?_))
  obtain ⟨y2,hy2,hF,he2,b3,_,q2,cs4,hp2,hq2,rfl,hc3⟩:=s1.ix hF
  refine zxe hp2 hq2 he2 rfl (zc 0 (hc3.below h.below) rfl (qdj (qh rfl hF ?_ ?_)))<;>intro hF
  ·refine X1 4 3 h rfl ?_
   obtain ⟨y3,hy3,hF,he3,b4,_,q3,cs5,hp3,hq3,hr3,hc5⟩:=s2.ix hF
   obtain rfl:=qv hr3
   refine zxe hp3 hq3 he3 rfl (zc 0 (hc5.below h.below) rfl (r_v (qdO qb [] [] rfl rfl rfl rfl rfl rfl rfl rfl) rfl ?_))
   obtain ⟨o2,hr4,hF⟩:=qf hF
   obtain ⟨x1,x2⟩:=o2
   refine qtD (cB 222 rfl) (qkg h hr4) rfl rfl rfl rfl fun w7 h=>?_
   replace h:SH _ _ [Ch.box bb4 [.bool x2] 4,Ch.box bb3 (qlJ x1) 140,Ch.box bb2 [.int .i64 0,.int .i64 0] 138,Ch.box bb1 (qaB t p1 p2 p3 k1 k2 k3) 57]:=h
   exact X0 6 rfl (rK ⟨_,_,_,_,_,_,_,hF,rfl,h⟩ rfl)
  exact X0 6 rfl (rK ⟨_,_,_,_,_,_,_,hF,rfl,h⟩ rfl)
 refine qr rfl ?_
 obtain rfl:=qa hF;replace hF:=hK1
 refine qej (rA [] [0,1] h rfl fun w8 h=>M2 7 [0,1,2] 1 0 (h.pick [0,1] rfl) rfl (Ao 3 15 rfl (zs 2 h rfl fun w9 h=>G0 31 [4] (h.pick [0,1] rfl) rfl (Ad ?_))))
 obtain rfl:=qa hF
 exact qaE qb (ρ:=(qm × Bool)) [GoT.v qm [.int .i64 i2,.int .i64 i3],GoT.v Bool [.bool b1]] h ⟨⟨_,_,_,rfl,rfl,h.box 2 rfl,rfl⟩,rfl,trivial⟩ (PV.done h (qcU h (qK (S:=fun _=>False) (qS (⟨i2,i3⟩:qm))) (qa1 (qK (S:=fun _=>False) rfl)) (by rfl)))
def qev (_:Nat) (p:Tplace) (v0:Int):Option Bool :=
 bif (p.net==v0) then some p.drives else
 some false
theorem qjG {p:Tplace} {v0:Int} (ha1:GoT.R w (old w) p cs1) {p1:Option Addr} (ha2:GoT.R w (old w) (some v0) [.pointer p1]) {r:Bool} (hF:qev n p v0=some r):RetV Tryz.prog 208 [GoT.v Tplace cs1,.pointer p1] w r:=by
 obtain rfl:=qe9 ha1
 obtain ⟨b1,o_1,cs2,rfl,-,hr1,hc1⟩:=PtR.get ha2 rfl
 obtain rfl:=hr1
 refine zV 12 Tryz.func208 rfl fun h=>zSR (qu h rfl rfl fun w1 bb1 h=>X1 6 0 h rfl (zc 0 (hc1.below h.below) rfl (zp2 rfl (qg (t:=8) hF rfl ?_ ?_))))<;>intro hF
 ·exact X1 7 0 h rfl (rb h hF rfl)
 exact X0 5 rfl (rb h hF rfl)
def qA (s:(List Tplace)) (f_0:Int):Nat→Int→Option (Flow Int Int)
 | 0,_=>none
 | n+1,i1 =>
  bif decide (i1<(s.length:Int)) then
   (idx s i1).bind fun y1 =>
   (qev n y1 f_0).bind fun r1 =>
   bif r1 then some (.ret i1) else
   qA s f_0 n (W64 (i1+1))
  else
   some (.nxt i1)
def qP (n:Nat) (s:(List Tplace)) (f_0:Int):Option Int :=
 (qA s f_0 n 0).bind fun o=>match o with
 | .ret r=>some r
 | .nxt _ =>
  some (-1)
theorem qdo {s:(List Tplace)} {f_0:Int} (ha1:GoT.R w (old w) s cs1) {p2:Option Addr} (ha2:GoT.R w (old w) (some f_0) [.pointer p2]) {r:Int} (hF:qP n s f_0=some r):RetV Tryz.prog 207 [GoT.v (List Tplace) cs1,.func (.func 208) #[] #[.pointer p2]] w r:=by
 obtain ⟨p1,k1,rfl,s1⟩:=ha1
 obtain ⟨b1,o_1,cs2,rfl,-,hr1,hc1⟩:=PtR.get ha2 rfl
 obtain rfl:=hr1
 refine zV 19 Tryz.func207 rfl fun h=>X0 11 rfl ?_
 obtain ⟨o1,hF,hK1⟩:=qf hF
 refine ql (rL (fun m e w'=>∃ (i1:Int),qA s f_0 m i1=some o1∧e=[(0,.slice p1 s.length k1),(1,.func (.func 208) #[] #[.pointer (some ⟨b1,o_1,none⟩)]),(7,.int .i64 (s.length:Int)),(8,.int .i64 i1)]∧SH w w' []) n ⟨_,hF,rfl,h⟩ rfl ?_)
 rintro m1 e1 w1 ⟨i1,hF,rfl,h⟩
 rcases m1 with _|m1
 ·cases hF
 refine X0 5 rfl (qh rfl hF ?_ ?_)<;>intro hF
 ·refine X0 13 rfl ?_
  obtain ⟨y1,hy1,hF,he1,b2,_,q1,cs3,hp1,hq1,hr2,hc3⟩:=s1.ix hF
  obtain rfl:=qe9 hr2
  refine zxe hp1 hq1 he1 rfl (zc 0 (hc3.below h.below) rfl (zcB h hF (qjG (qim y1) (h.old ha2)) rfl fun r1 w2 h hF=>qdj (qh rfl hF ?_ ?_)))<;>intro hF
  ·refine X0 5 rfl ?_
   obtain rfl:=qa hF;replace hF:=hK1
   exact ri h hF rfl
  exact X0 6 rfl (rK ⟨_,hF,rfl,h⟩ rfl)
 refine qr rfl ?_
 obtain rfl:=qa hF;replace hF:=hK1
 exact X0 4 rfl (ri h hF rfl)
def qd3 (n:Nat) (v:(Option Tview)) (t:qt) (net:Int):Option (qm × Bool) :=
 (v).bind fun y1 =>
 (qP n y1.places net).bind fun r1 =>
 (qiC n t ([W64 (2*r1),W64 ((W64 (2*r1))+1)]:List Int)).bind fun o=>match o with
  | (r3,r4) =>
   some (r3,r4)
theorem qhA {v:(Option Tview)} {t:qt} {net:Int} (ha1:GoT.R w (old w) v cs1) (ha2:GoT.R w (old w) t cs2) {r:(qm × Bool)} (hF:qd3 n v t net=some r):RetV Tryz.prog 132 [GoT.v (Option Tview) cs1,GoT.v qt cs2,.int .i64 net] w r:=by
 obtain ⟨p1,rfl,s1⟩:=qi8 ha1
 obtain ⟨p2,k1,p3,k2,p4,k3,rfl,s2,s3,s4⟩:=qaf ha2
 refine zV 25 Tryz.func132 rfl fun h=>zSR (qu h rfl rfl fun w1 bb1 h=>qu h rfl rfl fun w2 bb2 h=>qx qb h rfl rfl rfl fun w3 bb3 h=>X0 5 rfl ?_)
 obtain ⟨y1,hy1,hF⟩:=qf hF
 obtain ⟨b1,o_1,cs3,rfl,-,hr1,hc1⟩:=PtR.get s1 hy1
 obtain ⟨p5,k4,p6,k5,p7,k6,p8,k7,p9,k8,p10,k9,p11,k10,p12,k11,p13,k12,p14,k13,rfl,s5,s6,s7,s8,s9,s10,s11,s12,s13,s14⟩:=qnC hr1
 refine zp2 rfl (zc 5 (hc1.below h.below) rfl (zp1 rfl (zcI h hF (qdo ⟨_,_,rfl,(h.oldS s10)⟩ (qiw (x:=net) 1 h rfl rfl)) rfl fun r1 w4 h hF=>X1 10 2 h rfl (qab qb [.tmp 17,.tmp 20] _ ([W64 (2*r1),W64 ((W64 (2*r1))+1)]:List Int) h rfl rfl rfl rfl rfl rfl rfl rfl rfl ⟨rfl,rfl,trivial⟩ rfl fun w5 p15 S1 h=>?_))))
 obtain ⟨r2,hr3,hF⟩:=qf hF
 obtain ⟨r3,r4⟩:=r2
 refine qfg (r3,r4) h (cB 189 rfl) (qnq (h.old ha2) (h.own 0 rfl) hr3) rfl rfl rfl rfl fun w6 S2 us1 hv1 hr4=>?_
 obtain ⟨S3,S4,cs4,us2,rfl,hv2,hr5⟩:=hv1.cons hr4
 obtain rfl:=qv (hv2.sh.own 0 rfl)
 obtain ⟨rfl,h⟩:=hv2.lastB hr5
 refine zp2 rfl (zs 2 h rfl fun w7 h=>X0 2 rfl ?_)
 obtain rfl:=qa hF
 exact qaE qb (ρ:=(qm × Bool)) [GoT.v qm (qg6 r3),GoT.v Bool [.bool r4]] h ⟨⟨_,_,_,rfl,rfl,h.box 2 rfl,rfl⟩,rfl,trivial⟩ (PV.done h (qcU h (qas 0 h rfl) (qa1 (qK (S:=fun _=>False) rfl)) (by rfl)))
def qf5 (_:Nat) (s:qm) (t:qm):Option Bool :=
 bif decide (s.As≤t.Ba) then some (decide (t.As≤s.Ba)) else
 some false
theorem qjJ {s:qm} {t:qm} (ha1:GoT.R w (old w) s cs1) (ha2:GoT.R w (old w) t cs2) {r:Bool} (hF:qf5 n s t=some r):RetV Tryz.prog 133 [GoT.v qm cs1,GoT.v qm cs2] w r:=by
 obtain rfl:=qv ha1
 obtain rfl:=qv ha2
 refine zV 17 Tryz.func133 rfl fun h=>zSR (qu h rfl rfl fun w1 bb1 h=>qu h rfl rfl fun w2 bb2 h=>X2 10 1 0 h rfl (qg (t:=10) hF rfl ?_ ?_))<;>intro hF
 ·exact X2 13 0 1 h rfl (rb h hF rfl)
 exact X0 8 rfl (rb h hF rfl)
def qao (v:(Option Tview)) (t:qt) (list:(List qe)):Nat→(List Int)→Int→Option ((List Int) × Int)
 | 0,_,_=>none
 | n+1,x1,i1 =>
  bif decide (i1<(list.length:Int)) then
   (idx list i1).bind fun y1 =>
   (qd3 n v t y1.A).bind fun o=>match o with
    | (r2,r3) =>
     (qd3 n v t y1.B).bind fun o=>match o with
      | (r5,r6) =>
       bif r3 then
        bif r6 then
         (qf5 n r2 r5).bind fun r7 =>
         bif r7 then
          (appS x1 ([i1]:List Int)).bind fun x2 =>
          qao v t list n x2 (W64 (i1+1))
         else
          qao v t list n x1 (W64 (i1+1))
        else
         qao v t list n x1 (W64 (i1+1))
       else
        qao v t list n x1 (W64 (i1+1))
  else
   some (x1,i1)
def qfx (n:Nat) (v:(Option Tview)) (t:qt) (list:(List qe)):Option (List Int) :=
 (qao v t list n ([]:List Int) 0).bind fun o=>match o with
 | (x1,_) =>
  some x1
theorem qku {v:(Option Tview)} {t:qt} {list:(List qe)} (ha1:GoT.R w (old w) v cs1) (ha2:GoT.R w (old w) t cs2) (ha3:GoT.R w (old w) list cs3) {r:(List Int)} (hF:qfx n v t list=some r):RetV Tryz.prog 57 [GoT.v (Option Tview) cs1,GoT.v qt cs2,GoT.v (List qe) cs3] w r:=by
 obtain ⟨p1,rfl,s1⟩:=qi8 ha1
 obtain ⟨p2,k1,p3,k2,p4,k3,rfl,s2,s3,s4⟩:=qaf ha2
 obtain ⟨p5,k4,rfl,s5⟩:=ha3
 refine zV 52 Tryz.func57 rfl fun h=>zSR (qu h rfl rfl fun w1 bb1 h=>X0 13 rfl ?_)
 replace h:=h.nil (α:=Int)
 obtain ⟨o1,hF,hK1⟩:=qf hF
 refine ql (rL (fun m e w'=>∃ (S1:Nat→Prop) (p6:Option Addr) (ln1:Nat) (k5:Nat) (x1:(List Int)) (i1:Int),qao v t list m x1 i1=some o1∧e=[(0,.pointer p1),(4,.pointer (some ⟨bb1,0,none⟩)),(7,.slice p6 ln1 k5),(14,.slice p5 list.length k4),(15,.int .i64 (list.length:Int)),(16,.int .i64 i1)]∧SH w w' [Ch.own S1 (x1:List Int) [.slice p6 ln1 k5],Ch.box bb1 (qaB t p2 p3 p4 k1 k2 k3) 57]) n ⟨_,_,_,_,_,_,hF,rfl,h⟩ rfl ?_)
 rintro m1 e1 w2 ⟨S1,p6,ln1,k5,x1,i1,hF,rfl,h⟩
 obtain rfl:=(h.sl 0 rfl).2
 rcases m1 with _|m1
 ·cases hF
 refine X0 5 rfl (qh rfl hF ?_ ?_)<;>intro hF
 ·refine X0 6 rfl ?_
  obtain ⟨y1,hy1,hF,he1,b1,_,q1,cs4,hp1,hq1,hr1,hc2⟩:=s5.ix hF
  obtain rfl:=qQ hr1
  refine zxe hp1 hq1 he1 rfl (zc 0 (hc2.below h.below) rfl (qx qb h rfl rfl rfl fun w3 bb2 h=>zp1 rfl (zs 0 h rfl fun w4 h=>X2 7 2 0 h rfl ?_)))
  obtain ⟨r1,hr2,hF⟩:=qf hF
  obtain ⟨r2,r3⟩:=r1
  refine qfg (r2,r3) h (cB 132 rfl) (qhA (h.old s1) (h.old ha2) hr2) rfl rfl rfl rfl fun w5 S2 us1 hv1 hr3=>?_
  obtain ⟨S3,S4,cs5,us2,rfl,hv2,hr4⟩:=hv1.cons hr3
  obtain rfl:=qv (hv2.sh.own 0 rfl)
  obtain ⟨rfl,h⟩:=hv2.lastB hr4
  refine zp3 rfl (qx qb h rfl rfl rfl fun w6 bb3 h=>zs 0 h rfl fun w7 h=>X2 8 4 2 h rfl ?_)
  obtain ⟨r4,hr6,hF⟩:=qf hF
  obtain ⟨r5,r6⟩:=r4
  refine qfg (r5,r6) h (cB 132 rfl) (qhA (h.old s1) (h.old ha2) hr6) rfl rfl rfl rfl fun w8 S6 us3 hv4 hr7=>?_
  obtain ⟨S7,S8,cs6,us4,rfl,hv5,hr8⟩:=hv4.cons hr7
  obtain rfl:=qv (hv5.sh.own 0 rfl)
  obtain ⟨rfl,h⟩:=hv5.lastB hr8
  refine zp3 rfl (qx qb h rfl rfl rfl fun w9 bb4 h=>zs 0 h rfl fun w10 h=>X0 6 rfl (qg (t:=38) hF rfl ?_ ?_))<;>intro hF
  ·refine X0 4 rfl (qg (t:=41) hF rfl ?_ ?_)<;>intro hF
   ·refine X2 5 2 0 h rfl (zcB h hF (qjJ (h.own 3 rfl) (h.own 1 rfl)) rfl fun r7 w11 h hF=>X0 2 rfl (qh rfl hF ?_ ?_))<;>intro hF
    ·refine X0 3 rfl (qab qb [.tmp 47] _ ([i1]:List Int) h rfl rfl rfl rfl rfl rfl rfl rfl rfl ⟨rfl,trivial⟩ rfl fun w12 p7 S10 h=>?_)
     obtain ⟨x2,hx1,hF⟩:=qf hF
     obtain ⟨g1,hx1⟩:=qaY hx1
     refine qd1 qb 6 h rfl (h.sl 0 rfl).1 (h.sl 0 rfl).2 rfl rfl rfl rfl rfl rfl rfl rfl rfl g1 hx1 rfl fun w13 p8 k6 S11 h=>X0 7 rfl ?_
     replace h:=h.pick [6,7] rfl
     exact rK ⟨_,_,_,_,_,_,hF,rfl,h⟩ rfl
    refine X0 6 rfl ?_
    replace h:=h.pick [5,6] rfl
    exact rK ⟨_,_,_,_,_,_,hF,rfl,h⟩ rfl
   refine X0 5 rfl (qcO rfl rfl (X0 6 rfl ?_))
   replace h:=h.pick [5,6] rfl
   exact rK ⟨_,_,_,_,_,_,hF,rfl,h⟩ rfl
  refine X0 8 rfl (qcO rfl rfl (X0 6 rfl ?_))
  replace h:=h.pick [5,6] rfl
  exact rK ⟨_,_,_,_,_,_,hF,rfl,h⟩ rfl
 refine qr rfl ?_
 obtain rfl:=qa hF;replace hF:=hK1
 refine X0 5 rfl ?_
 obtain rfl:=qa hF
 exact rO 0 h rfl ⟨rfl,trivial⟩
def qcj (n:Nat) (b:qk) (t:qt) (list:(List qe)):Option ((List Int) × Int) :=
 (qe5 n b t).bind fun o=>match o with
  | (r2,r3) =>
   bif (r3 != 0) then some ([],r3) else
   (qcw n b list).bind fun r4 =>
   bif (!r4) then some ([],2) else
   (qfx n r2 t list).bind fun r5 =>
   some (r5,0)
theorem qf9 {b:qk} {t:qt} {list:(List qe)} (ha1:GoT.R w (old w) b cs1) (ha2:GoT.R w (old w) t cs2) (ha3:GoT.R w (old w) list cs3) {r:((List Int) × Int)} (hF:qcj n b t list=some r):RetV Tryz.prog 14 [GoT.v qk cs1,GoT.v qt cs2,GoT.v (List qe) cs3] w r:=by
 obtain ⟨p1,k1,p2,k2,p3,k3,p4,k4,p5,k5,rfl,s1,s2,s3,s4,s5⟩:=qV ha1
 obtain ⟨p6,k6,p7,k7,p8,k8,rfl,s6,s7,s8⟩:=qaf ha2
 obtain ⟨p9,k9,rfl,s9⟩:=ha3
 refine zV 29 Tryz.func14 rfl fun h=>zSR (qu h rfl rfl fun w1 bb1 h=>qu h rfl rfl fun w2 bb2 h=>X2 7 1 0 h rfl ?_)
 have hg1:Rg (old w) w (old w) w:=.start (fun _ h=>h)
 obtain ⟨r1,hr1,hF⟩:=qf hF
 obtain ⟨r2,r3⟩:=r1
 refine qra (r2,r3) hg1 h (cB 55 rfl) (qlC (hg1.regOld h) (hg1.inR h ha1) (hg1.inR h ha2) hr1) rfl rfl rfl rfl fun w3 us1 B1 hg2 hu1 hz1 hv1=>?_
 have hL1:=h.ext hu1.below
 have s10:=Up.S hg1 h hu1 s9
 have hc1:=Up.box 1 h hu1 rfl
 have s11:=Up.S hg1 h hu1 s1
 have s12:=Up.S hg1 h hu1 s2
 have s13:=Up.S hg1 h hu1 s3
 have s14:=Up.S hg1 h hu1 s4
 have s15:=Up.S hg1 h hu1 s5
 have s16:=Up.R hg1 h hu1 ha1
 have ha4:=Up.boxP (x:=b) hg1 1 h hu1 rfl (hg1.inR h ha1)
 have hc2:=Up.box 0 h hu1 rfl
 have s17:=Up.S hg1 h hu1 s6
 have s18:=Up.S hg1 h hu1 s7
 have s19:=Up.S hg1 h hu1 s8
 have s20:=Up.R hg1 h hu1 ha2
 have ha5:=Up.boxP (x:=t) hg1 0 h hu1 rfl (hg1.inR h ha2)
 have hb1:=h.below.trans (hu1.below.mono h.below.size)
 replace h:=hz1
 obtain ⟨cs4,us2,rfl,hr2,hv2⟩:=qtQ hv1
 obtain ⟨p10,rfl,s21⟩:=qi8 hr2
 obtain ⟨cs5,rfl,hr3⟩:=qs4 hv2
 obtain rfl:=hr3
 refine X0 14 rfl (qh rfl hF ?_ ?_)<;>intro hF
 ·refine X0 6 rfl ?_
  replace h:=h.unbase hg2.below (show NoD [] from trivial)
  obtain rfl:=qa hF
  exact qaE qb (ρ:=((List Int) × Int)) [GoT.v (List Int) [.slice none 0 0],GoT.v Int [.int .i64 r3]] h ⟨rfl,rfl,trivial⟩ (PV.done h (qcU h qpd (qa1 (qK (S:=fun _=>False) rfl)) (by rfl)))
 refine zSR (zc 0 (hc1.below h.below) rfl (zp1 rfl (zcB h hF (qig (h.old (GoT.mono s16 hg2.old)) ⟨_,_,rfl,(h.oldS (s10.mono hg2.old))⟩) rfl fun r4 w4 h hF=>X0 3 rfl (qh rfl hF ?_ ?_))))<;>intro hF
 ·refine X0 5 rfl ?_
  replace h:=h.unbase hg2.below (show NoD [] from trivial)
  obtain rfl:=qa hF
  exact qaE qb (ρ:=((List Int) × Int)) [GoT.v (List Int) [.slice none 0 0],GoT.v Int [.int .i64 2]] h ⟨rfl,rfl,trivial⟩ (PV.done h (qcU h qpd (qa1 (qK (S:=fun _=>False) rfl)) (by rfl)))
 refine X0 5 rfl (zc 0 (hc2.below h.below) rfl (zp1 rfl (zcL h hF (qku (h.old (GoT.mono s21 hg2.old)) (h.old (GoT.mono s20 hg2.old)) ⟨_,_,rfl,(h.oldS (s10.mono hg2.old))⟩) rfl fun r5 w5 S1 p11 k10 h hF=>X0 3 rfl ?_)))
 replace h:=h.unbase hg2.below ⟨fun _ h=>h,trivial⟩
 obtain rfl:=qa hF
 exact qaE qb (ρ:=((List Int) × Int)) [GoT.v (List Int) [.slice p11 r5.length k10],GoT.v Int [.int .i64 0]] h ⟨rfl,rfl,trivial⟩ (PV.done h (qcU h (qas 0 h rfl) (qa1 (qK (S:=fun _=>False) rfl)) (by rfl)))
end Go.Fw


namespace Go.Fw
open Go
set_option maxRecDepth 100000
theorem qo0 {b:qk} {k:Int} (h:blockB b=true) {j:Nat} (hj:j<(places b.Ab).length) (hk:(gt (places b.Ab) j).net=k) (hdr:(gt (places b.Ab) j).drives=true):Ev (fun n=>qgi n b.Ab k) (j:Int):=by
 have hd:=qcC h
 have hs:=qbs hd
 have hl:=qdQ hs
 have e:ixL (fun q:Tl05Place=>(q.net==k)&&q.drives) ((places b.Ab).map toSp)=(j:Int):=by
  refine qsz (by simpa using hj) ?_ (fun i hi hq=>?_)
  ·rw [qqo hj]
   show (((gt (places b.Ab) j).net==k)&&(gt (places b.Ab) j).drives)=true
   rw [hk,hdr];simp
  ·have hi':i<(places b.Ab).length:=by simpa using hi
   rw [qqo hi'] at hq
   have hq':(((gt (places b.Ab) i).net==k)&&(gt (places b.Ab) i).drives)=true:=hq
   simp only [jf,beq_iff_eq] at hq'
   exact qpS hd hi' hj (by rw [hq'.1,hk]) hq'.2 hdr
 unfold qgi
 refine Ev.bind (qkS hs) ?_
 rw [←e]
 exact qfF (fin:=(((places b.Ab).map toSp).length:Int)) (Lf:=qbI k ((places b.Ab).map toSp)) (xs:=(places b.Ab).map toSp) (pf:=fun _ (q:Tl05Place)=>some ((q.net==k)&&q.drives)) (fun _ _=>.done)
  (fun n=>by simp only [qbI,qj (je _),cond_false])
  (fun n j x hx=>by
   have hj:=(List.getElem?_eq_some_iff.1 hx).1
   have hj':j<(places b.Ab).length:=by simpa using hj
   simp only [qbI,qi hj,cond_true,qz hx,jd,wS j]
   cases (x.net==k)<;>cases x.drives<;>rfl)
  (fun n=>by congr 1;funext o;cases o<;>rfl)
def lvB (br:List Int) (m:Nat):List Bool:=pre (fun k=>!br.any fun y=>y==(k:Int)) m
def brB (br:List Int) (m:Nat):Bool:=(br.all fun x=>inI x 0 ((m:Int)-1))&&incB br
end Go.Fw


namespace Go.Fw
open Go
set_option maxRecDepth 100000
structure CLk (b:qk) (x:qaa) (i j m net a:Nat):Prop where
 kind:x.Ay=1
 il:i<b.Ab.Aa.length
 jl:j<(places b.Ab).length
 inst:(gt (places b.Ab) j).instance_=(i:Int)
 net_:(gt (places b.Ab) j).net=(net:Int)
 nl:net<b.Ac.length
 half:W64 (x.To.tdiv 2)=(j:Int)
 mod:x.To.tmod 2=(m:Int)
 ml:m<2
 ix:x.Bx=(a:Int)
 al:a<(cellAt b (i:Int)).Aj.length
 d2:(gt (cellAt b (i:Int)).Aj a).Bb.length=2
 s2:(gt (cellAt b (i:Int)).Aj a).Az.length=2
 dt:∀ t,t ∈ (gt (cellAt b (i:Int)).Aj a).Bb→TbOk t∧∀ k,0≤at0 t.Av k
 st:∀ t,t ∈ (gt (cellAt b (i:Int)).Aj a).Az→TbOk t∧∀ k,0≤at0 t.Av k
structure WLk (b:qk) (x:qaa) (j net k:Nat):Prop where
 kind:x.Ay=2
 jl:j<(places b.Ab).length
 net_:(gt (places b.Ab) j).net=(net:Int)
 nl:net<b.Ac.length
 half:W64 (x.To.tdiv 2)=(j:Int)
 ix:x.Bx=(k:Int)
 kl:k<(gt b.Ac net).Bg.length
end Go.Fw


namespace Go.Fw
open Go
set_option maxRecDepth 100000
def slR (s:qm):Prop:=(0≤s.As∧s.As≤1000000)∧(0≤s.Ba∧s.Ba≤1000000)
def zSp:qm:=⟨0,0⟩
def hullS (s t:qm):qm:=⟨if t.As<s.As then t.As else s.As,if t.Ba > s.Ba then t.Ba else s.Ba⟩
structure TmOk (t:qt) (M:Nat):Prop where
 r:t.Aq.length=M
 a:t.Ap.length=M
 s:t.Az.length=M
 sl:∀ k,k<M→slR (gt t.Az k)
structure SrcOk (xs:List qcl):Prop where
 len:xs.length≤1048576
 inc:∀ j i,i<j→j<xs.length→(gt xs i).Bw<(gt xs j).Bw
 sl:∀ x,x ∈ xs→slR x.Az
section
variable {b:qk} {c:qhL} {ex:List Int} {f:Nat→qm→qm × qm} {lv:List Bool} {t:qt} {xs:List qcl} {node:Int}
end
end Go.Fw


namespace Go.Fw
open Go
set_option maxRecDepth 100000
theorem qp9 {b:qk} (h:blockB b=true):Ev (fun n=>qg4 n b) ((2*(places b.Ab).length:Nat):Int):=by
 have hs:=qbs (qcC h)
 have hl:=qdQ hs
 unfold qg4
 refine Ev.bind (b:=(places b.Ab).map toSp) (qkS hs) (Ev.now ?_)
 rw [jE,qZ (by omega) (by omega)]
 rfl
theorem qr4 {v:Tview} (hl:v.places.length≤78) (n:Nat):qfR n (some v)=some ((2*v.places.length:Nat):Int):=by
 unfold qfR qel
 simp only [jd]
 rw [qZ (by omega) (by omega)]
 rfl
def stepN (xs:List qcl) (j:Nat):Bool:=decide (j=0) || decide ((gt xs (j-1)).Bw<(gt xs j).Bw)
def srcB (xs:List qcl) (M:Nat):Bool:=allN (fun j=>inI (gt xs j).Bw 0 ((M:Int)-1)&&(stepN xs j&&(spanB (gt xs j).Ap&&slewB (gt xs j).Az))) xs.length
section
variable {L:Nat} {fr to:Nat→Int} {lv:Nat→Bool} {n:Nat}
def OrdOk (L:Nat) (fr to:Nat→Int) (lv:Nat→Bool) (n:Nat) (R:List Nat):Prop:=∀ l1 k l2,R=l1++k::l2→k<n∧k ∉ l1∧inN L fr to lv l1 k=0
theorem OrdOk.snoc {R:List Nat} {k:Nat} (h:OrdOk L fr to lv n R) (hk:nxtN L fr to lv n R=some k):OrdOk L fr to lv n (R++[k]):=by
 intro l1 k' l2 e
 rcases List.eq_nil_or_concat l2 with rfl|⟨l2',z,rfl⟩
 ·obtain ⟨rfl,e2⟩:=List.append_inj' e rfl
  obtain rfl:k=k':=by simpa using e2
  exact qrz hk
 ·have e':R++[k]=(l1++k'::l2')++[z]:=by rw [e];simp
  obtain ⟨e1,_⟩:=List.append_inj' e' rfl
  exact h l1 k' l2' e1
theorem OrdOk.at {R:List Nat} (h:OrdOk L fr to lv n R) {j:Nat} (hj:j<R.length):R[j]<n∧R[j] ∉ R.take j∧inN L fr to lv (R.take j) R[j]=0:=by
 refine h (R.take j) R[j] (R.drop (j+1)) ?_
 rw [←jL hj,List.take_append_drop]
end
section
variable {b:qk} {c:qhL} {ex:List Int} {f g:Nat→qm→qm × qm} {lv:List Bool} {t:qt} {xs:List qcl} {node:Int}
end
end Go.Fw


namespace Go.Fw
open Go Go.Proofs
open Go.RowKit (Below)
set_option maxRecDepth 100000
set_option maxHeartbeats 1600000
variable {n:Nat} {w:World} {cs1 cs2 cs3 cs4 cs5 cs6 cs7 cs8 cs9:List Value}
end Go.Fw


namespace Go.Fw
open Go Go.Proofs
open Go.RowKit (Below)
set_option maxRecDepth 100000
set_option maxHeartbeats 1600000
variable {n:Nat} {w:World} {cs1 cs2 cs3 cs4 cs5 cs6 cs7 cs8 cs9:List Value}
def qju (_:Nat) (a:(List Bool)) (left:Int):Option Int :=
 bif decide ((W64 (left-(a.length:Int)))<0) then some (-1) else
 some (W64 (left-(a.length:Int)))
theorem qmG {a:(List Bool)} {left:Int} (ha1:GoT.R w (old w) a cs1) {r:Int} (hF:qju n a left=some r):RetV Tryz.prog 44 [GoT.v (List Bool) cs1,.int .i64 left] w r:=by
 obtain ⟨p1,k1,rfl,s1⟩:=ha1
 refine zV 12 Tryz.func44 rfl fun h=>X0 18 rfl (qh rfl hF ?_ ?_)<;>intro hF
 ·exact X0 4 rfl (ri h hF rfl)
 exact X0 6 rfl (ri h hF rfl)
def qhH (_:Nat) (a:(List qm)) (left:Int):Option Int :=
 bif decide ((W64 (left-(a.length:Int)))<0) then some (-1) else
 some (W64 (left-(a.length:Int)))
theorem qjC {a:(List qm)} {left:Int} (ha1:GoT.R w (old w) a cs1) {r:Int} (hF:qhH n a left=some r):RetV Tryz.prog 45 [GoT.v (List qm) cs1,.int .i64 left] w r:=by
 obtain ⟨p1,k1,rfl,s1⟩:=ha1
 refine zV 12 Tryz.func45 rfl fun h=>X0 18 rfl (qh rfl hF ?_ ?_)<;>intro hF
 ·exact X0 4 rfl (ri h hF rfl)
 exact X0 6 rfl (ri h hF rfl)
def qg1 (n:Nat) (a:qt) (left:Int):Option Int :=
 (qju n a.Aq left).bind fun r1 =>
 bif decide (r1<0) then some (-1) else
 (qhH n a.Ap r1).bind fun r2 =>
 bif decide (r2<0) then some (-1) else
 (qhH n a.Az r2).bind fun r3 =>
 bif decide (r3<0) then some (-1) else
 some r3
theorem qlF {a:qt} {left:Int} (ha1:GoT.R w (old w) a cs1) {r:Int} (hF:qg1 n a left=some r):RetV Tryz.prog 8 [GoT.v qt cs1,.int .i64 left] w r:=by
 obtain ⟨p1,k1,p2,k2,p3,k3,rfl,s1,s2,s3⟩:=qaf ha1
 refine zV 24 Tryz.func8 rfl fun h=>zSR (qu h rfl rfl fun w1 bb1 h=>X1 7 0 h rfl (zcI h hF (qmG ⟨_,_,rfl,(h.oldS s1)⟩) rfl fun r1 w2 h hF=>X0 8 rfl (qh rfl hF ?_ ?_)))<;>intro hF
 ·exact X0 4 rfl (ri h hF rfl)
 refine X1 6 0 h rfl (zcI h hF (qjC ⟨_,_,rfl,(h.oldS s2)⟩) rfl fun r2 w3 h hF=>X0 8 rfl (qh rfl hF ?_ ?_))<;>intro hF
 ·exact X0 4 rfl (ri h hF rfl)
 refine X1 6 0 h rfl (zcI h hF (qjC ⟨_,_,rfl,(h.oldS s3)⟩) rfl fun r3 w4 h hF=>X0 8 rfl (qh rfl hF ?_ ?_))<;>intro hF
 ·exact X0 4 rfl (ri h hF rfl)
 exact X0 6 rfl (ri h hF rfl)
def qeN (a:(List Bool)):Nat→(List Bool)→Int→Option ((List Bool) × Int)
 | 0,_,_=>none
 | n+1,x2,i1 =>
  bif decide (i1<(a.length:Int)) then
   (idx a i1).bind fun y1 =>
   (idx x2 i1).bind fun _ =>
   qeN a n (setS x2 i1 y1) (W64 (i1+1))
  else
   some (x2,i1)
def qhZ (n:Nat) (a:(List Bool)):Option (List Bool) :=
 (mkS (a.length:Int) (false:Bool)).bind fun x1 =>
 (qeN a n x1 0).bind fun o=>match o with
 | (x2,_) =>
  some x2
theorem qmA {a:(List Bool)} (ha1:GoT.R w (old w) a cs1) {r:(List Bool)} (hF:qhZ n a=some r):RetV Tryz.prog 52 [GoT.v (List Bool) cs1] w r:=by
 obtain ⟨p1,k1,rfl,s1⟩:=ha1
 refine zV 22 Tryz.func52 rfl fun h=>X0 8 rfl ?_
 obtain ⟨x1,hx1,hF⟩:=qf hF
 obtain ⟨g1,g2,hx1⟩:=qbM hx1
 refine qcT qb Bool h rfl rfl rfl rfl rfl rfl rfl rfl rfl g1 g2 hx1 rfl fun w1 S1 p2 h=>X0 7 rfl ?_
 obtain ⟨o1,hF,hK1⟩:=qf hF
 refine ql (rL (fun m e w'=>∃ (x2:(List Bool)) (i1:Int),qeN a m x2 i1=some o1∧e=[(0,.slice p1 a.length k1),(3,.slice p2 x1.length x1.length),(4,.int .i64 i1)]∧SH w w' [Ch.own S1 (x2:List Bool) [.slice p2 x1.length x1.length]]) n ⟨_,_,hF,rfl,h⟩ rfl ?_)
 rintro m1 e1 w2 ⟨x2,i1,hF,rfl,h⟩
 rcases m1 with _|m1
 ·cases hF
 refine X0 8 rfl (qh rfl hF ?_ ?_)<;>intro hF
 ·refine X0 8 rfl ?_
  obtain ⟨y1,hy1,hF,he1,b1,_,q1,cs2,hp1,hq1,rfl,hc2⟩:=s1.ix hF
  refine zxe hp1 hq1 he1 rfl (zc 0 (hc2.below h.below) rfl ?_)
  obtain ⟨y2,hy2,hF,he2,b2,_,q2,cs3,hp2,hq2,rfl,hc3⟩:=(h.sl 0 rfl).1.ix hF
  exact zx hp2 hq2 ⟨he2.1,qJ he2.2.1 (h.sl 0 rfl).2⟩ rfl (qaS qb 0 0 y1 h rfl hy2 hp2 hq2 rfl hc3 rfl rfl rfl rfl rfl rfl rfl fun w3 h=>X0 7 rfl (rK ⟨_,_,hF,rfl,h⟩ rfl))
 refine qr rfl ?_
 obtain rfl:=qa hF;replace hF:=hK1
 refine X0 5 rfl ?_
 obtain rfl:=qa hF
 exact rO 0 h rfl ⟨rfl,trivial⟩
def qeA (a:(List qm)):Nat→(List qm)→Int→Option ((List qm) × Int)
 | 0,_,_=>none
 | n+1,x2,i1 =>
  bif decide (i1<(a.length:Int)) then
   (idx a i1).bind fun y1 =>
   (qhb n y1).bind fun r1 =>
   (idx x2 i1).bind fun _ =>
   qeA a n (setS x2 i1 r1) (W64 (i1+1))
  else
   some (x2,i1)
def qgz (n:Nat) (a:(List qm)):Option (List qm) :=
 (mkS (a.length:Int) ((⟨0,0⟩:qm):qm)).bind fun x1 =>
 (qeA a n x1 0).bind fun o=>match o with
 | (x2,_) =>
  some x2
theorem qjE {a:(List qm)} (ha1:GoT.R w (old w) a cs1) {r:(List qm)} (hF:qgz n a=some r):RetV Tryz.prog 53 [GoT.v (List qm) cs1] w r:=by
 obtain ⟨p1,k1,rfl,s1⟩:=ha1
 refine zV 23 Tryz.func53 rfl fun h=>X0 8 rfl ?_
 obtain ⟨x1,hx1,hF⟩:=qf hF
 obtain ⟨g1,g2,hx1⟩:=qbM hx1
 refine qcT qb qm h rfl rfl rfl rfl rfl rfl rfl rfl rfl g1 g2 hx1 rfl fun w1 S1 p2 h=>X0 7 rfl ?_
 obtain ⟨o1,hF,hK1⟩:=qf hF
 refine ql (rL (fun m e w'=>∃ (x2:(List qm)) (i1:Int),qeA a m x2 i1=some o1∧e=[(0,.slice p1 a.length k1),(3,.slice p2 x1.length x1.length),(4,.int .i64 i1)]∧SH w w' [Ch.own S1 (x2:List qm) [.slice p2 x1.length x1.length]]) n ⟨_,_,hF,rfl,h⟩ rfl ?_)
 rintro m1 e1 w2 ⟨x2,i1,hF,rfl,h⟩
 rcases m1 with _|m1
 ·cases hF
 refine X0 8 rfl (qh rfl hF ?_ ?_)<;>intro hF
 ·refine X0 8 rfl ?_
  obtain ⟨y1,hy1,hF,he1,b1,_,q1,cs2,hp1,hq1,hr1,hc2⟩:=s1.ix hF
  obtain rfl:=qv hr1
  refine zxe hp1 hq1 he1 rfl (zc 0 (hc2.below h.below) rfl (zcO h hF (qnE (qS y1)) rfl fun r1 w3 S2 cs3 h hF=>?_))
  obtain rfl:=qv (h.own 0 rfl)
  obtain ⟨y2,hy2,hF,he2,b2,_,q2,cs4,hp2,hq2,hr3,hc3⟩:=(h.sl 1 rfl).1.ix hF
  obtain rfl:=qv hr3
  refine zx hp2 hq2 ⟨he2.1,qJ he2.2.1 (h.sl 1 rfl).2⟩ rfl (qaS qb 1 0 r1 h rfl hy2 hp2 hq2 (qS y2) hc3 rfl rfl rfl (qS r1) rfl rfl rfl fun w4 h=>X0 7 rfl ?_)
  replace h:=h.pick [1] rfl
  exact rK ⟨_,_,hF,rfl,h⟩ rfl
 refine qr rfl ?_
 obtain rfl:=qa hF;replace hF:=hK1
 refine X0 5 rfl ?_
 obtain rfl:=qa hF
 exact rO 0 h rfl ⟨rfl,trivial⟩
def qdR (n:Nat) (a:qt):Option qt :=
 (qhZ n a.Aq).bind fun r1 =>
 (qgz n a.Ap).bind fun r2 =>
 (qgz n a.Az).bind fun r3 =>
 some (⟨r1,r2,r3⟩:qt)
theorem qfi {a:qt} (ha1:GoT.R w (old w) a cs1) {r:qt} (hF:qdR n a=some r):RetV Tryz.prog 12 [GoT.v qt cs1] w r:=by
 obtain ⟨p1,k1,p2,k2,p3,k3,rfl,s1,s2,s3⟩:=qaf ha1
 refine zV 17 Tryz.func12 rfl fun h=>zSR (qu h rfl rfl fun w1 bb1 h=>qx qb h rfl rfl rfl fun w2 bb2 h=>zNSR (qx qb h rfl rfl rfl fun w3 bb3 h=>X1 5 2 h rfl (zcL h hF (qmA ⟨_,_,rfl,(h.oldS s1)⟩) rfl fun r1 w4 S1 p4 k4 h hF=>zp1 rfl (zs 1 h rfl fun w5 h=>X1 5 3 h rfl (zcL h hF (qjE ⟨_,_,rfl,(h.oldS s2)⟩) rfl fun r2 w6 S2 p5 k5 h hF=>zp1 rfl (zs 2 h rfl fun w7 h=>X1 5 4 h rfl (zcL h hF (qjE ⟨_,_,rfl,(h.oldS s3)⟩) rfl fun r3 w8 S3 p6 k6 h hF=>zp1 rfl (zs 3 h rfl fun w9 h=>X1 4 3 h rfl (zs 4 h rfl fun w10 h=>qdj ?_)))))))))
 obtain rfl:=qa hF
 exact qaE qb (ρ:=qt) [GoT.v qt [.slice p4 r1.length k4,.slice p5 r2.length k5,.slice p6 r3.length k6]] h ⟨⟨_,_,_,rfl,rfl,h.box 4 rfl,rfl⟩,trivial⟩ (PV.done h (qa1 (qqq (⟨r1,r2,r3⟩:qt) h (qas 2 h rfl) (qas 1 h rfl) (qas 0 h rfl) (by rfl) (by rfl))))
def qeC (a:(List Bool)) (b:(List Bool)):Nat→Int→Option (Flow Bool Int)
 | 0,_=>none
 | n+1,i1 =>
  bif decide (i1<(a.length:Int)) then
   (idx a i1).bind fun y1 =>
   (idx b i1).bind fun y2 =>
   bif (!(y1==y2)) then some (.ret false) else
   qeC a b n (W64 (i1+1))
  else
   some (.nxt i1)
def qhK (n:Nat) (a:(List Bool)) (b:(List Bool)):Option Bool :=
 bif ((a.length:Int) != (b.length:Int)) then some false else
 (qeC a b n 0).bind fun o=>match o with
 | .ret r=>some r
 | .nxt _ =>
  some true
theorem qmt {a:(List Bool)} {b:(List Bool)} (ha1:GoT.R w (old w) a cs1) (ha2:GoT.R w (old w) b cs2) {r:Bool} (hF:qhK n a b=some r):RetV Tryz.prog 61 [GoT.v (List Bool) cs1,GoT.v (List Bool) cs2] w r:=by
 obtain ⟨p1,k1,rfl,s1⟩:=ha1
 obtain ⟨p2,k2,rfl,s2⟩:=ha2
 refine zV 26 Tryz.func61 rfl fun h=>X0 13 rfl (qh rfl hF ?_ ?_)<;>intro hF
 ·exact X0 4 rfl (rb h hF rfl)
 refine X0 6 rfl ?_
 obtain ⟨o1,hF,hK1⟩:=qf hF
 refine ql (rL (fun m e w'=>∃ (i1:Int),qeC a b m i1=some o1∧e=[(0,.slice p1 a.length k1),(1,.slice p2 b.length k2),(5,.int .i64 i1)]∧SH w w' []) n ⟨_,hF,rfl,h⟩ rfl ?_)
 rintro m1 e1 w1 ⟨i1,hF,rfl,h⟩
 rcases m1 with _|m1
 ·cases hF
 refine X0 8 rfl (qh rfl hF ?_ ?_)<;>intro hF
 ·refine X0 4 rfl (rD (zd2 rfl ?_))
  obtain ⟨y1,hy1,hF,he1,b1,_,q1,cs3,hp1,hq1,rfl,hc3⟩:=s1.ix hF
  refine zdxe hp1 hq1 he1 rfl (zdc 0 (hc3.below h.below) rfl (zd2 rfl ?_))
  obtain ⟨y2,hy2,hF,he2,b2,_,q2,cs4,hp2,hq2,rfl,hc4⟩:=s2.ix hF
  refine zdxe hp2 hq2 he2 rfl (zdc 0 (hc4.below h.below) rfl (zd1 rfl (dN h fun w2 h=>qh rfl hF ?_ ?_)))<;>intro hF
  ·refine X0 4 rfl ?_
   obtain rfl:=qa hF;replace hF:=hK1
   exact rb h hF rfl
  exact X0 7 rfl (rK ⟨_,hF,rfl,h⟩ rfl)
 refine qr rfl ?_
 obtain rfl:=qa hF;replace hF:=hK1
 exact X0 4 rfl (rb h hF rfl)
def qeK (a:(List qm)) (b:(List qm)):Nat→Int→Option (Flow Bool Int)
 | 0,_=>none
 | n+1,i1 =>
  bif decide (i1<(a.length:Int)) then
   (idx a i1).bind fun y1 =>
   (idx b i1).bind fun y2 =>
   (qhl n y1 y2).bind fun r1 =>
   bif (!r1) then some (.ret false) else
   qeK a b n (W64 (i1+1))
  else
   some (.nxt i1)
def qgo (n:Nat) (a:(List qm)) (b:(List qm)):Option Bool :=
 bif ((a.length:Int) != (b.length:Int)) then some false else
 (qeK a b n 0).bind fun o=>match o with
 | .ret r=>some r
 | .nxt _ =>
  some true
theorem qjA {a:(List qm)} {b:(List qm)} (ha1:GoT.R w (old w) a cs1) (ha2:GoT.R w (old w) b cs2) {r:Bool} (hF:qgo n a b=some r):RetV Tryz.prog 62 [GoT.v (List qm) cs1,GoT.v (List qm) cs2] w r:=by
 obtain ⟨p1,k1,rfl,s1⟩:=ha1
 obtain ⟨p2,k2,rfl,s2⟩:=ha2
 refine zV 27 Tryz.func62 rfl fun h=>X0 13 rfl (qh rfl hF ?_ ?_)<;>intro hF
 ·exact X0 4 rfl (rb h hF rfl)
 refine X0 6 rfl ?_
 obtain ⟨o1,hF,hK1⟩:=qf hF
 refine ql (rL (fun m e w'=>∃ (i1:Int),qeK a b m i1=some o1∧e=[(0,.slice p1 a.length k1),(1,.slice p2 b.length k2),(5,.int .i64 i1)]∧SH w w' []) n ⟨_,hF,rfl,h⟩ rfl ?_)
 rintro m1 e1 w1 ⟨i1,hF,rfl,h⟩
 rcases m1 with _|m1
 ·cases hF
 refine X0 8 rfl (qh rfl hF ?_ ?_)<;>intro hF
 ·refine X0 4 rfl (rD (zd2 rfl ?_))
  obtain ⟨y1,hy1,hF,he1,b1,_,q1,cs3,hp1,hq1,hr1,hc3⟩:=s1.ix hF
  obtain rfl:=qv hr1
  refine zdxe hp1 hq1 he1 rfl (zdc 0 (hc3.below h.below) rfl (zd2 rfl ?_))
  obtain ⟨y2,hy2,hF,he2,b2,_,q2,cs4,hp2,hq2,hr2,hc4⟩:=s2.ix hF
  obtain rfl:=qv hr2
  refine zdxe hp2 hq2 he2 rfl (zdc 0 (hc4.below h.below) rfl ?_)
  obtain ⟨r1,hr3,hF⟩:=qf hF
  refine qbF r1 (vsB _) (cB 139 rfl) (fun _ hb=>qmZ (qS y1) (qS y2) hr3) rfl rfl rfl rfl (zd1 rfl (dN h fun w2 h=>qh rfl hF ?_ ?_))<;>intro hF
  ·refine X0 4 rfl ?_
   obtain rfl:=qa hF;replace hF:=hK1
   exact rb h hF rfl
  exact X0 7 rfl (rK ⟨_,hF,rfl,h⟩ rfl)
 refine qr rfl ?_
 obtain rfl:=qa hF;replace hF:=hK1
 exact X0 4 rfl (rb h hF rfl)
end Go.Fw


namespace Go.Fw
open Go Go.Proofs
open Go.RowKit (Below)
set_option maxRecDepth 100000
set_option maxHeartbeats 1600000
variable {n:Nat} {w:World} {cs1 cs2 cs3 cs4 cs5 cs6 cs7 cs8 cs9:List Value}
def qgV (n:Nat) (a:qt) (b:qt):Option Bool :=
 (qhK n a.Aq b.Aq).bind fun r1 =>
 bif (!r1) then some false else
 (qgo n a.Ap b.Ap).bind fun r2 =>
 bif (!r2) then some false else
 (qgo n a.Az b.Az).bind fun r3 =>
 bif (!r3) then some false else
 some true
theorem ql5 {a:qt} {b:qt} (ha1:GoT.R w (old w) a cs1) (ha2:GoT.R w (old w) b cs2) {r:Bool} (hF:qgV n a b=some r):RetV Tryz.prog 17 [GoT.v qt cs1,GoT.v qt cs2] w r:=by
 obtain ⟨p1,k1,p2,k2,p3,k3,rfl,s1,s2,s3⟩:=qaf ha1
 obtain ⟨p4,k4,p5,k5,p6,k6,rfl,s4,s5,s6⟩:=qaf ha2
 refine zV 23 Tryz.func17 rfl fun h=>zSR (qu h rfl rfl fun w1 bb1 h=>qu h rfl rfl fun w2 bb2 h=>X2 9 1 0 h rfl (zcB h hF (qmt ⟨_,_,rfl,(h.oldS s1)⟩ ⟨_,_,rfl,(h.oldS s4)⟩) rfl fun r1 w3 h hF=>X0 2 rfl (qh rfl hF ?_ ?_)))<;>intro hF
 ·exact X0 4 rfl (rb h hF rfl)
 refine X2 8 1 0 h rfl (zcB h hF (qjA ⟨_,_,rfl,(h.oldS s2)⟩ ⟨_,_,rfl,(h.oldS s5)⟩) rfl fun r2 w4 h hF=>X0 2 rfl (qh rfl hF ?_ ?_))<;>intro hF
 ·exact X0 4 rfl (rb h hF rfl)
 refine X2 8 1 0 h rfl (zcB h hF (qjA ⟨_,_,rfl,(h.oldS s3)⟩ ⟨_,_,rfl,(h.oldS s6)⟩) rfl fun r3 w5 h hF=>X0 2 rfl (qh rfl hF ?_ ?_))<;>intro hF
 ·exact X0 4 rfl (rb h hF rfl)
 exact X0 5 rfl (rb h hF rfl)
def qgR (_:Nat) (a:(List qe)) (left:Int):Option Int :=
 bif decide ((W64 (left-(a.length:Int)))<0) then some (-1) else
 some (W64 (left-(a.length:Int)))
theorem qkE {a:(List qe)} {left:Int} (ha1:GoT.R w (old w) a cs1) {r:Int} (hF:qgR n a left=some r):RetV Tryz.prog 9 [GoT.v (List qe) cs1,.int .i64 left] w r:=by
 obtain ⟨p1,k1,rfl,s1⟩:=ha1
 refine zV 12 Tryz.func9 rfl fun h=>X0 18 rfl (qh rfl hF ?_ ?_)<;>intro hF
 ·exact X0 4 rfl (ri h hF rfl)
 exact X0 6 rfl (ri h hF rfl)
def qeE (_:Nat) (a:qe):Option qe :=
 some (⟨a.A,a.B,a.Bo⟩:qe)
theorem qkN {a:qe} (ha1:GoT.R w (old w) a cs1) {r:qe} (hF:qeE n a=some r):RetV Tryz.prog 54 [GoT.v qe cs1] w r:=by
 obtain rfl:=qQ ha1
 refine zV 14 Tryz.func54 rfl fun h=>zSR (qu h rfl rfl fun w1 bb1 h=>qx qb h rfl rfl rfl fun w2 bb2 h=>zNSR (qx qb h rfl rfl rfl fun w3 bb3 h=>X1 6 2 h rfl (zs 0 h rfl fun w4 h=>X1 6 2 h rfl (zs 0 h rfl fun w5 h=>X1 6 2 h rfl (zs 0 h rfl fun w6 h=>X1 4 0 h rfl (zs 1 h rfl fun w7 h=>qdj ?_))))))
 obtain rfl:=qa hF
 exact qaE qb (ρ:=qe) [GoT.v qe (qhs a)] h ⟨⟨_,_,_,rfl,rfl,h.box 1 rfl,rfl⟩,trivial⟩ (PV.done h (qa1 (qK (S:=fun _=>False) (qbe (⟨a.A,a.B,a.Bo⟩:qe)))))
def qcF (a:(List qe)):Nat→(List qe)→Int→Option ((List qe) × Int)
 | 0,_,_=>none
 | n+1,x2,i1 =>
  bif decide (i1<(a.length:Int)) then
   (idx a i1).bind fun y1 =>
   (qeE n y1).bind fun r1 =>
   (idx x2 i1).bind fun _ =>
   qcF a n (setS x2 i1 r1) (W64 (i1+1))
  else
   some (x2,i1)
def qb8 (n:Nat) (a:(List qe)):Option (List qe) :=
 (mkS (a.length:Int) ((⟨0,0,0⟩:qe):qe)).bind fun x1 =>
 (qcF a n x1 0).bind fun o=>match o with
 | (x2,_) =>
  some x2
theorem qdT {a:(List qe)} (ha1:GoT.R w (old w) a cs1) {r:(List qe)} (hF:qb8 n a=some r):RetV Tryz.prog 13 [GoT.v (List qe) cs1] w r:=by
 obtain ⟨p1,k1,rfl,s1⟩:=ha1
 refine zV 23 Tryz.func13 rfl fun h=>X0 8 rfl ?_
 obtain ⟨x1,hx1,hF⟩:=qf hF
 obtain ⟨g1,g2,hx1⟩:=qbM hx1
 refine qcT qb qe h rfl rfl rfl rfl rfl rfl rfl rfl rfl g1 g2 hx1 rfl fun w1 S1 p2 h=>X0 7 rfl ?_
 obtain ⟨o1,hF,hK1⟩:=qf hF
 refine ql (rL (fun m e w'=>∃ (x2:(List qe)) (i1:Int),qcF a m x2 i1=some o1∧e=[(0,.slice p1 a.length k1),(3,.slice p2 x1.length x1.length),(4,.int .i64 i1)]∧SH w w' [Ch.own S1 (x2:List qe) [.slice p2 x1.length x1.length]]) n ⟨_,_,hF,rfl,h⟩ rfl ?_)
 rintro m1 e1 w2 ⟨x2,i1,hF,rfl,h⟩
 rcases m1 with _|m1
 ·cases hF
 refine X0 8 rfl (qh rfl hF ?_ ?_)<;>intro hF
 ·refine X0 8 rfl ?_
  obtain ⟨y1,hy1,hF,he1,b1,_,q1,cs2,hp1,hq1,hr1,hc2⟩:=s1.ix hF
  obtain rfl:=qQ hr1
  refine zxe hp1 hq1 he1 rfl (zc 0 (hc2.below h.below) rfl (zcO h hF (qkN (qbe y1)) rfl fun r1 w3 S2 cs3 h hF=>?_))
  obtain rfl:=qQ (h.own 0 rfl)
  obtain ⟨y2,hy2,hF,he2,b2,_,q2,cs4,hp2,hq2,hr3,hc3⟩:=(h.sl 1 rfl).1.ix hF
  obtain rfl:=qQ hr3
  refine zx hp2 hq2 ⟨he2.1,qJ he2.2.1 (h.sl 1 rfl).2⟩ rfl (qaS qb 1 0 r1 h rfl hy2 hp2 hq2 (qbe y2) hc3 rfl rfl rfl (qbe r1) rfl rfl rfl fun w4 h=>X0 7 rfl ?_)
  replace h:=h.pick [1] rfl
  exact rK ⟨_,_,hF,rfl,h⟩ rfl
 refine qr rfl ?_
 obtain rfl:=qa hF;replace hF:=hK1
 refine X0 5 rfl ?_
 obtain rfl:=qa hF
 exact rO 0 h rfl ⟨rfl,trivial⟩
def qeP (_:Nat) (a:qe) (b:qe):Option Bool :=
 bif (a.A != b.A) then some false else
 bif (a.B != b.B) then some false else
 bif (a.Bo != b.Bo) then some false else
 some true
theorem qkL {a:qe} {b:qe} (ha1:GoT.R w (old w) a cs1) (ha2:GoT.R w (old w) b cs2) {r:Bool} (hF:qeP n a b=some r):RetV Tryz.prog 63 [GoT.v qe cs1,GoT.v qe cs2] w r:=by
 obtain rfl:=qQ ha1
 obtain rfl:=qQ ha2
 refine zV 20 Tryz.func63 rfl fun h=>zSR (qu h rfl rfl fun w1 bb1 h=>qu h rfl rfl fun w2 bb2 h=>X2 11 1 0 h rfl (qh rfl hF ?_ ?_))<;>intro hF
 ·exact X0 4 rfl (rb h hF rfl)
 refine X2 10 1 0 h rfl (qh rfl hF ?_ ?_)<;>intro hF
 ·exact X0 4 rfl (rb h hF rfl)
 refine X2 10 1 0 h rfl (qh rfl hF ?_ ?_)<;>intro hF
 ·exact X0 4 rfl (rb h hF rfl)
 exact X0 5 rfl (rb h hF rfl)
def qcH (a:(List qe)) (b:(List qe)):Nat→Int→Option (Flow Bool Int)
 | 0,_=>none
 | n+1,i1 =>
  bif decide (i1<(a.length:Int)) then
   (idx a i1).bind fun y1 =>
   (idx b i1).bind fun y2 =>
   (qeP n y1 y2).bind fun r1 =>
   bif (!r1) then some (.ret false) else
   qcH a b n (W64 (i1+1))
  else
   some (.nxt i1)
def qfs (n:Nat) (a:(List qe)) (b:(List qe)):Option Bool :=
 bif ((a.length:Int) != (b.length:Int)) then some false else
 (qcH a b n 0).bind fun o=>match o with
 | .ret r=>some r
 | .nxt _ =>
  some true
theorem qkw {a:(List qe)} {b:(List qe)} (ha1:GoT.R w (old w) a cs1) (ha2:GoT.R w (old w) b cs2) {r:Bool} (hF:qfs n a b=some r):RetV Tryz.prog 18 [GoT.v (List qe) cs1,GoT.v (List qe) cs2] w r:=by
 obtain ⟨p1,k1,rfl,s1⟩:=ha1
 obtain ⟨p2,k2,rfl,s2⟩:=ha2
 refine zV 27 Tryz.func18 rfl fun h=>X0 13 rfl (qh rfl hF ?_ ?_)<;>intro hF
 ·exact X0 4 rfl (rb h hF rfl)
 refine X0 6 rfl ?_
 obtain ⟨o1,hF,hK1⟩:=qf hF
 refine ql (rL (fun m e w'=>∃ (i1:Int),qcH a b m i1=some o1∧e=[(0,.slice p1 a.length k1),(1,.slice p2 b.length k2),(5,.int .i64 i1)]∧SH w w' []) n ⟨_,hF,rfl,h⟩ rfl ?_)
 rintro m1 e1 w1 ⟨i1,hF,rfl,h⟩
 rcases m1 with _|m1
 ·cases hF
 refine X0 8 rfl (qh rfl hF ?_ ?_)<;>intro hF
 ·refine X0 4 rfl (rD (zd2 rfl ?_))
  obtain ⟨y1,hy1,hF,he1,b1,_,q1,cs3,hp1,hq1,hr1,hc3⟩:=s1.ix hF
  obtain rfl:=qQ hr1
  refine zdxe hp1 hq1 he1 rfl (zdc 0 (hc3.below h.below) rfl (zd2 rfl ?_))
  obtain ⟨y2,hy2,hF,he2,b2,_,q2,cs4,hp2,hq2,hr2,hc4⟩:=s2.ix hF
  obtain rfl:=qQ hr2
  refine zdxe hp2 hq2 he2 rfl (zdc 0 (hc4.below h.below) rfl ?_)
  obtain ⟨r1,hr3,hF⟩:=qf hF
  refine qbF r1 (vsB _) (cB 63 rfl) (fun _ hb=>qkL (qbe y1) (qbe y2) hr3) rfl rfl rfl rfl (zd1 rfl (dN h fun w2 h=>qh rfl hF ?_ ?_))<;>intro hF
  ·refine X0 4 rfl ?_
   obtain rfl:=qa hF;replace hF:=hK1
   exact rb h hF rfl
  exact X0 7 rfl (rK ⟨_,hF,rfl,h⟩ rfl)
 refine qr rfl ?_
 obtain rfl:=qa hF;replace hF:=hK1
 exact X0 4 rfl (rb h hF rfl)
def qbu (a:(List Int)):Nat→(List Int)→Int→Int→Option ((List Int) × Int × Int)
 | 0,_,_,_=>none
 | n+1,x1,i1,i2 =>
  bif decide (i2<(a.length:Int)) then
   (idx x1 i2).bind fun _ =>
   qbu a n (setS x1 i2 i1) (W64 (i1+1)) (W64 (i2+1))
  else
   some (x1,i1,i2)
def qah (n:Nat) (a:(List Int)) (k:Int):Option (Int × (List Int)) :=
 (qbu a n a k 0).bind fun o=>match o with
 | (x1,i1,_) =>
  some (i1,x1)
theorem qan {n:Nat} {w0 w:World} {F:List Ch} {a:(List Int)} {k:Int} {S1:Nat→Prop} {p1:Option Addr} {ln1 k1:Nat} (h:SH w0 w (Ch.own S1 (a:List Int) [.slice p1 ln1 k1]::F)) {r:(Int × (List Int))} (hF:qah n a k=some r):RetN Tryz.prog 22 [.slice p1 ln1 k1,.int .i64 k] w (fun w'=>∃ Z0:Nat→Prop,SH w0 w' (Ch.own Z0 (r.2:List Int) [.slice p1 ln1 k1]::F)) r.1:=by
 refine qa4 Tryz.func22 rfl (m:=19) rfl rfl ?_
 obtain rfl:=(h.sl 0 rfl).2
 refine X0 9 rfl ?_
 obtain ⟨o1,hF,hK1⟩:=qf hF
 refine ql (rL (fun m e w'=>∃ (x1:(List Int)) (i1:Int) (i2:Int),qbu a m x1 i1 i2=some o1∧e=[(0,.slice p1 a.length k1),(1,.int .i64 i1),(5,.int .i64 i2)]∧SH w0 w' (Ch.own S1 (x1:List Int) [.slice p1 a.length k1]::F)) n ⟨_,_,_,hF,rfl,h⟩ rfl ?_)
 rintro m1 e1 w1 ⟨x1,i1,i2,hF,rfl,h⟩
 rcases m1 with _|m1
 ·cases hF
 refine X0 8 rfl (qh rfl hF ?_ ?_)<;>intro hF
 ·refine X0 8 rfl ?_
  obtain ⟨y1,hy1,hF,he1,b1,_,q1,cs1,hp1,hq1,rfl,hc2⟩:=(h.sl 0 rfl).1.ix hF
  exact zx hp1 hq1 ⟨he1.1,qJ he1.2.1 (h.sl 0 rfl).2⟩ rfl (qaS qb 0 0 i1 h rfl hy1 hp1 hq1 rfl hc2 rfl rfl rfl rfl rfl rfl rfl fun w2 h=>X0 12 rfl (rK ⟨_,_,_,hF,rfl,h⟩ rfl))
 refine qr rfl ?_
 obtain rfl:=qa hF;replace hF:=hK1
 refine X0 5 rfl ?_
 obtain rfl:=qa hF
 exact qfC qb ⟨_,h⟩ ⟨rfl,trivial⟩
def qbt (a:(List Int)):Nat→Int→Int→Option (Flow Int (Int × Int))
 | 0,_,_=>none
 | n+1,i1,i2 =>
  bif decide (i2<(a.length:Int)) then
   (idx a i2).bind fun y1 =>
   bif (y1 != i1) then some (.ret (-1)) else
   qbt a n (W64 (i1+1)) (W64 (i2+1))
  else
   some (.nxt (i1,i2))
def qeJ (n:Nat) (a:(List Int)) (k:Int):Option Int :=
 (qbt a n k 0).bind fun o=>match o with
 | .ret r=>some r
 | .nxt (i1,_) =>
  some i1
theorem qic {a:(List Int)} {k:Int} (ha1:GoT.R w (old w) a cs1) {r:Int} (hF:qeJ n a k=some r):RetV Tryz.prog 23 [GoT.v (List Int) cs1,.int .i64 k] w r:=by
 obtain ⟨p1,k1,rfl,s1⟩:=ha1
 refine zV 21 Tryz.func23 rfl fun h=>X0 9 rfl ?_
 obtain ⟨o1,hF,hK1⟩:=qf hF
 refine ql (rL (fun m e w'=>∃ (i1:Int) (i2:Int),qbt a m i1 i2=some o1∧e=[(0,.slice p1 a.length k1),(1,.int .i64 i1),(5,.int .i64 i2)]∧SH w w' []) n ⟨_,_,hF,rfl,h⟩ rfl ?_)
 rintro m1 e1 w1 ⟨i1,i2,hF,rfl,h⟩
 rcases m1 with _|m1
 ·cases hF
 refine X0 8 rfl (qh rfl hF ?_ ?_)<;>intro hF
 ·refine X0 8 rfl ?_
  obtain ⟨y1,hy1,hF,he1,b1,_,q1,cs2,hp1,hq1,rfl,hc2⟩:=s1.ix hF
  refine zxe hp1 hq1 he1 rfl (zc 0 (hc2.below h.below) rfl (X0 3 rfl (qh rfl hF ?_ ?_)))<;>intro hF
  ·refine X0 4 rfl ?_
   obtain rfl:=qa hF;replace hF:=hK1
   exact ri h hF rfl
  exact X0 12 rfl (rK ⟨_,_,hF,rfl,h⟩ rfl)
 refine qr rfl ?_
 obtain rfl:=qa hF;replace hF:=hK1
 exact X0 5 rfl (ri h hF rfl)
end Go.Fw


namespace Go.Fw
open Go
def qfk (a:(List Bool)):Nat:=a.length
theorem qqp {a:(List Bool)} (_:(rngL rngB) a) (w:qfk a≤1048576):(okL okT) a :=
 ⟨by simp only [qfk] at w;omega,fun x hx=>trivial⟩
theorem qsY {a:(List Bool)} (h:qfk a≤1048576):Ev (fun n=>qhK n a a) true:=by
 have hl:a.length≤1048576:=by simp only [qfk] at h;omega
 unfold qhK
 exact Ev.ff (by simp) (Ev.bind (b:=.nxt (a.length:Int)) (qfS (eqf:=fun _ x y=>some (!(!(x==y)))) (fun x _=>Ev.now (by simp))
  (fun n=>by simp only [qeC,qj (je _),cond_false])
  (fun n j x hx=>by
   have hj:=(List.getElem?_eq_some_iff.1 hx).1
   simp only [qeC,qi hj,cond_true,qz hx,jd,Bool.not_not,wS j])) .done)
def qfy (x:qe):Prop:=rngI x.A∧rngI x.B∧rngI x.Bo
structure qmf (x:qe):Prop where
 A:okI x.A
 B:okI x.B
 Bo:okI x.Bo
theorem qnV {x:qe} (h:qfy x):qmf x:=⟨h.1,h.2.1,h.2.2⟩
theorem qp8 {a:qe}:Ev (fun n=>qeP n a a) true:=by
 unfold qeP
 exact Ev.ff qax (Ev.ff qax (Ev.ff qax (.done)))
def qbx (a:(List qe)):Nat:=a.length
theorem qnd {a:(List qe)} (h:(rngL qfy) a) (w:qbx a≤1048576):(okL qmf) a :=
 ⟨by simp only [qbx] at w;omega,fun x hx=>qnV (h.2 x hx)⟩
theorem qoX {a:(List qe)} (h:qbx a≤1048576):Ev (fun n=>qfs n a a) true:=by
 have hl:a.length≤1048576:=by simp only [qbx] at h;omega
 unfold qfs
 exact Ev.ff (by simp) (Ev.bind (b:=.nxt (a.length:Int)) (qfS (eqf:=qeP) (fun x hx=>qp8)
  (fun n=>by simp only [qcH,qj (je _),cond_false])
  (fun n j x hx=>by
   have hj:=(List.getElem?_eq_some_iff.1 hx).1
   simp only [qcH,qi hj,cond_true,qz hx,jd,wS j])) .done)
structure qr3 (x:ql6):Prop where
 Cc:okI x.Cc
 Ca:okI x.Ca
structure qpg (x:qgU):Prop where
 Bd:okI x.Bd
 To:okI x.To
 Bb:okI x.Bb
 Cb:okI x.Cb
structure qso (x:qlx):Prop where
 Bz:(okL qr3) x.Bz
 Cd:(okL qpg) x.Cd
def qiq (x:qm):Prop:=rngI x.As∧rngI x.Ba
structure qkm (x:qm):Prop where
 As:okI x.As
 Ba:okI x.Ba
theorem qrh {x:qm} (h:qiq x):qkm x:=⟨h.1,h.2⟩
structure quz (x:qcl):Prop where
 Bw:okI x.Bw
 Ap:qkm x.Ap
 Az:qkm x.Az
theorem qtE {a:qm}:Ev (fun n=>qhl n a a) true:=by
 unfold qhl
 exact Ev.ff qax (Ev.ff qax (.done))
def qe1 (a:(List qm)):Nat:=a.length
theorem qm6 {a:(List qm)} (h:(rngL qiq) a) (w:qe1 a≤1048576):(okL qkm) a :=
 ⟨by simp only [qe1] at w;omega,fun x hx=>qrh (h.2 x hx)⟩
theorem qqa {a:(List qm)} (h:qe1 a≤1048576):Ev (fun n=>qgo n a a) true:=by
 have hl:a.length≤1048576:=by simp only [qe1] at h;omega
 unfold qgo
 exact Ev.ff (by simp) (Ev.bind (b:=.nxt (a.length:Int)) (qfS (eqf:=qhl) (fun x hx=>qtE)
  (fun n=>by simp only [qeK,qj (je _),cond_false])
  (fun n j x hx=>by
   have hj:=(List.getElem?_eq_some_iff.1 hx).1
   simp only [qeK,qi hj,cond_true,qz hx,jd,wS j])) .done)
def qjr (x:qt):Prop:=(rngL rngB) x.Aq∧(rngL qiq) x.Ap∧(rngL qiq) x.Az
def qdh (x:qt):Nat:=qfk x.Aq+qe1 x.Ap+qe1 x.Az
structure qrl (x:qt):Prop where
 Aq:(okL okT) x.Aq
 Ap:(okL qkm) x.Ap
 Az:(okL qkm) x.Az
theorem qpw {x:qt} (h:qjr x) (w:qdh x≤1048576):qrl x:=⟨qqp (h.1) (by simp only [qdh] at w;omega),qm6 (h.2.1) (by simp only [qdh] at w;omega),qm6 (h.2.2) (by simp only [qdh] at w;omega)⟩
theorem qrN {a:qt} (h:qdh a≤1048576):Ev (fun n=>qgV n a a) true:=by
 unfold qgV
 simp only [qdh] at h
 exact Ev.bind (qsY (a:=a.Aq) (by omega)) (Ev.ff rfl (Ev.bind (qqa (a:=a.Ap) (by omega)) (Ev.ff rfl (Ev.bind (qqa (a:=a.Az) (by omega)) (Ev.ff rfl (.done))))))
theorem qsf {a:(List Bool)} {left:Int} (h:(rngL rngB) a) (h0:0≤left) (h1:left≤1048576):Sz (fun n=>qju n a left) (fun r=>r=left-(qfk a:Int)) :=
 Sz.less h0 h1 (by omega) (by have:=h.1;omega) (fun _=>rfl)
structure quy (x:qhL):Prop where
 Ar:okS x.Ar
 Bs:okI x.Bs
 Bv:okI x.Bv
 Br:okI x.Br
 Bu:okI x.Bu
theorem qoS {a:(List qe)} {left:Int} (h:(rngL qfy) a) (h0:0≤left) (h1:left≤1048576):Sz (fun n=>qgR n a left) (fun r=>r=left-(qbx a:Int)) :=
 Sz.less h0 h1 (by omega) (by have:=h.1;omega) (fun _=>rfl)
theorem qp4 {a:(List qm)} {left:Int} (h:(rngL qiq) a) (h0:0≤left) (h1:left≤1048576):Sz (fun n=>qhH n a left) (fun r=>r=left-(qe1 a:Int)) :=
 Sz.less h0 h1 (by omega) (by have:=h.1;omega) (fun _=>rfl)
theorem qrW {a:qt} {left:Int} (h:qjr a) (h0:0≤left) (h1:left≤1048576):Sz (fun n=>qg1 n a left) (fun r=>r=left-(qdh a:Int)):=by
 unfold qg1
 obtain ⟨h_0,h_1,h_2⟩:=h
 exact Sz.step (qsf (a:=a.Aq) h_0 (by omega) (by omega)) fun r0 p0 q0=>Sz.step (qp4 (a:=a.Ap) h_1 (by omega) (by omega)) fun r1 p1 q1=>Sz.step (qp4 (a:=a.Az) h_2 (by omega) (by omega)) fun r2 p2 q2=>Sz.done p2 (by simp only [qdh];omega)
theorem qsQ {a:(List Bool)} (h:qfk a≤1048576):Ev (fun n=>qhZ n a) a:=by
 have hl:a.length≤1048576:=by simp only [qfk] at h;omega
 unfold qhZ
 exact Ev.bindN (qfm (by omega)) (Ev.bind (b:=(a,(a.length:Int))) (qfP (cp:=fun _ x=>some x) (fun _ _=>.done)
  (fun acc n=>by simp only [qeN,qj (je _),cond_false])
  (fun acc n j x y hx hy=>by
   have hj:=(List.getElem?_eq_some_iff.1 hx).1
   simp only [qeN,qi hj,cond_true,qz hx,qz hy,jd,wS j])) .done)
theorem qpt {a:qe}:Ev (fun n=>qeE n a) a:=by
 unfold qeE
 exact .done
theorem qhO {a:(List qe)} (h:qbx a≤1048576):Ev (fun n=>qb8 n a) a:=by
 have hl:a.length≤1048576:=by simp only [qbx] at h;omega
 unfold qb8
 exact Ev.bindN (qfm (by omega)) (Ev.bind (b:=(a,(a.length:Int))) (qfP (cp:=qeE) (fun x hx=>qpt)
  (fun acc n=>by simp only [qcF,qj (je _),cond_false])
  (fun acc n j x y hx hy=>by
   have hj:=(List.getElem?_eq_some_iff.1 hx).1
   simp only [qcF,qi hj,cond_true,qz hx,qz hy,jd,wS j])) .done)
theorem qtd {a:qm}:Ev (fun n=>qhb n a) a:=by
 unfold qhb
 exact .done
theorem qpy {a:(List qm)} (h:qe1 a≤1048576):Ev (fun n=>qgz n a) a:=by
 have hl:a.length≤1048576:=by simp only [qe1] at h;omega
 unfold qgz
 exact Ev.bindN (qfm (by omega)) (Ev.bind (b:=(a,(a.length:Int))) (qfP (cp:=qhb) (fun x hx=>qtd)
  (fun acc n=>by simp only [qeA,qj (je _),cond_false])
  (fun acc n j x y hx hy=>by
   have hj:=(List.getElem?_eq_some_iff.1 hx).1
   simp only [qeA,qi hj,cond_true,qz hx,qz hy,jd,wS j])) .done)
theorem qkn {a:qt} (h:qdh a≤1048576):Ev (fun n=>qdR n a) a:=by
 unfold qdR
 simp only [qdh] at h
 exact Ev.bind (qsQ (a:=a.Aq) (by omega)) (Ev.bind (qpy (a:=a.Ap) (by omega)) (Ev.bind (qpy (a:=a.Az) (by omega)) (.done)))
end Go.Fw


namespace Go.Fw
open Go
set_option maxRecDepth 100000
abbrev lkB (b:qk):Nat:=(linksL b).length
abbrev ndB (b:qk):Nat:=2*(places b.Ab).length
abbrev lvJ (b:qk) (br:List Int):List Bool:=lvB br (lkB b)
structure TgOk (b:qk) (c:qhL) (br:List Int) (xs:List qcl) (R:List Nat):Prop where
 bl:blockB b=true
 co:cornerB c=true
 br_:brB br (lkB b)=true
 sr:srcB xs (ndB b)=true
 or_:ordL (linksL b) (lvJ b br) (ndB b) (ndB b) []=some R
theorem TgOk.len {b:qk} {c:qhL} {br:List Int} {xs:List qcl} {R:List Nat} (h:TgOk b c br xs R):R.length=ndB b:=by
 have:=qsS (ndB b) [] R h.or_
 simpa using this
end Go.Fw


namespace Go.Fw
open Go
set_option maxRecDepth 100000
def zeroS (s:qm):Bool:=(s.As==0)&&(s.Ba==0)
def tmP (t:qt) (j:Nat):Bool:=spanB (gt t.Ap j)&&(slewB (gt t.Az j)&&(gt t.Aq j || (zeroS (gt t.Ap j)&&zeroS (gt t.Az j))))
def tmB (t:qt) (M:Nat):Bool:=(t.Aq.length==M)&&((t.Ap.length==M)&&((t.Az.length==M)&&allN (tmP t) M))
theorem qsK {t:qt} {M:Nat} (h:tmB t M=true):t.Aq.length=M∧t.Ap.length=M∧t.Az.length=M:=by
 unfold tmB at h
 simp only [jf,beq_iff_eq] at h
 exact ⟨h.1,h.2.1,h.2.2.1⟩
theorem qsI {a M:Nat}:(((a:Int)) != (M:Int)) = !(a==M):=by
 rw [jh]
 simp only [bne_iff_ne,ne_eq,ju,beq_eq_false_iff_ne]
 omega
theorem qpG {v:Tview} {t:qt} (hv:v.places.length≤78):Ev (fun n=>qeu n (some v) t) (tmB t (2*v.places.length)):=by
 obtain ⟨M,eM⟩:∃ M,M=2*v.places.length:=⟨_,rfl⟩
 have hnd:=qr4 (v:=v) hv
 rw [←eM] at hnd ⊢
 unfold qeu tmB
 simp only [hnd,jd,qgI,qdl,qsI]
 cases h1:t.Aq.length==M
 ·exact Ev.bind (b:=true) (Ev.now rfl) (Ev.tt rfl .done)
 cases h2:t.Ap.length==M
 ·exact Ev.bind (b:=true) (Ev.now rfl) (Ev.tt rfl .done)
 cases h3:t.Az.length==M
 ·exact Ev.bind (b:=true) (Ev.now rfl) (Ev.tt rfl .done)
 simp only [beq_iff_eq] at h1 h2 h3
 have hL:Ev (fun n=>qaH t n 0) (bif allN (tmP t) M then .nxt (M:Int) else .ret false):=by
  refine qde (Lf:=qaH t) (len:=M) (Ev.succ (by simp only [qaH,h1,qj (je _),cond_false];exact .done)) (fun j hj X hX=>Ev.succ ?_)
  simp only [qaH,h1,qi hj,cond_true,qN (show j<t.Aq.length by omega),qN (show j<t.Ap.length by omega),qN (show j<t.Az.length by omega),jd,qoA,qpD,wS j]
  unfold tmP zeroS
  cases spanB (gt t.Ap j)
  ·exact .done
  cases slewB (gt t.Az j)
  ·exact .done
  cases gt t.Aq j
  ·cases h4:((gt t.Ap j).As==0)&&((gt t.Ap j).Ba==0)
   ·exact .done
   cases h5:((gt t.Az j).As==0)&&((gt t.Az j).Ba==0)
   ·exact .done
   ·exact hX
  ·exact hX
 refine Ev.bind (b:=false) (Ev.now rfl) (Ev.ff rfl (Ev.bind hL ?_))
 cases allN (tmP t) M<;>exact .done
theorem qo5 {t:qt} {M:Nat} (hM:M≤1048576):Ev (fun n=>qgF n (M:Int) t) (tmB t M):=by
 unfold qgF tmB
 simp only [qsI]
 cases h1:t.Aq.length==M
 ·exact Ev.bind (b:=true) (Ev.now rfl) (Ev.tt rfl .done)
 cases h2:t.Ap.length==M
 ·exact Ev.bind (b:=true) (Ev.now rfl) (Ev.tt rfl .done)
 cases h3:t.Az.length==M
 ·exact Ev.bind (b:=true) (Ev.now rfl) (Ev.tt rfl .done)
 simp only [beq_iff_eq] at h1 h2 h3
 have hL:Ev (fun n=>qbn t n 0) (bif allN (tmP t) M then .nxt (M:Int) else .ret false):=by
  refine qde (Lf:=qbn t) (len:=M) (Ev.succ (by simp only [qbn,h1,qj (je _),cond_false];exact .done)) (fun j hj X hX=>Ev.succ ?_)
  simp only [qbn,h1,qi hj,cond_true,qN (show j<t.Aq.length by omega),qN (show j<t.Ap.length by omega),qN (show j<t.Az.length by omega),jd,qqv,qpk,wS j]
  unfold tmP zeroS
  cases spanB (gt t.Ap j)
  ·exact .done
  cases slewB (gt t.Az j)
  ·exact .done
  cases gt t.Aq j
  ·cases h4:((gt t.Ap j).As==0)&&((gt t.Ap j).Ba==0)
   ·exact .done
   cases h5:((gt t.Az j).As==0)&&((gt t.Az j).Ba==0)
   ·exact .done
   ·exact hX
  ·exact hX
 refine Ev.bind (b:=false) (Ev.now rfl) (Ev.ff rfl (Ev.bind hL ?_))
 cases allN (tmP t) M<;>exact .done
theorem qss {b:qk} {t:qt} (hb:qjN b) :
  (Ev (fun n=>qfb n b t) 1∧Ev (fun n=>qe5 n b t) (none,1)) ∨
  (blockB b=true∧tmB t (ndB b)=true∧Ev (fun n=>qfb n b t) 0∧Ev (fun n=>qe5 n b t) (some (viewV b),0)):=by
 have s1:=qpq hb
 have i1:=qqt hb
 unfold qfb qe5
 cases h1:blockB b
 ·rw [h1] at s1 i1
  exact .inl ⟨Ev.bind s1 (Ev.tt rfl .done),Ev.bind i1 (Ev.tt rfl .done)⟩
 ·rw [h1] at s1 i1
  have hpl:=qdQ (qbs (qcC h1))
  have hT:=qpG (v:=viewV b) (t:=t) hpl
  have hS:=qo5 (t:=t) (M:=ndB b) (by show 2*(places b.Ab).length≤_;omega)
  have eT:2*(viewV b).places.length=ndB b:=rfl
  rw [eT] at hT
  have hcn:=qp9 h1
  cases h2:tmB t (ndB b)
  ·rw [h2] at hT hS
   exact .inl ⟨Ev.bind s1 (Ev.ff rfl (Ev.bind hcn (Ev.bind hS (Ev.tt rfl .done)))),Ev.bind i1 (Ev.ff rfl (Ev.bind (qnv h1) (Ev.bind hT (Ev.tt rfl .done))))⟩
  ·rw [h2] at hT hS
   exact .inr ⟨rfl,rfl,Ev.bind s1 (Ev.ff rfl (Ev.bind hcn (Ev.bind hS (Ev.ff rfl .done)))),Ev.bind i1 (Ev.ff rfl (Ev.bind (qnv h1) (Ev.bind hT (Ev.ff rfl .done))))⟩
def TmL (t:qt) (M:Nat):Prop:=t.Aq.length=M∧t.Ap.length=M
theorem qt2 {t:qt} {M:Nat} (h:tmB t M=true):TmL t M:=⟨(qsK h).1,(qsK h).2.1⟩
def winO (t:qt) (m:Nat):qm × Bool :=
 bif gt t.Aq m then bif gt t.Aq (m+1) then (hullS (gt t.Ap m) (gt t.Ap (m+1)),true) else (gt t.Ap m,true) else bif gt t.Aq (m+1) then (gt t.Ap (m+1),true) else (zSp,false)
def winB (b:qk) (t:qt) (net:Int):qm × Bool:=winO t (2*dvN b.Ab net.toNat)
section
variable {b:qk} {t:qt} {net:Int}
theorem qsE (h:blockB b=true) (hn:netB b.Ab net=true):∃ k:Nat,net=(k:Int)∧k<b.Ab.Ah.length∧dvN b.Ab k<(places b.Ab).length∧(places b.Ab).length≤78∧(gt (places b.Ab) (dvN b.Ab k)).net=net∧(gt (places b.Ab) (dvN b.Ab k)).drives=true:=by
 unfold netB at hn
 rw [qbG] at hn
 have hk:net.toNat<b.Ab.Ah.length:=by omega
 obtain ⟨h1,h2⟩:=qi0 (qcC h) hk
 obtain ⟨h3,h4⟩:=qlw.1 h2
 exact ⟨net.toNat,qj4 hn.1,hk,h1,qdQ (qbs (qcC h)),by rw [h3];exact (qj4 hn.1).symm,h4⟩
theorem qm4 (h:blockB b=true) (ht:TmL t (ndB b)) (hn:netB b.Ab net=true):Ev (fun n=>qfd n b t net) (winB b t net):=by
 obtain ⟨k,rfl,hk,h1,hpl,h3,h4⟩:=qsE h hn
 obtain ⟨t1,t2⟩:=ht
 have eM:ndB b=2*(places b.Ab).length:=rfl
 unfold qfd winB
 rw [jy]
 refine Ev.bind (qo0 h h1 h3 h4) ?_
 generalize dvN b.Ab k=m at h1
 have e1:W64 (2*(m:Int))=((2*m:Nat):Int):=by rw [qZ (by omega) (by omega)];omega
 have e2:W64 (((2*m:Nat):Int)+1)=((2*m+1:Nat):Int):=by rw [qZ (by omega) (by omega)];omega
 simp only [e1,e2,qN (show 2*m<t.Aq.length by omega),qN (show 2*m+1<t.Aq.length by omega),qN (show 2*m<t.Ap.length by omega),qN (show 2*m+1<t.Ap.length by omega),jd]
 unfold winO
 cases gt t.Aq (2*m)<;>cases gt t.Aq (2*m+1)<;>exact .done
theorem qrq {m:Nat} (h1:m+1<t.Aq.length) (h2:m+1<t.Ap.length):Ev (fun n=>qiC n t [(m:Int),((m+1:Nat):Int)]) (winO t m):=by
 have d:decide ((0:Int)<(([(m:Int),((m+1:Nat):Int)]:List Int).length:Int))=true:=rfl
 have d2:decide ((1:Int)<(([(m:Int),((m+1:Nat):Int)]:List Int).length:Int))=true:=rfl
 have d3:decide ((2:Int)<(([(m:Int),((m+1:Nat):Int)]:List Int).length:Int))=false:=rfl
 have x1:idx [(m:Int),((m+1:Nat):Int)] 0=some (m:Int):=rfl
 have x2:idx [(m:Int),((m+1:Nat):Int)] 1=some ((m+1:Nat):Int):=rfl
 have w1:W64 (0+1)=1:=rfl
 have w2:W64 (1+1)=2:=rfl
 unfold qiC winO
 cases r1:gt t.Aq m<;>cases r2:gt t.Aq (m+1)<;>refine ⟨3,fun n hn=>?_⟩<;>obtain ⟨n,rfl⟩:∃ k,n=k+3:=⟨n-3,by omega⟩ <;>
  simp only [qfe,d,d2,d3,x1,x2,w1,w2,cond_true,cond_false,jd,qN (show m<t.Aq.length by omega),qN h1,qN (show m<t.Ap.length by omega),qN h2,r1,r2,qgJ,qgk,Bool.not_true,Bool.not_false]<;>rfl
theorem qoB (ex:List Int) (h:blockB b=true) (ht:TmL t (ndB b)) (hn:netB b.Ab net=true):Ev (fun n=>qd3 n (some (viewE b ex)) t net) (winB b t net):=by
 obtain ⟨k,rfl,hk,h1,hpl,h3,h4⟩:=qsE h hn
 obtain ⟨t1,t2⟩:=ht
 have eM:ndB b=2*(places b.Ab).length:=rfl
 have e:ixL (fun q:Tplace=>(q.net==(k:Int))&&q.drives) (places b.Ab)=(dvN b.Ab k:Int):=by
  refine qsz h1 (by rw [h3,h4];simp) (fun i hi hq=>?_)
  simp only [jf,beq_iff_eq] at hq
  exact (qpL (qcC h) hk hi hq.1 hq.2).symm
 have hI:Ev (fun n=>qP n (places b.Ab) (k:Int)) (dvN b.Ab k:Int):=by
  rw [←e]
  exact qfF (fin:=((places b.Ab).length:Int)) (Lf:=qA (places b.Ab) (k:Int)) (xs:=places b.Ab) (pf:=fun n x=>qev n x (k:Int)) (fun x _=>by
    unfold qev
    cases x.net==(k:Int)<;>exact .done)
   (fun n=>by simp only [qA,qj (je _),cond_false])
   (fun n j x hx=>by
    have hj:=(List.getElem?_eq_some_iff.1 hx).1
    simp only [qA,qi hj,cond_true,qz hx,jd,wS j])
   (fun n=>by unfold qP;congr 1;funext o;cases o<;>rfl)
 unfold qd3 winB
 rw [jy]
 show Ev (fun n=>(qP n (places b.Ab) (k:Int)).bind _) _
 refine Ev.bind hI ?_
 generalize dvN b.Ab k=m at h1
 have e1:W64 (2*(m:Int))=((2*m:Nat):Int):=by rw [qZ (by omega) (by omega)];omega
 have e2:W64 (((2*m:Nat):Int)+1)=((2*m+1:Nat):Int):=by rw [qZ (by omega) (by omega)];omega
 simp only [e1,e2]
 exact Ev.bind (qrq (t:=t) (m:=2*m) (by omega) (by omega)) .done
end
def actQ (b:qk) (t:qt) (ks:List qe) (k:Nat):Bool :=
 (winB b t (gt ks k).A).2&&((winB b t (gt ks k).B).2&&(decide ((winB b t (gt ks k).A).1.As≤(winB b t (gt ks k).B).1.Ba)&&decide ((winB b t (gt ks k).B).1.As≤(winB b t (gt ks k).A).1.Ba)))
theorem qqZ {b:qk} {ks:List qe} (h:cplsB b ks=true):ks.length≤20∧∀ k,k<ks.length→netB b.Ab (gt ks k).A=true∧netB b.Ab (gt ks k).B=true∧(gt ks k).A<(gt ks k).B:=by
 unfold cplsB at h
 rw [jf,qap,decide_eq_true_eq] at h
 refine ⟨h.2,fun k hk=>?_⟩
 have:=h.1 k hk
 unfold cplB at this
 simp only [jf,decide_eq_true_eq] at this
 exact ⟨this.1.1,this.1.2.1,this.1.2.2.1⟩
section
variable {b:qk} {t:qt} {ks:List qe}
theorem qqO (h:blockB b=true) (ht:TmL t (ndB b)) (hc:cplsB b ks=true):Ev (fun n=>qgn n b t ks) (ints (selN (actQ b t ks) ks.length)):=by
 obtain ⟨hl,hn⟩:=qqZ hc
 have hL:Ev (fun n=>qbo b t ks n ([]:List Int) 0) (ints (selN (actQ b t ks) ks.length),(ks.length:Int)):=by
  refine qoa (q:=actQ b t ks) (Lf:=qbo b t ks) (len:=ks.length) (by omega) (Ev.succ ?_) (fun j hj s hs X h1 h2=>?_)
  ·simp only [qbo,qj (je _),cond_false];exact .done
  ·obtain ⟨nA,nB,_⟩:=hn j hj
   simp only [qbo,qi hj,cond_true,qN hj,jd,hs,wS j]
   refine Ev.bind (qm4 h ht nA) (Ev.bind (qm4 h ht nB) ?_)
   unfold actQ at h1 h2
   generalize winB b t (gt ks j).A=u at h1 h2 ⊢
   generalize winB b t (gt ks j).B=v at h1 h2 ⊢
   cases q1:u.2
   ·exact Ev.bind (b:=false) (Ev.now rfl) (Ev.ff rfl (h2 (by rw [q1];rfl)))
   cases q2:v.2
   ·exact Ev.bind (b:=false) (Ev.now rfl) (Ev.ff rfl (h2 (by rw [q1,q2];rfl)))
   cases q3:decide (u.1.As≤v.1.Ba)
   ·exact Ev.bind (b:=false) (Ev.now rfl) (Ev.ff rfl (h2 (by rw [q1,q2,q3];rfl)))
   cases q4:decide (v.1.As≤u.1.Ba)
   ·exact Ev.bind (b:=false) (Ev.now rfl) (Ev.ff rfl (h2 (by rw [q1,q2,q3,q4];rfl)))
   ·exact Ev.bind (b:=true) (Ev.now rfl) (Ev.tt rfl (h1 (by rw [q1,q2,q3,q4];rfl)))
 unfold qgn
 exact Ev.bind hL .done
theorem qrZ (ex:List Int) (h:blockB b=true) (ht:TmL t (ndB b)) (hc:cplsB b ks=true):Ev (fun n=>qfx n (some (viewE b ex)) t ks) (ints (selN (actQ b t ks) ks.length)):=by
 obtain ⟨hl,hn⟩:=qqZ hc
 have hL:Ev (fun n=>qao (some (viewE b ex)) t ks n ([]:List Int) 0) (ints (selN (actQ b t ks) ks.length),(ks.length:Int)):=by
  refine qoa (q:=actQ b t ks) (Lf:=qao (some (viewE b ex)) t ks) (len:=ks.length) (by omega) (Ev.succ ?_) (fun j hj s hs X h1 h2=>?_)
  ·simp only [qao,qj (je _),cond_false];exact .done
  ·obtain ⟨nA,nB,_⟩:=hn j hj
   simp only [qao,qi hj,cond_true,qN hj,jd,hs,wS j]
   refine Ev.bind (qoB ex h ht nA) (Ev.bind (qoB ex h ht nB) ?_)
   unfold actQ at h1 h2
   generalize winB b t (gt ks j).A=u at h1 h2 ⊢
   generalize winB b t (gt ks j).B=v at h1 h2 ⊢
   unfold qf5
   cases q1:u.2
   ·exact Ev.ff rfl (h2 (by rw [q1];rfl))
   cases q2:v.2
   ·exact Ev.tt rfl (Ev.ff rfl (h2 (by rw [q1,q2];rfl)))
   cases q3:decide (u.1.As≤v.1.Ba)
   ·exact Ev.tt rfl (Ev.tt rfl (Ev.bind (b:=false) (Ev.now rfl) (Ev.ff rfl (h2 (by rw [q1,q2,q3];rfl)))))
   cases q4:decide (v.1.As≤u.1.Ba)
   ·exact Ev.tt rfl (Ev.tt rfl (Ev.bind (b:=false) (Ev.now rfl) (Ev.ff rfl (h2 (by rw [q1,q2,q3,q4];rfl)))))
   ·exact Ev.tt rfl (Ev.tt rfl (Ev.bind (b:=true) (Ev.now rfl) (Ev.tt rfl (h1 (by rw [q1,q2,q3,q4];rfl)))))
 unfold qfx
 exact Ev.bind hL .done
end
theorem qk6 {b:qk} {t:qt} {ks:List qe} (hb:qjN b) (hk:ks.length≤1048576):∃ R:List Int × Int,Ev (fun n=>qdI n b t ks) R∧Ev (fun n=>qcj n b t ks) R∧R.1.length≤1048576:=by
 unfold qdI qcj
 have hnl:b.Ab.Ah.length≤1048576:=hb.Ab.Ah.len
 have s1:=qmI (b:=b) hnl hk
 have i1:=qml (b:=b) hnl hk
 rcases qss (t:=t) hb with ⟨hs,hi⟩|⟨h1,ht,hs,hi⟩
 ·exact ⟨([],1),Ev.bind hs (Ev.tt rfl .done),Ev.bind hi (Ev.tt rfl .done),Nat.zero_le _⟩
 ·cases hc:cplsB b ks
  ·rw [hc] at s1 i1
   exact ⟨([],2),Ev.bind hs (Ev.ff rfl (Ev.bind s1 (Ev.tt rfl .done))),Ev.bind hi (Ev.ff rfl (Ev.bind i1 (Ev.tt rfl .done))),Nat.zero_le _⟩
  ·rw [hc] at s1 i1
   refine ⟨(ints (selN (actQ b t ks) ks.length),0),Ev.bind hs (Ev.ff rfl (Ev.bind s1 (Ev.ff rfl (Ev.bind (qqO h1 (qt2 ht) hc) .done)))),Ev.bind hi (Ev.ff rfl (Ev.bind i1 (Ev.ff rfl (Ev.bind (qrZ [] h1 (qt2 ht) hc) .done)))),?_⟩
   show (ints _).length≤_
   rw [qp1]
   exact jQ qpK hk
section
variable {b:qk} {ks:List qe} {used:List Int}
end
end Go.Fw
