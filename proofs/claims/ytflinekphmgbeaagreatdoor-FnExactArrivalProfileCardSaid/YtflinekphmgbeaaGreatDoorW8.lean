/- By a program of mine (gen.py): for each function a plain function and the proof that the code computes it. -/
import Derived.Test.YtflinekphmgbeaaGreatDoorW3
open Option renaming bind_some → jd
open Nat renaming le_refl → je, mul_le_mul_right → jr, le_of_ble_eq_true → jt, lt_of_lt_of_le → jx, succ_mul → jK, zero_add → jZ, add_zero → Ja
open Bool renaming and_eq_true → jf, eq_iff_iff → jm, true_and → jA, not_eq_true' → jJ, not_true → Jb
open Go.Result renaming andThen_ok → jg
open List renaming length_append → jh, getElem?_eq_getElem → ji, mem_cons_of_mem → jo, getElem_mem → jp, append_assoc → jq, length_singleton → js, getElem?_append_left → ju, take_succ_eq_append_getElem → jv, getD_eq_getElem?_getD → jw, mem_cons_self → jy, length_map → jz, getElem?_take → jB, getElem?_append_right → jC, take_length → jD, getElem?_toArray → jE, drop_eq_getElem_cons → jF, eq_nil_of_length_eq_zero → jH, length_take → jI, map_append → jL, all_eq_true → jM, not_mem_nil → jO, getElem_of_mem → jP, length_replicate → jQ, size_toArray → jR, mem_cons → jU, append_nil → jX, ext_getElem → jY
open Go.Sem renaming run_bind → jj, run_pure → jk
open Int renaming toNat_natCast → jn, tdiv_eq_ediv_of_nonneg → jG, mul_nonneg → jS, mul_assoc → jT, mul_le_mul → jV, le_refl → jW
open Array renaming getElem?_append_left → jN

namespace Go.Fw
open Go Go.Proofs
open Go.RowKit (Below)
set_option maxRecDepth 100000
set_option maxHeartbeats 1600000
variable {n:Nat} {w:World} {cs1 cs2 cs3 cs4 cs5 cs6 cs7 cs8 cs9:List Value}
def qlS (_:Nat) (a_n:Int):Option qy :=
 (mkS a_n (false:Bool)).bind fun x1 =>
 (mkS a_n ((⟨0,0⟩:qf):qf)).bind fun x2 =>
 (mkS a_n ((⟨0,0⟩:qf):qf)).bind fun x3 =>
 some (⟨x1,x2,x3⟩:qy)
theorem qpC {a_n:Int}  {r:qy} (hF:qlS n a_n=some r):RetV Tryz.prog 148 [.int .i64 a_n] w r:=by
 refine zV 10 Tryz.func148 rfl fun h=>zSR (qp qa h rfl rfl rfl fun w1 bb1 h=>zNS (rA [] [] h rfl fun w2 h=>M0 21 [0,2,4] (h.pick [] rfl) rfl ?_))
 obtain ⟨x1,hx1,hF⟩:=qc hF
 obtain ⟨x2,hx2,hF⟩:=qc hF
 obtain ⟨x3,hx3,hF⟩:=qc hF
 refine qnP (fun e w'=>∃ (S13:Nat→Prop) (p13:Option Addr) (S14:Nat→Prop) (p14:Option Addr) (S15:Nat→Prop) (p15:Option Addr),e=[(2,.pointer (some ⟨bb1,0,none⟩))]∧SH w w' [Ch.own S13 (x3:List qf) [.slice p13 x3.length x3.length],Ch.own S14 (x2:List qf) [.slice p14 x2.length x2.length],Ch.own S15 (x1:List Bool) [.slice p15 x1.length x1.length],Ch.box bb1 [.slice p15 x1.length x1.length,.slice p14 x2.length x2.length,.slice p13 x3.length x3.length] 107]) 0 (bits 8 255) ?_ ?_
 ·intro K
  refine qqW 1 3 5 rfl rfl rfl (bits 8 23) (bits 8 29) (bits 8 53) (by kernel_rfl) (by kernel_rfl) (by kernel_rfl) (by kernel_rfl) ?_ ?_ ?_
  ·obtain ⟨g13,g14,hx1⟩:=qU hx1
   refine qam qa Bool h rfl rfl rfl rfl rfl rfl rfl rfl rfl g13 g14 hx1 rfl fun w12 S10 p10 h=>Ag (h.pick [] rfl) (At 3 5 31 55 rfl ?_ ?_)
   ·obtain ⟨g15,g16,hx2⟩:=qU hx2
    refine qam qa qf h rfl rfl rfl rfl rfl rfl rfl rfl rfl g15 g16 hx2 rfl fun w13 S11 p11 h=>Ag (h.pick [] rfl) (Ao 5 63 rfl ?_)
    obtain ⟨g17,g18,hx3⟩:=qU hx3
    refine qam qa qf h rfl rfl rfl rfl rfl rfl rfl rfl rfl g17 g18 hx3 rfl fun w14 S12 p12 h=>Ag (h.pick [] rfl) (Aw 6 127 (fun w' hw=>qaa qa [0,1,2] [.tmp 4,.tmp 6,.tmp 8] rfl rfl rfl rfl rfl rfl rfl rfl) (h.pick [] rfl) rfl ?_)
    exact Ao 7 255 rfl (zs 3 h rfl fun w15 h=>Ag (h.pick [] rfl) (qfy [(2,_)] ⟨rfl,trivial⟩ (K _ _ ⟨_,_,_,_,_,_,rfl,h⟩)))
   obtain ⟨g15,g16,hx3⟩:=qU hx3
   refine qam qa qf h rfl rfl rfl rfl rfl rfl rfl rfl rfl g15 g16 hx3 rfl fun w13 S11 p11 h=>Ag (h.pick [] rfl) (Ao 3 63 rfl ?_)
   obtain ⟨g17,g18,hx2⟩:=qU hx2
   refine qam qa qf h rfl rfl rfl rfl rfl rfl rfl rfl rfl g17 g18 hx2 rfl fun w14 S12 p12 h=>Ag (h.pick [] rfl) (Aw 6 127 (fun w' hw=>qaa qa [0,1,2] [.tmp 4,.tmp 6,.tmp 8] rfl rfl rfl rfl rfl rfl rfl rfl) (h.pick [] rfl) rfl ?_)
   refine Ao 7 255 rfl (zs 3 h rfl fun w15 h=>Ag (h.pick [] rfl) ?_)
   replace h:=h.pick [1,0,2,3] rfl
   exact qfy [(2,_)] ⟨rfl,trivial⟩ (K _ _ ⟨_,_,_,_,_,_,rfl,h⟩)
  ·obtain ⟨g13,g14,hx2⟩:=qU hx2
   refine qam qa qf h rfl rfl rfl rfl rfl rfl rfl rfl rfl g13 g14 hx2 rfl fun w12 S10 p10 h=>Ag (h.pick [] rfl) (At 1 5 31 61 rfl ?_ ?_)
   ·obtain ⟨g15,g16,hx1⟩:=qU hx1
    refine qam qa Bool h rfl rfl rfl rfl rfl rfl rfl rfl rfl g15 g16 hx1 rfl fun w13 S11 p11 h=>Ag (h.pick [] rfl) (Ao 5 63 rfl ?_)
    obtain ⟨g17,g18,hx3⟩:=qU hx3
    refine qam qa qf h rfl rfl rfl rfl rfl rfl rfl rfl rfl g17 g18 hx3 rfl fun w14 S12 p12 h=>Ag (h.pick [] rfl) (Aw 6 127 (fun w' hw=>qaa qa [0,1,2] [.tmp 4,.tmp 6,.tmp 8] rfl rfl rfl rfl rfl rfl rfl rfl) (h.pick [] rfl) rfl ?_)
    refine Ao 7 255 rfl (zs 3 h rfl fun w15 h=>Ag (h.pick [] rfl) ?_)
    replace h:=h.pick [0,2,1,3] rfl
    exact qfy [(2,_)] ⟨rfl,trivial⟩ (K _ _ ⟨_,_,_,_,_,_,rfl,h⟩)
   obtain ⟨g15,g16,hx3⟩:=qU hx3
   refine qam qa qf h rfl rfl rfl rfl rfl rfl rfl rfl rfl g15 g16 hx3 rfl fun w13 S11 p11 h=>Ag (h.pick [] rfl) (Ao 1 63 rfl ?_)
   obtain ⟨g17,g18,hx1⟩:=qU hx1
   refine qam qa Bool h rfl rfl rfl rfl rfl rfl rfl rfl rfl g17 g18 hx1 rfl fun w14 S12 p12 h=>Ag (h.pick [] rfl) (Aw 6 127 (fun w' hw=>qaa qa [0,1,2] [.tmp 4,.tmp 6,.tmp 8] rfl rfl rfl rfl rfl rfl rfl rfl) (h.pick [] rfl) rfl ?_)
   refine Ao 7 255 rfl (zs 3 h rfl fun w15 h=>Ag (h.pick [] rfl) ?_)
   replace h:=h.pick [1,2,0,3] rfl
   exact qfy [(2,_)] ⟨rfl,trivial⟩ (K _ _ ⟨_,_,_,_,_,_,rfl,h⟩)
  obtain ⟨g13,g14,hx3⟩:=qU hx3
  refine qam qa qf h rfl rfl rfl rfl rfl rfl rfl rfl rfl g13 g14 hx3 rfl fun w12 S10 p10 h=>Ag (h.pick [] rfl) (At 1 3 55 61 rfl ?_ ?_)
  ·obtain ⟨g15,g16,hx1⟩:=qU hx1
   refine qam qa Bool h rfl rfl rfl rfl rfl rfl rfl rfl rfl g15 g16 hx1 rfl fun w13 S11 p11 h=>Ag (h.pick [] rfl) (Ao 3 63 rfl ?_)
   obtain ⟨g17,g18,hx2⟩:=qU hx2
   refine qam qa qf h rfl rfl rfl rfl rfl rfl rfl rfl rfl g17 g18 hx2 rfl fun w14 S12 p12 h=>Ag (h.pick [] rfl) (Aw 6 127 (fun w' hw=>qaa qa [0,1,2] [.tmp 4,.tmp 6,.tmp 8] rfl rfl rfl rfl rfl rfl rfl rfl) (h.pick [] rfl) rfl ?_)
   refine Ao 7 255 rfl (zs 3 h rfl fun w15 h=>Ag (h.pick [] rfl) ?_)
   replace h:=h.pick [2,0,1,3] rfl
   exact qfy [(2,_)] ⟨rfl,trivial⟩ (K _ _ ⟨_,_,_,_,_,_,rfl,h⟩)
  obtain ⟨g15,g16,hx2⟩:=qU hx2
  refine qam qa qf h rfl rfl rfl rfl rfl rfl rfl rfl rfl g15 g16 hx2 rfl fun w13 S11 p11 h=>Ag (h.pick [] rfl) (Ao 1 63 rfl ?_)
  obtain ⟨g17,g18,hx1⟩:=qU hx1
  refine qam qa Bool h rfl rfl rfl rfl rfl rfl rfl rfl rfl g17 g18 hx1 rfl fun w14 S12 p12 h=>Ag (h.pick [] rfl) (Aw 6 127 (fun w' hw=>qaa qa [0,1,2] [.tmp 4,.tmp 6,.tmp 8] rfl rfl rfl rfl rfl rfl rfl rfl) (h.pick [] rfl) rfl ?_)
  refine Ao 7 255 rfl (zs 3 h rfl fun w15 h=>Ag (h.pick [] rfl) ?_)
  replace h:=h.pick [2,1,0,3] rfl
  exact qfy [(2,_)] ⟨rfl,trivial⟩ (K _ _ ⟨_,_,_,_,_,_,rfl,h⟩)
 rintro e2 w16 ⟨S13,p13,S14,p14,S15,p15,rfl,h⟩
 refine Ad ?_
 obtain rfl:=qb hF
 exact qT qa (ρ:=qy) [GoT.v qy [.slice p15 x1.length x1.length,.slice p14 x2.length x2.length,.slice p13 x3.length x3.length]] h ⟨⟨_,_,_,rfl,rfl,h.box 3 rfl,rfl⟩,trivial⟩ (PV.done h (qZ (qf4 (⟨x1,x2,x3⟩:qy) h (qag 2 h rfl) (qag 1 h rfl) (qag 0 h rfl) (by rfl) (by rfl))))
def qmF (_:Nat) (list:(List Int)):Option (List Int) :=
 (appS ([]:List Int) list).bind fun x1 =>
 some x1
theorem qqt {list:(List Int)} (ha1:Ro w list cs1) {r:(List Int)} (hF:qmF n list=some r):RetV Tryz.prog 200 [GoT.v (List Int) cs1] w r:=by
 obtain ⟨p1,k1,rfl,s1⟩:=ha1
 refine zV 6 Tryz.func200 rfl fun h=>X0 6 rfl (qL qa [] _ ([]:List Int) h rfl rfl rfl rfl rfl rfl rfl rfl rfl trivial rfl fun w1 p2 S1 h=>zp1 rfl ?_)
 obtain ⟨x1,hx1,hF⟩:=qc hF
 obtain ⟨g1,hx1⟩:=qaw hx1
 refine qcC qa 0 h rfl (h.oldS s1) rfl rfl rfl rfl rfl rfl rfl rfl rfl rfl g1 hx1 rfl fun w2 p3 k2 S2 h=>X0 2 rfl ?_
 obtain rfl:=qb hF
 exact rO 0 h rfl ⟨rfl,trivial⟩
def qlv (_:Nat) (l:qn) (d:qd) (p:Tl05Place):Option Int :=
 bif decide (p.instance_<0) then some 0 else
 (idx d.Aa p.instance_).bind fun y1 =>
 (idx l.As y1.Bt).bind fun y2 =>
 (idx y2.Bd p.pin).bind fun y3 =>
 some y3.Bs
theorem qre {l:qn} {d:qd} {p:Tl05Place} (ha1:Ro w l cs1) (ha2:Ro w d cs2) (ha3:Ro w p cs3) {r:Int} (hF:qlv n l d p=some r):RetV Tryz.prog 201 [GoT.v qn cs1,GoT.v qd cs2,GoT.v Tl05Place cs3] w r:=by
 obtain ⟨p1,k1,rfl,s1⟩:=qbz ha1
 obtain ⟨p2,k2,p3,k3,p4,k4,rfl,s2,s3,s4⟩:=qay ha2
 obtain rfl:=qbL ha3
 refine zV 27 Tryz.func201 rfl fun h=>zSR (qv h rfl rfl fun w1 bb1 h=>qv h rfl rfl fun w2 bb2 h=>qv h rfl rfl fun w3 bb3 h=>X1 9 0 h rfl (qh rfl hF ?_ ?_))<;>intro hF
 ·exact X0 4 rfl (ri h hF rfl)
 refine zKS (rD (Y1 2 2 h rfl ?_))
 refine Y1 2 1 h rfl ?_
 refine Y1 2 0 h rfl ?_
 obtain ⟨y1,hy1,hF,he1,b1,_,q1,cs4,hp1,hq1,hr1,hc2⟩:=s2.ix hF
 obtain ⟨p5,k5,rfl,s5⟩:=qP hr1
 refine zdxe hp1 hq1 he1 rfl (zd1 rfl (zdc 1 (hc2.below h.below) rfl ?_))
 obtain ⟨y2,hy2,hF,he2,b2,_,q2,cs5,hp2,hq2,hr2,hc3⟩:=s1.ix hF
 obtain ⟨p6,k6,p7,k7,p8,k8,rfl,s6,s7,s8⟩:=qad hr2
 refine zdxe hp2 hq2 he2 rfl (zd1 rfl (zdc 2 (hc3.below h.below) rfl (Y1 2 0 h rfl ?_)))
 obtain ⟨y3,hy3,hF,he3,b3,_,q3,cs6,hp3,hq3,hr3,hc4⟩:=s6.ix hF
 obtain rfl:=qaZ hr3
 exact zdxe hp3 hq3 he3 rfl (zd1 rfl (zdc 2 (hc4.below h.below) rfl (zd1 rfl (dN h fun w4 h=>ri h hF rfl))))
def qdi (y1:qD):Nat→(List Int)→Int→Option ((List Int) × Int)
 | 0,_,_=>none
 | n+1,x2,i2 =>
  bif decide (i2 > 0) then
   (idx y1.Am i2).bind fun y7 =>
   (idx x2 y7).bind fun y8 =>
   (idx x2 i2).bind fun y9 =>
   (idx x2 y7).bind fun _ =>
   qdi y1 n (setS x2 y7 (W64 (y8+y9))) (W64 (i2-1))
  else
   some (x2,i2)
def qdj (a_0:qg) (y1:qD) (r2:(List Tl05Place)) (r3:(List Int)):Nat→(List Int)→Int→Option ((List Int) × Int)
 | 0,_,_=>none
 | n+1,x1,i1 =>
  bif decide (i1<(r3.length:Int)) then
   (idx y1.Bl i1).bind fun y2 =>
   (idx x1 y2).bind fun y3 =>
   (idx r3 i1).bind fun y4 =>
   (idx r2 y4).bind fun y5 =>
   (qlv n (⟨a_0.Av.As⟩:qn) (⟨a_0.Ab.Aa,a_0.Ab.Ak,a_0.Ab.Aj⟩:qd) y5).bind fun r4 =>
   (idx x1 y2).bind fun _ =>
   qdj a_0 y1 r2 r3 n (setS x1 y2 (W64 (y3+r4))) (W64 (i1+1))
  else
   some (x1,i1)
def qhS (n:Nat) (a_0:qg) (a_1:Int):Option (List Int) :=
 (idx a_0.Ac a_1).bind fun y1 =>
 (qmF n y1.Bs).bind fun r1 =>
 (qcg n (⟨a_0.Ab.Aa,a_0.Ab.Ak,a_0.Ab.Aj⟩:qd)).bind fun r2 =>
 (qgC n (⟨a_0.Ab.Aa,a_0.Ab.Ak,a_0.Ab.Aj⟩:qd) a_1).bind fun r3 =>
 (qdj a_0 y1 r2 r3 n r1 0).bind fun o=>match o with
 | (x1,_) =>
  (qdi y1 n x1 (W64 ((r1.length:Int)-1))).bind fun o=>match o with
  | (x2,_) =>
   some x2
theorem ql1 {a_0:qg} {a_1:Int} (ha1:Ro w a_0 cs1) {r:(List Int)} (hF:qhS n a_0 a_1=some r):RetV Tryz.prog 166 [GoT.v qg cs1,.int .i64 a_1] w r:=by
 obtain ⟨p1,k1,p2,k2,p3,k3,p4,k4,p5,k5,rfl,s1,s2,s3,s4,s5⟩:=qac ha1
 refine zV 76 Tryz.func166 rfl fun h=>zSR (qv h rfl rfl fun w1 bb1 h=>X1 7 0 h rfl ?_)
 obtain ⟨y1,hy1,hF,he1,b1,_,q1,cs2,hp1,hq1,hr1,hc1⟩:=s5.ix hF
 obtain ⟨p6,k6,p7,k7,p8,k8,p9,k9,rfl,s6,s7,s8,s9⟩:=qaN hr1
 refine zxe hp1 hq1 he1 rfl (zc 0 (hc1.below h.below) rfl (qp qa h rfl rfl rfl fun w2 bb2 h=>zs 0 h rfl fun w3 h=>X1 5 0 h rfl (zcL h hF (qqt ⟨_,_,rfl,(h.oldS s8)⟩) rfl fun r1 w4 S1 p10 k10 h hF=>X1 6 2 h rfl (zcL h hF (qcc (qar _ (h.oldS s2) (h.oldS s3) (h.oldS s4))) rfl fun r2 w5 S2 p11 k11 h hF=>X1 7 3 h rfl (zcL h hF (qi9 (qar _ (h.oldS s2) (h.oldS s3) (h.oldS s4))) rfl fun r3 w6 S3 p12 k12 h hF=>X0 7 rfl ?_)))))
 obtain ⟨o1,hF,hK1⟩:=qc hF
 refine qm (rL (fun m e w'=>∃ (x1:(List Int)) (i1:Int),qdj a_0 y1 r2 r3 m x1 i1=some o1∧e=[(2,.pointer (some ⟨bb1,0,none⟩)),(5,.pointer (some ⟨bb2,0,none⟩)),(6,.slice p10 r1.length k10),(7,.slice p11 r2.length k11),(8,.slice p12 r3.length k12),(9,.int .i64 i1)]∧SH w w' [Ch.own S3 (r3:List Int) [.slice p12 r3.length k12],Ch.own S2 (r2:List Tl05Place) [.slice p11 r2.length k11],Ch.own S1 (x1:List Int) [.slice p10 r1.length k10],Ch.box bb2 (qgI y1 p6 p7 p8 p9 k6 k7 k8 k9) 186,Ch.box bb1 (qa1 a_0 p1 p2 p3 p4 p5 k1 k2 k3 k4 k5) 51]) n ⟨_,_,hF,rfl,h⟩ rfl ?_)
 rintro m1 e1 w7 ⟨x1,i1,hF,rfl,h⟩
 rcases m1 with _|m1
 ·cases hF
 refine X0 8 rfl (qh rfl hF ?_ ?_)<;>intro hF
 ·refine zKSB (rA [22] [0,1,2,3,4] h rfl fun w8 h=>M1 15 [0,1,2,3] 3 (h.pick [0,1,2,3,4] rfl) rfl ?_)
  obtain ⟨y2,hy2,hF,he2,b2,_,q2,cs3,hp2,hq2,rfl,hc3⟩:=s9.ix hF
  refine Ae 4 31 hp2 hq2 he2 (h.pick [0,1,2,3,4] rfl) rfl (Al 5 63 0 hc3 (h.pick [0,1,2,3,4] rfl) rfl ?_)
  obtain ⟨y3,hy3,hF,he3,b3,_,q3,cs4,hp3,hq3,rfl,hc4⟩:=(h.sl 2 rfl).1.ix hF
  refine Ax 6 127 hp3 hq3 ⟨he3.1,qC he3.2.1 (h.sl 2 rfl).2⟩ (h.pick [0,1,2,3,4] rfl) rfl (Aw 7 255 (fun w' hw=>qjN qa (qcf (w1:=w) (S1:=fun _=>False) hw 2 rfl hy3 hp3 hq3 rfl) (j:=0) rfl rfl rfl) (h.pick [0,1,2,3,4] rfl) rfl ?_)
  refine M2 32767 [8,9,10,11,12,13,14] 4 4 (h.pick [0,1,2,3,4] rfl) rfl ?_
  obtain ⟨y4,hy4,hF,he4,b4,_,q4,cs5,hp4,hq4,rfl,hc5⟩:=(h.sl 0 rfl).1.ix hF
  refine Ax 15 65535 hp4 hq4 ⟨he4.1,qC he4.2.1 (h.sl 0 rfl).2⟩ (h.pick [0,1,2,3,4] rfl) rfl (Aw 16 131071 (fun w' hw=>qjN qa (qcf (w1:=w) (S1:=fun _=>False) hw 0 rfl hy4 hp4 hq4 rfl) (j:=0) rfl rfl rfl) (h.pick [0,1,2,3,4] rfl) rfl ?_)
  obtain ⟨y5,hy5,hF,he5,b5,_,q5,cs6,hp5,hq5,hr8,hc6⟩:=(h.sl 1 rfl).1.ix hF
  obtain rfl:=qbL hr8
  refine Ax 17 262143 hp5 hq5 ⟨he5.1,qC he5.2.1 (h.sl 1 rfl).2⟩ (h.pick [0,1,2,3,4] rfl) rfl (Aw 18 524287 (fun w' hw=>qjN qa (qcf hw 1 rfl hy5 hp5 hq5 (qfw (w:=w) (S:=fun _=>False) y5)) (j:=0) rfl rfl rfl) (h.pick [0,1,2,3,4] rfl) rfl ?_)
  refine Ao 19 1048575 rfl (zcI h hF (qre (qd9 _ (h.oldS s1)) (qar _ (h.oldS s2) (h.oldS s3) (h.oldS s4)) (qfw y5)) rfl fun r4 w9 h hF=>G0 2097151 [20] (h.pick [0,1,2,3,4] rfl) rfl ?_)
  obtain ⟨y6,hy6,hF,he6,b6,_,q6,cs7,hp6,hq6,rfl,hc7⟩:=(h.sl 2 rfl).1.ix hF
  exact Ax 21 4194303 hp6 hq6 ⟨he6.1,qC he6.2.1 (h.sl 2 rfl).2⟩ (h.pick [0,1,2,3,4] rfl) rfl (Ao 22 8388607 rfl (qaA qa 2 0 (W64 (y3+r4)) h rfl hy6 hp6 hq6 rfl hc7 rfl rfl rfl rfl rfl rfl rfl fun w10 h=>qbE (fun hs=>absurd (hs 22 (by decide)) (by decide)) (Ad (X0 6 rfl (rK ⟨_,_,hF,rfl,h⟩ rfl)))))
 refine qq rfl ?_
 obtain rfl:=qb hF;replace hF:=hK1
 refine X0 8 rfl ?_
 obtain ⟨o2,hF,hK2⟩:=qc hF
 refine qm ?_
 replace h:=h.pick [2,3] rfl
 refine rL (fun m e w'=>∃ (x2:(List Int)) (i2:Int),qdi y1 m x2 i2=some o2∧e=[(5,.pointer (some ⟨bb2,0,none⟩)),(6,.slice p10 r1.length k10),(10,.int .i64 i2)]∧SH w w' [Ch.own S1 (x2:List Int) [.slice p10 r1.length k10],Ch.box bb2 (qgI y1 p6 p7 p8 p9 k6 k7 k8 k9) 186]) n ⟨_,_,hF,rfl,h⟩ rfl ?_
 rintro m2 e2 w11 ⟨x2,i2,hF,rfl,h⟩
 rcases m2 with _|m2
 ·cases hF
 refine X0 6 rfl (qh rfl hF ?_ ?_)<;>intro hF
 ·refine zKSB (rA [14] [0,1] h rfl fun w12 h=>M1 15 [0,1,2,3] 1 (h.pick [0,1] rfl) rfl ?_)
  obtain ⟨y7,hy7,hF,he7,b7,_,q7,cs8,hp7,hq7,rfl,hc9⟩:=s6.ix hF
  refine Ae 4 31 hp7 hq7 he7 (h.pick [0,1] rfl) rfl (Al 5 63 0 hc9 (h.pick [0,1] rfl) rfl ?_)
  obtain ⟨y8,hy8,hF,he8,b8,_,q8,cs9,hp8,hq8,rfl,hc10⟩:=(h.sl 0 rfl).1.ix hF
  refine Ax 6 127 hp8 hq8 ⟨he8.1,qC he8.2.1 (h.sl 0 rfl).2⟩ (h.pick [0,1] rfl) rfl (Aw 7 255 (fun w' hw=>qjN qa (qcf (w1:=w) (S1:=fun _=>False) hw 0 rfl hy8 hp8 hq8 rfl) (j:=0) rfl rfl rfl) (h.pick [0,1] rfl) rfl ?_)
  refine M0 1023 [8,9] (h.pick [0,1] rfl) rfl ?_
  obtain ⟨y9,hy9,hF,he9,b9,_,q9,cs10,hp9,hq9,rfl,hc11⟩:=(h.sl 0 rfl).1.ix hF
  refine Ax 10 2047 hp9 hq9 ⟨he9.1,qC he9.2.1 (h.sl 0 rfl).2⟩ (h.pick [0,1] rfl) rfl (Aw 11 4095 (fun w' hw=>qjN qa (qcf (w1:=w) (S1:=fun _=>False) hw 0 rfl hy9 hp9 hq9 rfl) (j:=0) rfl rfl rfl) (h.pick [0,1] rfl) rfl ?_)
  refine M0 8191 [12] (h.pick [0,1] rfl) rfl ?_
  obtain ⟨y10,hy10,hF,he10,b10,_,q10,cs11,hp10,hq10,rfl,hc12⟩:=(h.sl 0 rfl).1.ix hF
  exact Ax 13 16383 hp10 hq10 ⟨he10.1,qC he10.2.1 (h.sl 0 rfl).2⟩ (h.pick [0,1] rfl) rfl (Ao 14 32767 rfl (qaA qa 0 0 (W64 (y8+y9)) h rfl hy10 hp10 hq10 rfl hc12 rfl rfl rfl rfl rfl rfl rfl fun w13 h=>qbE (fun hs=>absurd (hs 14 (by decide)) (by decide)) (Ad (X0 6 rfl (rK ⟨_,_,hF,rfl,h⟩ rfl)))))
 refine qq rfl ?_
 obtain rfl:=qb hF;replace hF:=hK2
 refine X0 5 rfl ?_
 obtain rfl:=qb hF
 exact rO 0 h rfl ⟨rfl,trivial⟩
def qjG (n:Nat) (b:qg) (x:qu):Option (qG × Int) :=
 (qcg n (⟨b.Ab.Aa,b.Ab.Ak,b.Ab.Aj⟩:qd)).bind fun r1 =>
 (idx r1 (W64 (x.To.tdiv 2))).bind fun y1 =>
 (idx b.Ab.Aa y1.instance_).bind fun y2 =>
 (idx b.Av.As y2.Bt).bind fun y3 =>
 (idx y3.Au x.Bz).bind fun y4 =>
 (qhS n b y1.net).bind fun r2 =>
 (idx r2 0).bind fun y5 =>
 some (y4,y5)
theorem qns {A:Nat→Prop} (hA:∀ b,A b→old w b) {b:qg} {x:qu} (ha1:GoT.R w A b cs1) (ha2:GoT.R w A x cs2) {r:(qG × Int)} (hF:qjG n b x=some r):RetG Tryz.prog 120 [GoT.v qg cs1,GoT.v qu cs2] w A r:=by
 obtain ⟨p1,k1,p2,k2,p3,k3,p4,k4,p5,k5,rfl,s1,s2,s3,s4,s5⟩:=qac ha1
 obtain rfl:=qav ha2
 have hg:=Rg.start hA
 refine qek Tryz.func120 rfl (m:=39) rfl rfl (fun h=>?_)
 refine zSR (qv h rfl rfl fun w1 bb1 h=>qv h rfl rfl fun w2 bb2 h=>qp qa h rfl rfl rfl fun w3 bb3 h=>X0 3 rfl ?_)
 obtain ⟨r1,hr1,hF⟩:=qc hF
 obtain ⟨y1,hy1,hF⟩:=qc hF
 refine qbe (fun e w'=>∃ (bb8:Nat),e=[(2,.pointer (some ⟨bb1,0,none⟩)),(3,.pointer (some ⟨bb2,0,none⟩)),(4,.pointer (some ⟨bb3,0,none⟩)),(6,.pointer (some ⟨bb8,0,none⟩))]∧SH w w' [Ch.box bb8 (qlw y1) 242,Ch.box bb3 [.int .i64 0,.int .i64 0,.int .i64 0,.int .i64 0,.slice none 0 0,.slice none 0 0] 173,Ch.box bb2 (qkt x) 121,Ch.box bb1 (qa1 b p1 p2 p3 p4 p5 k1 k2 k3 k4 k5) 51]) ?_ ?_
 ·refine rA [9] [1,2] h rfl fun w7 h=>M2 59 [0,1,3,4,5] 1 0 (h.pick [1,2] rfl) rfl (At 2 8 63 315 rfl ?_ ?_)
  ·refine qmJ r1 h (cB 152 rfl) (qcc (qar _ (h.oldS (s2.mono hg.old)) (h.oldS (s3.mono hg.old)) (h.oldS (s4.mono hg.old))) hr1) rfl rfl rfl rfl fun w16 S4 p9 k9 h=>Ag (h.pick [2,3] rfl) ?_
   have he4:=qcG hy1
   obtain ⟨b4,o_4,q4,cs6,hp4,hq4,-,hr5,hc4⟩:=(h.sl 0 rfl).1.at hy1
   obtain rfl:=qbL hr5
   refine Ax 6 127 hp4 hq4 ⟨he4.1,qC he4.2.1 (h.sl 0 rfl).2⟩ (h.pick [2,3] rfl) rfl (At 7 8 255 383 rfl ?_ ?_)
   ·refine r_v (qjN qa (qcf h 0 rfl hy1 hp4 hq4 (qfw (w:=w) (S:=fun _=>False) y1)) (j:=0) rfl rfl rfl) rfl (Ag (h.pick [2,3] rfl) (Ao 8 511 rfl (qp qa h rfl rfl rfl fun w17 bb9 h=>Ag (h.pick [3,4] rfl) (Ao 9 1023 rfl (zs 0 h rfl fun w18 h=>qbE (fun hs=>absurd (hs 9 (by decide)) (by decide)) (Ad ?_))))))
    replace h:=h.pick [0,2,3,4] rfl
    exact rG ⟨_,rfl,h⟩ rfl
   refine qp qa h rfl rfl rfl fun w19 bb10 h=>Ag (h.pick [3,4] rfl) (Ao 7 511 rfl (r_v (qjN qa (qcf h 1 rfl hy1 hp4 hq4 (qfw (w:=w) (S:=fun _=>False) y1)) (j:=0) rfl rfl rfl) rfl (Ag (h.pick [3,4] rfl) (Ao 9 1023 rfl (zs 0 h rfl fun w20 h=>qbE (fun hs=>absurd (hs 9 (by decide)) (by decide)) (Ad ?_))))))
   replace h:=h.pick [0,2,3,4] rfl
   exact rG ⟨_,rfl,h⟩ rfl
  refine qp qa h rfl rfl rfl fun w21 bb11 h=>Ag (h.pick [2,3] rfl) (Ao 2 319 rfl (qmJ r1 h (cB 152 rfl) (qcc (qar _ (h.oldS (s2.mono hg.old)) (h.oldS (s3.mono hg.old)) (h.oldS (s4.mono hg.old))) hr1) rfl rfl rfl rfl fun w22 S5 p10 k10 h=>Ag (h.pick [3,4] rfl) ?_))
  have he5:=qcG hy1
  obtain ⟨b5,o_5,q5,cs7,hp5,hq5,-,hr6,hc5⟩:=(h.sl 0 rfl).1.at hy1
  obtain rfl:=qbL hr6
  refine Ax 6 383 hp5 hq5 ⟨he5.1,qC he5.2.1 (h.sl 0 rfl).2⟩ (h.pick [3,4] rfl) rfl (Ao 7 511 rfl (r_v (qjN qa (qcf h 0 rfl hy1 hp5 hq5 (qfw (w:=w) (S:=fun _=>False) y1)) (j:=0) rfl rfl rfl) rfl (Ag (h.pick [3,4] rfl) (Ao 9 1023 rfl (zs 1 h rfl fun w23 h=>qbE (fun hs=>absurd (hs 9 (by decide)) (by decide)) (Ad ?_))))))
  replace h:=h.pick [1,2,3,4] rfl
  exact rG ⟨_,rfl,h⟩ rfl
 rintro e1 w24 ⟨bb8,rfl,h⟩
 refine qcP (rA [] [0,2,3] h rfl fun w25 h=>M3 255 [0,1,2,3,4,5,6,7] 2 2 0 (h.pick [0,2,3] rfl) rfl ?_)
 obtain ⟨y2,hy2,hF,he6,b6,_,q6,cs8,hp6,hq6,hr7,hc6⟩:=s2.ix hF
 obtain ⟨p11,k11,rfl,s6⟩:=qP hr7
 refine Ae 8 511 hp6 hq6 he6 (h.pick [0,2,3] rfl) rfl (M0 1023 [9] (h.pick [0,2,3] rfl) rfl (Al 10 2047 1 hc6 (h.pick [0,2,3] rfl) rfl ?_))
 obtain ⟨y3,hy3,hF,he7,b7,_,q7,cs9,hp7,hq7,hr8,hc7⟩:=s1.ix hF
 obtain ⟨p12,k12,p13,k13,p14,k14,rfl,s7,s8,s9⟩:=qad hr8
 refine Ae 11 4095 hp7 hq7 he7 (h.pick [0,2,3] rfl) rfl (M0 8191 [12] (h.pick [0,2,3] rfl) rfl (Al 13 16383 3 hc7 (h.pick [0,2,3] rfl) rfl (M1 65535 [14,15] 1 (h.pick [0,2,3] rfl) rfl ?_)))
 obtain ⟨y4,hy4,hF,he8,b8,_,q8,cs10,hp8,hq8,hr9,hc8⟩:=s8.ix hF
 obtain ⟨p15,k15,p16,k16,rfl,s10,s11⟩:=qae hr9
 refine Ae 16 131071 hp8 hq8 he8 (h.pick [0,2,3] rfl) rfl (Al 17 262143 0 hc8 (h.pick [0,2,3] rfl) rfl (M2 2097151 [18,19,20] 2 0 (h.pick [0,2,3] rfl) rfl (Ao 21 4194303 rfl (zcL h hF (ql1 (h.old (GoT.mono ha1 hg.old))) rfl fun r2 w26 S6 p17 k17 h hF=>Ag (h.pick [1,3,4] rfl) ?_))))
 obtain ⟨y5,hy5,hF,he9,b9,_,q9,cs11,hp9,hq9,rfl,hc9⟩:=(h.sl 0 rfl).1.ix hF
 refine Ax 22 8388607 hp9 hq9 ⟨he9.1,qC he9.2.1 (h.sl 0 rfl).2⟩ (h.pick [1,3,4] rfl) rfl (qnP (fun e w'=>e=[(4,.pointer (some ⟨bb3,0,none⟩)),(5,.int .i64 y5)]∧SH w w' [Ch.box bb8 (qlw y1) 242,Ch.box bb3 (qg6 y4 p15 p16 k15 k16) 173,Ch.box bb2 (qkt x) 121,Ch.box bb1 (qa1 b p1 p2 p3 p4 p5 k1 k2 k3 k4 k5) 51]) 0 (bits 26 67108863) ?_ ?_)
 ·intro K
  refine At 23 24 16777215 25165823 rfl ?_ ?_
  ·refine r_v (qjN qa (qcf (w1:=w) (S1:=fun _=>False) h 0 rfl hy5 hp9 hq9 rfl) (j:=0) rfl rfl rfl) rfl (Ag (h.pick [1,3,4] rfl) (Ao 24 33554431 rfl (zs 2 h rfl fun w30 h=>G0 67108863 [25] (h.pick [1,3,4] rfl) rfl ?_)))
   replace h:=h.pick [1,2,3,4] rfl
   exact qfy [(4,_),(5,_)] ⟨rfl,rfl,trivial⟩ (K _ _ ⟨rfl,h⟩)
  refine zs 2 h rfl fun w30 h=>Ag (h.pick [1,3,4] rfl) (Ao 23 33554431 rfl (r_v (qjN qa (qcf (w1:=w) (S1:=fun _=>False) h 0 rfl hy5 hp9 hq9 rfl) (j:=0) rfl rfl rfl) rfl (G0 67108863 [25] (h.pick [1,3,4] rfl) rfl ?_)))
  replace h:=h.pick [1,2,3,4] rfl
  exact qfy [(4,_),(5,_)] ⟨rfl,rfl,trivial⟩ (K _ _ ⟨rfl,h⟩)
 rintro e3 w31 ⟨rfl,h⟩
 refine Ad ?_
 obtain rfl:=qb hF
 have hv1:GoRs.Rs (ρ:=(qG × Int)) h.wc (reg A w h.wc) (y4,y5) [GoT.v qG (qg6 y4 p15 p16 k15 k16),GoT.v Int [.int .i64 y5]]:=⟨_,_,rfl,(hg.outR h (qfY y4 (hg.inS h s10) (hg.inS h s11))),⟨_,rfl,rfl⟩⟩
 exact qdS qa (ρ:=(qG × Int)) (r:=(y4,y5)) [GoT.v qG (qg6 y4 p15 p16 k15 k16),GoT.v Int [.int .i64 y5]] h ⟨⟨_,_,_,rfl,rfl,h.box 1 rfl,rfl⟩,rfl,trivial⟩ hv1
def qcx (_:Nat) (a:Int) (b:Int) (mode:Int):Option Int :=
 (quoS a b).bind fun y1 =>
 (remS a b).bind fun y2 =>
 (
  bif decide (y2<0) then some (mode==0) else
  some false).bind fun b1 =>
 bif b1 then some (W64 (y1-1)) else
 bif decide (y2 > 0) then
  bif (mode==1) then some (W64 (y1+1)) else
  some y1
 else
  some y1
theorem qg3 {a:Int} {b:Int} {mode:Int}  {r:Int} (hF:qcx n a b mode=some r):RetV Tryz.prog 124 [.int .i64 a,.int .i64 b,.int .i64 mode] w r:=by
 refine zV 32 Tryz.func124 rfl fun h=>X0 8 rfl ?_
 obtain ⟨y1,hx1,hF⟩:=qc hF
 obtain ⟨g1,hx1⟩:=qsF hx1
 refine r_v (qzl g1 rfl rfl) rfl ?_
 rw [hx1]
 refine X0 6 rfl ?_
 obtain ⟨y2,hx2,hF⟩:=qc hF
 obtain ⟨g2,hx2⟩:=qsv hx2
 refine r_v (qzs g2 rfl rfl) rfl ?_
 rw [hx2]
 refine X0 4 rfl ?_
 obtain ⟨KF1,hKF1,o1,hF,hK1⟩:=bindE hF
 refine qbe (fun e w'=>∃ (b1:Bool),KF1 b1=some r∧e=[(2,.int .i64 mode),(7,.int .i64 y1),(8,.int .i64 y2),(20,.bool b1)]∧SH w w' []) ?_ ?_
 ·refine X0 4 rfl (qj (t:=17) hF rfl ?_ ?_)<;>intro hF
  ·refine X0 6 rfl ?_
   obtain rfl:=qb hF
   exact rG ⟨_,hK1,rfl,h⟩ rfl
  refine X0 4 rfl ?_
  obtain rfl:=qb hF
  exact rG ⟨_,hK1,rfl,h⟩ rfl
 rintro e1 w1 ⟨b1,hF,rfl,h⟩
 subst hKF1
 refine qh rfl hF ?_ ?_<;>intro hF
 ·exact X0 6 rfl (ri h hF rfl)
 refine X0 7 rfl (qj (t:=25) hF rfl ?_ ?_)<;>intro hF
 ·refine X0 6 rfl (qh rfl hF ?_ ?_)<;>intro hF
  ·exact X0 6 rfl (ri h hF rfl)
  exact X0 6 rfl (ri h hF rfl)
 exact X0 4 rfl (qbW rfl rfl (X0 6 rfl (ri h hF rfl)))
def qbw (axis:(List Int)) (x:Int) (y1:Int) (y2:Int):Nat→Int→Option (Flow (Int × Int × Int) Int)
 | 0,_=>none
 | n+1,i1 =>
  bif decide (i1 ≥ 0) then
   (idx axis i1).bind fun y3 =>
   bif ((if y2<(if y1 > x then y1 else x) then y2 else (if y1 > x then y1 else x))==y3) then some (.ret (i1,1,0)) else
   (idx axis i1).bind fun y4 =>
   bif decide ((if y2<(if y1 > x then y1 else x) then y2 else (if y1 > x then y1 else x)) > y4) then
    (idx axis (W64 (i1+1))).bind fun y5 =>
    (idx axis i1).bind fun y6 =>
    some (.ret (i1,W64 (y5-(if y2<(if y1 > x then y1 else x) then y2 else (if y1 > x then y1 else x))),W64 ((if y2<(if y1 > x then y1 else x) then y2 else (if y1 > x then y1 else x))-y6)))
   else
    qbw axis x y1 y2 n (W64 (i1-1))
  else
   some (.nxt i1)
def qe4 (n:Nat) (axis:(List Int)) (x:Int):Option (Int × Int × Int) :=
 (idx axis 0).bind fun y1 =>
 (idx axis (W64 ((axis.length:Int)-1))).bind fun y2 =>
 (qbw axis x y1 y2 n (W64 ((axis.length:Int)-1))).bind fun o=>match o with
 | .ret r=>some r
 | .nxt _ =>
  some (0,1,0)
theorem qk6 {axis:(List Int)} {x:Int} (ha1:Ro w axis cs1) {r:(Int × Int × Int)} (hF:qe4 n axis x=some r):RetV Tryz.prog 167 [GoT.v (List Int) cs1,.int .i64 x] w r:=by
 obtain ⟨p1,k1,rfl,s1⟩:=ha1
 refine zV 56 Tryz.func167 rfl fun h=>X0 16 rfl ?_
 obtain ⟨y1,hy1,hF,he1,b1,_,q1,cs2,hp1,hq1,rfl,hc1⟩:=s1.ix hF
 refine zxe hp1 hq1 he1 rfl (zc 0 (hc1.below h.below) rfl (X0 9 rfl ?_))
 obtain ⟨y2,hy2,hF,he2,b2,_,q2,cs3,hp2,hq2,rfl,hc2⟩:=s1.ix hF
 refine zxe hp2 hq2 he2 rfl (zc 0 (hc2.below h.below) rfl (X0 10 rfl ?_))
 obtain ⟨o1,hF,hK1⟩:=qc hF
 refine qm (rL (fun m e w'=>∃ (i1:Int),qbw axis x y1 y2 m i1=some o1∧e=[(0,.slice p1 axis.length k1),(1,.int .i64 (if y2<(if y1 > x then y1 else x) then y2 else (if y1 > x then y1 else x))),(8,.int .i64 i1)]∧SH w w' []) n ⟨_,hF,rfl,h⟩ rfl ?_)
 rintro m1 e1 w1 ⟨i1,hF,rfl,h⟩
 rcases m1 with _|m1
 ·cases hF
 refine X0 6 rfl (qh rfl hF ?_ ?_)<;>intro hF
 ·refine X0 9 rfl ?_
  obtain ⟨y3,hy3,hF,he3,b3,_,q3,cs4,hp3,hq3,rfl,hc4⟩:=s1.ix hF
  refine zxe hp3 hq3 he3 rfl (zc 0 (hc4.below h.below) rfl (X0 2 rfl (qh rfl hF ?_ ?_)))<;>intro hF
  ·refine X0 7 rfl ?_
   obtain rfl:=qb hF;replace hF:=hK1
   obtain rfl:=qb hF
   exact qT qa (ρ:=(Int × Int × Int)) [GoT.v Int [.int .i64 i1],GoT.v Int [.int .i64 1],GoT.v Int [.int .i64 0]] h ⟨rfl,rfl,rfl,trivial⟩ (PV.done h (qak h (qx (S:=fun _=>False) rfl) (qak h (qx (S:=fun _=>False) rfl) (qZ (qx (S:=fun _=>False) rfl)) (by rfl)) (by rfl)))
  refine X0 6 rfl ?_
  obtain ⟨y4,hy4,hF,he4,b4,_,q4,cs5,hp4,hq4,rfl,hc6⟩:=s1.ix hF
  refine zxe hp4 hq4 he4 rfl (zc 0 (hc6.below h.below) rfl (X0 2 rfl (qh rfl hF ?_ ?_)))<;>intro hF
  ·refine qcP (rD (zd4 rfl ?_))
   obtain ⟨y5,hy5,hF,he5,b5,_,q5,cs6,hp5,hq5,rfl,hc8⟩:=s1.ix hF
   refine zdxe hp5 hq5 he5 rfl (zdc 0 (hc8.below h.below) rfl (zd5 rfl ?_))
   obtain ⟨y6,hy6,hF,he6,b6,_,q6,cs7,hp6,hq6,rfl,hc9⟩:=s1.ix hF
   refine zdxe hp6 hq6 he6 rfl (zdc 0 (hc9.below h.below) rfl (zd4 rfl (dN h fun w2 h=>?_)))
   obtain rfl:=qb hF;replace hF:=hK1
   obtain rfl:=qb hF
   exact qT qa (ρ:=(Int × Int × Int)) [GoT.v Int [.int .i64 i1],GoT.v Int [.int .i64 (W64 (y5-(if y2<(if y1 > x then y1 else x) then y2 else (if y1 > x then y1 else x))))],GoT.v Int [.int .i64 (W64 ((if y2<(if y1 > x then y1 else x) then y2 else (if y1 > x then y1 else x))-y6))]] h ⟨rfl,rfl,rfl,trivial⟩ (PV.done h (qak h (qx (S:=fun _=>False) rfl) (qak h (qx (S:=fun _=>False) rfl) (qZ (qx (S:=fun _=>False) rfl)) (by rfl)) (by rfl)))
  exact X0 7 rfl (rK ⟨_,hF,rfl,h⟩ rfl)
 refine qq rfl ?_
 obtain rfl:=qb hF;replace hF:=hK1
 refine X0 6 rfl ?_
 obtain rfl:=qb hF
 exact qT qa (ρ:=(Int × Int × Int)) [GoT.v Int [.int .i64 0],GoT.v Int [.int .i64 1],GoT.v Int [.int .i64 0]] h ⟨rfl,rfl,rfl,trivial⟩ (PV.done h (qak h (qx (S:=fun _=>False) rfl) (qak h (qx (S:=fun _=>False) rfl) (qZ (qx (S:=fun _=>False) rfl)) (by rfl)) (by rfl)))
def qcj (a_0:qr) (r2:Int) (r3:Int) (r4:Int) (r6:Int) (r7:Int) (r8:Int) (i2:Int):Nat→Int→Int→Option (Int × Int)
 | 0,_,_=>none
 | n+1,i3,i4 =>
  bif decide (i4<2) then
   (
    bif (i2==1) then some r4 else
    some r3).bind fun i5 =>
   (
    bif (i4==0) then some (W64 (i5*r7)) else
    some (W64 (i5*r8))).bind fun i6 =>
   bif decide (i6 > 0) then
    (idx a_0.Bh (W64 ((W64 ((W64 ((W64 (r2+i2))*(a_0.Bj.length:Int)))+r6))+i4))).bind fun y1 =>
    qcj a_0 r2 r3 r4 r6 r7 r8 i2 n (W64 (i3+(W64 (i6*y1)))) (W64 (i4+1))
   else
    qcj a_0 r2 r3 r4 r6 r7 r8 i2 n i3 (W64 (i4+1))
  else
   some (i3,i4)
def qdT (a_0:qr) (r2:Int) (r3:Int) (r4:Int) (r6:Int) (r7:Int) (r8:Int):Nat→Int→Int→Option (Int × Int)
 | 0,_,_=>none
 | n+1,i1,i2 =>
  bif decide (i2<2) then
   (qcj a_0 r2 r3 r4 r6 r7 r8 i2 n i1 0).bind fun o=>match o with
   | (i3,_) =>
    qdT a_0 r2 r3 r4 r6 r7 r8 n i3 (W64 (i2+1))
  else
   some (i1,i2)
def qhh (n:Nat) (a_0:qr) (a_1:Int) (a_2:Int) (a_3:Int):Option Int :=
 (qe4 n a_0.Bm a_1).bind fun o=>match o with
  | (r2,r3,r4) =>
   (qe4 n a_0.Bj a_2).bind fun o=>match o with
    | (r6,r7,r8) =>
     (qdT a_0 r2 r3 r4 r6 r7 r8 n 0 0).bind fun o=>match o with
     | (i1,_) =>
      (qcx n i1 (W64 ((W64 (r3+r4))*(W64 (r7+r8)))) a_3).bind fun r9 =>
      some r9
theorem qmW {a_0:qr} {a_1:Int} {a_2:Int} {a_3:Int} (ha1:Ro w a_0 cs1) {r:Int} (hF:qhh n a_0 a_1 a_2 a_3=some r):RetV Tryz.prog 121 [GoT.v qr cs1,.int .i64 a_1,.int .i64 a_2,.int .i64 a_3] w r:=by
 obtain ⟨p1,k1,p2,k2,p3,k3,rfl,s1,s2,s3⟩:=qaE ha1
 refine zV 88 Tryz.func121 rfl fun h=>zSR (qv h rfl rfl fun w1 bb1 h=>X1 7 0 h rfl ?_)
 obtain ⟨r1,hr1,hF⟩:=qc hF
 obtain ⟨r2,r3,r4⟩:=r1
 refine qa5 (r2,r3,r4) h (cB 167 rfl) (qk6 ⟨_,_,rfl,(h.oldS s1)⟩ hr1) rfl rfl rfl rfl fun w2 S1 us1 hv1 hr2=>?_
 obtain ⟨S2,us2,rfl,hv2,hr3⟩:=hv1.consI hr2
 obtain ⟨S3,us3,rfl,hv3,hr4⟩:=hv2.consI hr3
 obtain ⟨rfl,h⟩:=hv3.lastI hr4
 refine X1 13 0 h rfl ?_
 obtain ⟨r5,hr6,hF⟩:=qc hF
 obtain ⟨r6,r7,r8⟩:=r5
 refine qa5 (r6,r7,r8) h (cB 167 rfl) (qk6 ⟨_,_,rfl,(h.oldS s2)⟩ hr6) rfl rfl rfl rfl fun w3 S5 us4 hv5 hr7=>?_
 obtain ⟨S6,us5,rfl,hv6,hr8⟩:=hv5.consI hr7
 obtain ⟨S7,us6,rfl,hv7,hr9⟩:=hv6.consI hr8
 obtain ⟨rfl,h⟩:=hv7.lastI hr9
 refine X1 24 0 h rfl ?_
 obtain ⟨o1,hF,hK1⟩:=qc hF
 refine qm (rL (fun m e w'=>∃ (i1:Int) (i2:Int),qdT a_0 r2 r3 r4 r6 r7 r8 m i1 i2=some o1∧e=[(3,.int .i64 a_3),(4,.pointer (some ⟨bb1,0,none⟩)),(9,.int .i64 r2),(10,.int .i64 r3),(11,.int .i64 r4),(12,.int .i64 r6),(13,.int .i64 r7),(14,.int .i64 r8),(15,.int .i64 (a_0.Bj.length:Int)),(16,.int .i64 i1),(17,.int .i64 i2)]∧SH w w' [Ch.box bb1 (qgV a_0 p1 p2 p3 k1 k2 k3) 206]) n ⟨_,_,hF,rfl,h⟩ rfl ?_)
 rintro m1 e1 w4 ⟨i1,i2,hF,rfl,h⟩
 rcases m1 with _|m1
 ·cases hF
 refine X0 6 rfl (qh rfl hF ?_ ?_)<;>intro hF
 ·refine X0 7 rfl ?_
  obtain ⟨o2,hF,hK2⟩:=qc hF
  refine qm (rL (fun m e w'=>∃ (i3:Int) (i4:Int),qcj a_0 r2 r3 r4 r6 r7 r8 i2 m i3 i4=some o2∧e=[(3,.int .i64 a_3),(4,.pointer (some ⟨bb1,0,none⟩)),(9,.int .i64 r2),(10,.int .i64 r3),(11,.int .i64 r4),(12,.int .i64 r6),(13,.int .i64 r7),(14,.int .i64 r8),(15,.int .i64 (a_0.Bj.length:Int)),(16,.int .i64 i3),(17,.int .i64 i2),(18,.int .i64 i4)]∧SH w w' [Ch.box bb1 (qgV a_0 p1 p2 p3 k1 k2 k3) 206]) m1 ⟨_,_,hF,rfl,h⟩ rfl ?_)
  rintro m2 e2 w5 ⟨i3,i4,hF,rfl,h⟩
  rcases m2 with _|m2
  ·cases hF
  refine X0 6 rfl (qh rfl hF ?_ ?_)<;>intro hF
  ·refine X0 14 rfl ?_
   obtain ⟨KF2,hKF2,o4,hF,hK4⟩:=bindE hF
   refine qbe (fun e w'=>∃ (i5:Int),KF2 i5=some o2∧e=[(3,.int .i64 a_3),(4,.pointer (some ⟨bb1,0,none⟩)),(9,.int .i64 r2),(10,.int .i64 r3),(11,.int .i64 r4),(12,.int .i64 r6),(13,.int .i64 r7),(14,.int .i64 r8),(15,.int .i64 (a_0.Bj.length:Int)),(16,.int .i64 i3),(17,.int .i64 i2),(18,.int .i64 i4),(19,.int .i64 i5)]∧SH w w' [Ch.box bb1 (qgV a_0 p1 p2 p3 k1 k2 k3) 206]) ?_ ?_
   ·refine qh rfl hF ?_ ?_<;>intro hF
    ·refine X0 4 rfl ?_
     obtain rfl:=qb hF
     exact rG ⟨_,hK4,rfl,h⟩ rfl
    refine qih ?_
    obtain rfl:=qb hF
    exact rG ⟨_,hK4,rfl,h⟩ rfl
   rintro e4 w7 ⟨i5,hF,rfl,h⟩
   subst hKF2
   refine X0 6 rfl ?_
   obtain ⟨KF1,hKF1,o3,hF,hK3⟩:=bindE hF
   refine qbe (fun e w'=>∃ (i6:Int),KF1 i6=some o2∧e=[(3,.int .i64 a_3),(4,.pointer (some ⟨bb1,0,none⟩)),(9,.int .i64 r2),(10,.int .i64 r3),(11,.int .i64 r4),(12,.int .i64 r6),(13,.int .i64 r7),(14,.int .i64 r8),(15,.int .i64 (a_0.Bj.length:Int)),(16,.int .i64 i3),(17,.int .i64 i2),(18,.int .i64 i4),(19,.int .i64 i6)]∧SH w w' [Ch.box bb1 (qgV a_0 p1 p2 p3 k1 k2 k3) 206]) ?_ ?_
   ·refine qh rfl hF ?_ ?_<;>intro hF
    ·refine X0 6 rfl ?_
     obtain rfl:=qb hF
     exact rG ⟨_,hK3,rfl,h⟩ rfl
    refine X0 6 rfl ?_
    obtain rfl:=qb hF
    exact rG ⟨_,hK3,rfl,h⟩ rfl
   rintro e3 w6 ⟨i6,hF,rfl,h⟩
   subst hKF1
   refine X0 5 rfl (qh rfl hF ?_ ?_)<;>intro hF
   ·refine X1 14 0 h rfl ?_
    obtain ⟨y1,hy1,hF,he1,b1,_,q1,cs2,hp1,hq1,rfl,hc4⟩:=s3.ix hF
    exact zxe hp1 hq1 he1 rfl (zc 0 (hc4.below h.below) rfl (X0 10 rfl (rK ⟨_,_,hF,rfl,h⟩ rfl)))
   exact X0 7 rfl (rK ⟨_,_,hF,rfl,h⟩ rfl)
  refine qq rfl ?_
  obtain rfl:=qb hF;replace hF:=hK2
  exact X0 6 rfl (rK ⟨_,_,hF,rfl,h⟩ rfl)
 refine qq rfl ?_
 obtain rfl:=qb hF;replace hF:=hK1
 exact X0 11 rfl (zcI h hF qg3 rfl fun r9 w8 h hF=>X0 2 rfl (ri h hF rfl))
def qdK (y1:qD) (r1:(List Int)):Nat→(List Int)→Int→Option ((List Int) × Int)
 | 0,_,_=>none
 | n+1,x1,i1 =>
  bif decide (i1<(r1.length:Int)) then
   (idx y1.Am i1).bind fun y2 =>
   (idx x1 y2).bind fun y3 =>
   (idx y1.Bw i1).bind fun y4 =>
   (idx r1 i1).bind fun y5 =>
   (appS x1 ([W64 (y3+(W64 (y4*y5)))]:List Int)).bind fun x2 =>
   qdK y1 r1 n x2 (W64 (i1+1))
  else
   some (x1,i1)
def qgY (n:Nat) (b:qg) (net:Int):Option (List Int) :=
 (idx b.Ac net).bind fun y1 =>
 (qhS n b net).bind fun r1 =>
 (qdK y1 r1 n ([0]:List Int) 1).bind fun o=>match o with
 | (x1,_) =>
  some x1
theorem qlu {b:qg} {net:Int} (ha1:Ro w b cs1) {r:(List Int)} (hF:qgY n b net=some r):RetV Tryz.prog 168 [GoT.v qg cs1,.int .i64 net] w r:=by
 obtain ⟨p1,k1,p2,k2,p3,k3,p4,k4,p5,k5,rfl,s1,s2,s3,s4,s5⟩:=qac ha1
 refine zV 47 Tryz.func168 rfl fun h=>zSR (qv h rfl rfl fun w1 bb1 h=>X1 7 0 h rfl ?_)
 obtain ⟨y1,hy1,hF,he1,b1,_,q1,cs2,hp1,hq1,hr1,hc1⟩:=s5.ix hF
 obtain ⟨p6,k6,p7,k7,p8,k8,p9,k9,rfl,s6,s7,s8,s9⟩:=qaN hr1
 refine zxe hp1 hq1 he1 rfl (zc 0 (hc1.below h.below) rfl (qp qa h rfl rfl rfl fun w2 bb2 h=>zs 0 h rfl fun w3 h=>X1 5 1 h rfl (zcL h hF (ql1 (h.old ha1)) rfl fun r1 w4 S1 p10 k10 h hF=>X0 4 rfl (qL qa [.const (.int .i64 (0))] _ ([0]:List Int) h rfl rfl rfl rfl rfl rfl rfl rfl rfl ⟨rfl,trivial⟩ rfl fun w5 p11 S2 h=>X0 7 rfl ?_))))
 obtain ⟨o1,hF,hK1⟩:=qc hF
 refine qm ?_
 replace h:=h.pick [0,1,2] rfl
 refine rL (fun m e w'=>∃ (S3:Nat→Prop) (p12:Option Addr) (ln1:Nat) (k11:Nat) (x1:(List Int)) (i1:Int),qdK y1 r1 m x1 i1=some o1∧e=[(5,.pointer (some ⟨bb2,0,none⟩)),(6,.slice p10 r1.length k10),(7,.slice p12 ln1 k11),(8,.int .i64 i1)]∧SH w w' [Ch.own S3 (x1:List Int) [.slice p12 ln1 k11],Ch.own S1 (r1:List Int) [.slice p10 r1.length k10],Ch.box bb2 (qgI y1 p6 p7 p8 p9 k6 k7 k8 k9) 186]) n ⟨_,_,_,_,_,_,hF,rfl,h⟩ rfl ?_
 rintro m1 e1 w6 ⟨S3,p12,ln1,k11,x1,i1,hF,rfl,h⟩
 obtain rfl:=(h.sl 0 rfl).2
 rcases m1 with _|m1
 ·cases hF
 refine X0 8 rfl (qh rfl hF ?_ ?_)<;>intro hF
 ·refine zKSB (rA [] [1,2] h rfl fun w7 h=>M1 31 [0,1,2,3,4] 1 (h.pick [1,2] rfl) rfl ?_)
  obtain ⟨y2,hy2,hF,he2,b2,_,q2,cs3,hp2,hq2,rfl,hc3⟩:=s6.ix hF
  refine Ae 5 63 hp2 hq2 he2 (h.pick [1,2] rfl) rfl (Al 6 127 0 hc3 (h.pick [1,2] rfl) rfl ?_)
  obtain ⟨y3,hy3,hF,he3,b3,_,q3,cs4,hp3,hq3,rfl,hc4⟩:=(h.sl 0 rfl).1.ix hF
  refine Ax 7 255 hp3 hq3 ⟨he3.1,qC he3.2.1 (h.sl 0 rfl).2⟩ (h.pick [1,2] rfl) rfl (M1 3839 [9,10,11] 1 (h.pick [1,2] rfl) rfl ?_)
  obtain ⟨y4,hy4,hF,he4,b4,_,q4,cs5,hp4,hq4,rfl,hc5⟩:=s7.ix hF
  refine Ae 12 7935 hp4 hq4 he4 (h.pick [1,2] rfl) rfl (Al 13 16127 0 hc5 (h.pick [1,2] rfl) rfl (M0 65279 [14,15] (h.pick [1,2] rfl) rfl ?_))
  obtain ⟨y5,hy5,hF,he5,b5,_,q5,cs6,hp5,hq5,rfl,hc6⟩:=(h.sl 1 rfl).1.ix hF
  refine Ax 16 130815 hp5 hq5 ⟨he5.1,qC he5.2.1 (h.sl 1 rfl).2⟩ (h.pick [1,2] rfl) rfl (Aw 17 261887 (fun w' hw=>qjN qa (qcf (w1:=w) (S1:=fun _=>False) hw 0 rfl hy5 hp5 hq5 rfl) (j:=0) rfl rfl rfl) (h.pick [1,2] rfl) rfl ?_)
  refine M0 524031 [18] (h.pick [1,2] rfl) rfl (Ao 8 524287 rfl (zc 0 hc4 rfl (G0 1048575 [19] (h.pick [1,2] rfl) rfl (Ao 20 2097151 rfl (qL qa [.tmp 43] _ ([W64 (y3+(W64 (y4*y5)))]:List Int) h rfl rfl rfl rfl rfl rfl rfl rfl rfl ⟨rfl,trivial⟩ rfl fun w8 p13 S4 h=>Ag (h.pick [2,3] rfl) (Ao 21 4194303 rfl ?_))))))
  obtain ⟨x2,hx1,hF⟩:=qc hF
  obtain ⟨g1,hx1⟩:=qaw hx1
  refine qcC qa 1 h rfl (h.sl 0 rfl).1 (h.sl 0 rfl).2 rfl rfl rfl rfl rfl rfl rfl rfl rfl g1 hx1 rfl fun w9 p14 k12 S5 h=>G0 8388607 [22] (h.pick [2,3] rfl) rfl (Ad (X0 6 rfl ?_))
  replace h:=h.pick [1,2,3] rfl
  exact rK ⟨_,_,_,_,_,_,hF,rfl,h⟩ rfl
 refine qq rfl ?_
 obtain rfl:=qb hF;replace hF:=hK1
 refine X0 5 rfl ?_
 obtain rfl:=qb hF
 exact rO 0 h rfl ⟨rfl,trivial⟩
def qbG (b:qg) (net:Int) (mode:Int) (r1:(List Int)):Nat→(List Int)→Int→Option ((List Int) × Int)
 | 0,_,_=>none
 | n+1,x1,i1 =>
  (idx b.Ac net).bind fun y1 =>
  bif decide (i1<(y1.Bl.length:Int)) then
   (idx b.Ac net).bind fun y2 =>
   (idx y2.Bl i1).bind fun y3 =>
   (idx r1 y3).bind fun y4 =>
   (qcx n y4 1000 mode).bind fun r2 =>
   (appS x1 ([r2]:List Int)).bind fun x2 =>
   qbG b net mode r1 n x2 (W64 (i1+1))
  else
   some (x1,i1)
def qgi (n:Nat) (b:qg) (net:Int) (mode:Int):Option (List Int) :=
 (qgY n b net).bind fun r1 =>
 (qbG b net mode r1 n ([]:List Int) 0).bind fun o=>match o with
 | (x1,_) =>
  some x1
theorem qm7 {b:qg} {net:Int} {mode:Int} (ha1:Ro w b cs1) {r:(List Int)} (hF:qgi n b net mode=some r):RetV Tryz.prog 122 [GoT.v qg cs1,.int .i64 net,.int .i64 mode] w r:=by
 obtain ⟨p1,k1,p2,k2,p3,k3,p4,k4,p5,k5,rfl,s1,s2,s3,s4,s5⟩:=qac ha1
 refine zV 43 Tryz.func122 rfl fun h=>zSR (qv h rfl rfl fun w1 bb1 h=>X1 6 0 h rfl (zcL h hF (qlu (h.old ha1)) rfl fun r1 w2 S1 p6 k6 h hF=>X0 4 rfl (qL qa [] _ ([]:List Int) h rfl rfl rfl rfl rfl rfl rfl rfl rfl trivial rfl fun w3 p7 S2 h=>X0 7 rfl ?_)))
 obtain ⟨o1,hF,hK1⟩:=qc hF
 refine qm (rL (fun m e w'=>∃ (S3:Nat→Prop) (p8:Option Addr) (ln1:Nat) (k7:Nat) (x1:(List Int)) (i1:Int),qbG b net mode r1 m x1 i1=some o1∧e=[(1,.int .i64 net),(2,.int .i64 mode),(3,.pointer (some ⟨bb1,0,none⟩)),(7,.slice p6 r1.length k6),(8,.slice p8 ln1 k7),(9,.int .i64 i1)]∧SH w w' [Ch.own S3 (x1:List Int) [.slice p8 ln1 k7],Ch.own S1 (r1:List Int) [.slice p6 r1.length k6],Ch.box bb1 (qa1 b p1 p2 p3 p4 p5 k1 k2 k3 k4 k5) 51]) n ⟨_,_,_,_,_,_,hF,rfl,h⟩ rfl ?_)
 rintro m1 e1 w4 ⟨S3,p8,ln1,k7,x1,i1,hF,rfl,h⟩
 obtain rfl:=(h.sl 0 rfl).2
 rcases m1 with _|m1
 ·cases hF
 refine X1 7 2 h rfl ?_
 obtain ⟨y1,hy1,hF,he1,b1,_,q1,cs2,hp1,hq1,hr2,hc1⟩:=s5.ix hF
 obtain ⟨p9,k8,p10,k9,p11,k10,p12,k11,rfl,s6,s7,s8,s9⟩:=qaN hr2
 refine zxe hp1 hq1 he1 rfl (zp1 rfl (zc 3 (hc1.below h.below) rfl (X0 3 rfl (qh rfl hF ?_ ?_))))<;>intro hF
 ·refine X1 9 2 h rfl ?_
  obtain ⟨y2,hy2,hF,he2,b2,_,q2,cs3,hp2,hq2,hr3,hc3⟩:=s5.ix hF
  obtain ⟨p13,k12,p14,k13,p15,k14,p16,k15,rfl,s10,s11,s12,s13⟩:=qaN hr3
  refine zxe hp2 hq2 he2 rfl (zp1 rfl (zc 3 (hc3.below h.below) rfl (zp1 rfl ?_)))
  obtain ⟨y3,hy3,hF,he3,b3,_,q3,cs4,hp3,hq3,rfl,hc4⟩:=s13.ix hF
  refine zxe hp3 hq3 he3 rfl (zc 0 (hc4.below h.below) rfl ?_)
  obtain ⟨y4,hy4,hF,he4,b4,_,q4,cs5,hp4,hq4,rfl,hc5⟩:=(h.sl 1 rfl).1.ix hF
  refine zx hp4 hq4 ⟨he4.1,qC he4.2.1 (h.sl 1 rfl).2⟩ rfl (zc 0 hc5 rfl (zp1 rfl (zcI h hF qg3 rfl fun r2 w5 h hF=>qL qa [.tmp 39] _ ([r2]:List Int) h rfl rfl rfl rfl rfl rfl rfl rfl rfl ⟨rfl,trivial⟩ rfl fun w6 p17 S4 h=>?_)))
  obtain ⟨x2,hx1,hF⟩:=qc hF
  obtain ⟨g1,hx1⟩:=qaw hx1
  refine qcC qa 1 h rfl (h.sl 0 rfl).1 (h.sl 0 rfl).2 rfl rfl rfl rfl rfl rfl rfl rfl rfl g1 hx1 rfl fun w7 p18 k16 S5 h=>X0 8 rfl ?_
  replace h:=h.pick [1,2,3] rfl
  exact rK ⟨_,_,_,_,_,_,hF,rfl,h⟩ rfl
 refine qq rfl ?_
 obtain rfl:=qb hF;replace hF:=hK1
 refine X0 5 rfl ?_
 obtain rfl:=qb hF
 exact rO 0 h rfl ⟨rfl,trivial⟩
def qjV (n:Nat) (b:qg) (x:qu):Option Int :=
 (qcg n (⟨b.Ab.Aa,b.Ab.Ak,b.Ab.Aj⟩:qd)).bind fun r1 =>
 (idx r1 (W64 (x.To.tdiv 2))).bind fun y1 =>
 some y1.net
theorem qnh {b:qg} {x:qu} (ha1:Ro w b cs1) (ha2:Ro w x cs2) {r:Int} (hF:qjV n b x=some r):RetV Tryz.prog 123 [GoT.v qg cs1,GoT.v qu cs2] w r:=by
 obtain ⟨p1,k1,p2,k2,p3,k3,p4,k4,p5,k5,rfl,s1,s2,s3,s4,s5⟩:=qac ha1
 obtain rfl:=qav ha2
 refine zV 14 Tryz.func123 rfl fun h=>zSR (qv h rfl rfl fun w1 bb1 h=>qv h rfl rfl fun w2 bb2 h=>X0 3 rfl (rA [] [0,1] h rfl fun w3 h=>M2 59 [0,1,3,4,5] 1 0 (h.pick [0,1] rfl) rfl (Ao 2 63 rfl (zcL h hF (qcc (qar _ (h.oldS s2) (h.oldS s3) (h.oldS s4))) rfl fun r1 w4 S1 p6 k6 h hF=>Ag (h.pick [1,2] rfl) ?_))))
 obtain ⟨y1,hy1,hF,he1,b1,_,q1,cs3,hp1,hq1,hr2,hc1⟩:=(h.sl 0 rfl).1.ix hF
 obtain rfl:=qbL hr2
 exact Ax 6 127 hp1 hq1 ⟨he1.1,qC he1.2.1 (h.sl 0 rfl).2⟩ (h.pick [1,2] rfl) rfl (M0 255 [7] (h.pick [1,2] rfl) rfl (Ao 8 511 rfl (zc 2 hc1 rfl (G0 1023 [9] (h.pick [1,2] rfl) rfl (Ad (ri h hF rfl))))))
def qg2 (_:Nat) (c:qt) (kind:Int) (mode:Int):Option Int :=
 bif (kind==1) then
  bif (mode==0) then some c.Ar else
  some c.Az
 else
  bif (mode==0) then some c.Aq else
  some c.Ba
theorem qlK {c:qt} {kind:Int} {mode:Int} (ha1:Ro w c cs1) {r:Int} (hF:qg2 n c kind mode=some r):RetV Tryz.prog 125 [GoT.v qt cs1,.int .i64 kind,.int .i64 mode] w r:=by
 obtain rfl:=qaJ ha1
 refine zV 21 Tryz.func125 rfl fun h=>zSR (qv h rfl rfl fun w1 bb1 h=>X0 8 rfl (qh rfl hF ?_ ?_))<;>intro hF
 ·refine X0 6 rfl (qh rfl hF ?_ ?_)<;>intro hF
  ·exact X1 6 0 h rfl (ri h hF rfl)
  exact X1 7 0 h rfl (ri h hF rfl)
 refine X0 7 rfl (qh rfl hF ?_ ?_)<;>intro hF
 ·exact X1 6 0 h rfl (ri h hF rfl)
 exact X1 7 0 h rfl (ri h hF rfl)
def qbT (n:Nat) (b:qg) (c:qt) (x:qu) (slew:Int) (mode:Int):Option Int :=
 bif (x.Bf==1) then
  (qjG n b x).bind fun o=>match o with
   | (r2,r3) =>
    (idx r2.Bn (x.To.tmod 2)).bind fun y1 =>
    (qhh n y1 slew r3 mode).bind fun r4 =>
    (qg2 n c x.Bf mode).bind fun r5 =>
    (qcx n (W64 (r4*r5)) 1000 mode).bind fun r6 =>
    some r6
 else
  (qjV n b x).bind fun r7 =>
  (qgi n b r7 mode).bind fun r8 =>
  (idx r8 x.Bz).bind fun y2 =>
  (qg2 n c x.Bf mode).bind fun r9 =>
  (qcx n (W64 (y2*r9)) 1000 mode).bind fun r10 =>
  some r10
theorem qcw {b:qg} {c:qt} {x:qu} {slew:Int} {mode:Int} (ha1:Ro w b cs1) (ha2:Ro w c cs2) (ha3:Ro w x cs3) {r:Int} (hF:qbT n b c x slew mode=some r):RetV Tryz.prog 77 [GoT.v qg cs1,GoT.v qt cs2,GoT.v qu cs3,.int .i64 slew,.int .i64 mode] w r:=by
 obtain ⟨p1,k1,p2,k2,p3,k3,p4,k4,p5,k5,rfl,s1,s2,s3,s4,s5⟩:=qac ha1
 obtain rfl:=qaJ ha2
 obtain rfl:=qav ha3
 refine zV 53 Tryz.func77 rfl fun h=>zSR (qv h rfl rfl fun w1 bb1 h=>qv h rfl rfl fun w2 bb2 h=>qv h rfl rfl fun w3 bb3 h=>X1 13 0 h rfl (qh rfl hF ?_ ?_))<;>intro hF
 ·refine X2 4 2 0 h rfl ?_
  have hg1:Rg (old w) w (old w) w:=.start (fun _ h=>h)
  obtain ⟨r1,hr1,hF⟩:=qc hF
  obtain ⟨r2,r3⟩:=r1
  refine qh0 (r2,r3) hg1 h (cB 120 rfl) (qns (hg1.regOld h) (hg1.inR h ha1) (hg1.inR h ha3) hr1) rfl rfl rfl rfl fun w4 us1 B1 hg2 hu1 hz1 hv1=>?_
  have hL1:=h.ext hu1.below
  have hc2:=Up.box 1 h hu1 rfl
  have s6:=Up.R hg1 h hu1 ha2
  have ha4:=Up.boxP (x:=c) hg1 1 h hu1 rfl (hg1.inR h ha2)
  have hc3:=Up.box 0 h hu1 rfl
  have s7:=Up.R hg1 h hu1 ha3
  have ha5:=Up.boxP (x:=x) hg1 0 h hu1 rfl (hg1.inR h ha3)
  have hb1:=h.below.trans (hu1.below.mono h.below.size)
  replace h:=hz1
  obtain ⟨cs4,us2,rfl,hr2,hv2⟩:=qkp hv1
  have ha6:=hr2
  obtain ⟨p6,k6,p7,k7,rfl,s8,s9⟩:=qae hr2
  obtain ⟨cs5,rfl,hr3⟩:=qj8 hv2
  obtain rfl:=hr3
  refine zp3 rfl (qp qa h rfl rfl rfl fun w5 bb4 h=>zs 0 h rfl fun w6 h=>X1 6 0 h rfl (zc 1 (hc3.below h.below) rfl (zp1 rfl ?_)))
  obtain ⟨y1,hy1,hF,he1,b1,_,q1,cs6,hp1,hq1,hr4,hc4⟩:=s8.ix hF
  obtain ⟨p8,k8,p9,k9,p10,k10,rfl,s10,s11,s12⟩:=qaE hr4
  refine zxe hp1 hq1 he1 rfl (zc 0 (hc4.below h.below) rfl (zp3 rfl (zcI h hF (qmW (qfs y1 (h.oldS (s10.mono hg2.old)) (h.oldS (s11.mono hg2.old)) (h.oldS (s12.mono hg2.old)))) rfl fun r4 w7 h hF=>X0 5 rfl (zc 0 (hc2.below h.below) rfl (zp1 rfl (zc 2 (hc3.below h.below) rfl (zp1 rfl (zcI h hF (qlK (h.old (GoT.mono s6 hg2.old))) rfl fun r5 w8 h hF=>zp2 rfl (zcI h hF qg3 rfl fun r6 w9 h hF=>X0 2 rfl ?_)))))))))
  replace h:=h.unbase hg2.below ⟨fun _ h=>h,trivial⟩
  exact ri h hF rfl
 refine rA [] [0,2] h rfl fun w10 h=>M4 215 [0,1,2,4,6,7] 1 1 0 0 (h.pick [0,2] rfl) rfl (Ao 3 223 rfl (zcI h hF (qnh (h.old ha1) (h.old ha3)) rfl fun r7 w11 h hF=>Ag (h.pick [0,2] rfl) (Ao 5 255 rfl (zcL h hF (qm7 (h.old ha1)) rfl fun r8 w12 S1 p11 k11 h hF=>Ag (h.pick [1,3] rfl) ?_))))
 obtain ⟨y2,hy2,hF,he2,b2,_,q2,cs7,hp2,hq2,rfl,hc5⟩:=(h.sl 0 rfl).1.ix hF
 exact Ax 8 511 hp2 hq2 ⟨he2.1,qC he2.2.1 (h.sl 0 rfl).2⟩ (h.pick [1,3] rfl) rfl (Ao 9 1023 rfl (zc 0 hc5 rfl (G0 2047 [10] (h.pick [1,3] rfl) rfl (Ad (X2 7 2 1 h rfl (zcI h hF (qlK (h.old ha2)) rfl fun r9 w13 h hF=>zp2 rfl (zcI h hF qg3 rfl fun r10 w14 h hF=>X0 2 rfl (ri h hF rfl))))))))
def qdZ (a_n:Int):Nat→Int→Int→Option (Int × Int)
 | 0,_,_=>none
 | n+1,i1,i2 =>
  bif decide (i1<i2) then
   bif decide ((W64 ((W64 ((W64 ((W64 (i1+i2))+1)).tdiv 2))*(W64 ((W64 ((W64 (i1+i2))+1)).tdiv 2))))≤a_n) then qdZ a_n n (W64 ((W64 ((W64 (i1+i2))+1)).tdiv 2)) i2 else
   qdZ a_n n i1 (W64 ((W64 ((W64 ((W64 (i1+i2))+1)).tdiv 2))-1))
  else
   some (i1,i2)
def qis (n:Nat) (a_n:Int) (mode:Int):Option Int :=
 (qdZ a_n n 0 2000000000).bind fun o=>match o with
 | (i1,_) =>
  bif (mode==1) then
   bif decide ((W64 (i1*i1))<a_n) then some (W64 (i1+1)) else
   some i1
  else
   some i1
theorem qqF {a_n:Int} {mode:Int}  {r:Int} (hF:qis n a_n mode=some r):RetV Tryz.prog 169 [.int .i64 a_n,.int .i64 mode] w r:=by
 refine zV 36 Tryz.func169 rfl fun h=>X0 10 rfl ?_
 obtain ⟨o1,hF,hK1⟩:=qc hF
 refine qm (rL (fun m e w'=>∃ (i1:Int) (i2:Int),qdZ a_n m i1 i2=some o1∧e=[(0,.int .i64 a_n),(1,.int .i64 mode),(5,.int .i64 i1),(6,.int .i64 i2)]∧SH w w' []) n ⟨_,_,hF,rfl,h⟩ rfl ?_)
 rintro m1 e1 w1 ⟨i1,i2,hF,rfl,h⟩
 rcases m1 with _|m1
 ·cases hF
 refine X0 7 rfl (qh rfl hF ?_ ?_)<;>intro hF
 ·refine X0 19 rfl (qh rfl hF ?_ ?_)<;>intro hF
  ·exact X0 5 rfl (rK ⟨_,_,hF,rfl,h⟩ rfl)
  exact X0 6 rfl (rK ⟨_,_,hF,rfl,h⟩ rfl)
 refine qq rfl ?_
 obtain rfl:=qb hF;replace hF:=hK1
 refine X0 6 rfl (qj (t:=26) hF rfl ?_ ?_)<;>intro hF
 ·refine X0 12 rfl (qh rfl hF ?_ ?_)<;>intro hF
  ·exact X0 10 rfl (ri h hF rfl)
  exact X0 6 rfl (ri h hF rfl)
 exact X0 7 rfl (qbW rfl rfl (X0 6 rfl (ri h hF rfl)))
def qmQ (n:Nat) (b:qg) (net:Int) (sink:Int) (slew:Int) (mode:Int):Option Int :=
 (idx b.Ac net).bind fun y1 =>
 (idx y1.Bl sink).bind fun y2 =>
 (qgY n b net).bind fun r1 =>
 (idx r1 y2).bind fun y3 =>
 (qis n (W64 ((W64 ((W64 (1000000*slew))*slew))+(W64 ((W64 (4*y3))*y3)))) mode).bind fun r2 =>
 (qcx n r2 1000 mode).bind fun r3 =>
 some r3
theorem qqC {b:qg} {net:Int} {sink:Int} {slew:Int} {mode:Int} (ha1:Ro w b cs1) {r:Int} (hF:qmQ n b net sink slew mode=some r):RetV Tryz.prog 126 [GoT.v qg cs1,.int .i64 net,.int .i64 sink,.int .i64 slew,.int .i64 mode] w r:=by
 obtain ⟨p1,k1,p2,k2,p3,k3,p4,k4,p5,k5,rfl,s1,s2,s3,s4,s5⟩:=qac ha1
 refine zV 39 Tryz.func126 rfl fun h=>zSR (qv h rfl rfl fun w1 bb1 h=>X0 3 rfl (rA [] [0] h rfl fun w2 h=>M2 59 [0,1,3,4,5] 0 0 (h.pick [0] rfl) rfl ?_))
 obtain ⟨y1,hy1,hF,he1,b1,_,q1,cs2,hp1,hq1,hr1,hc1⟩:=s5.ix hF
 obtain ⟨p6,k6,p7,k7,p8,k8,p9,k9,rfl,s6,s7,s8,s9⟩:=qaN hr1
 refine Ae 6 123 hp1 hq1 he1 (h.pick [0] rfl) rfl (M0 251 [7] (h.pick [0] rfl) rfl (Al 8 507 3 hc1 (h.pick [0] rfl) rfl (M0 1019 [9] (h.pick [0] rfl) rfl ?_)))
 obtain ⟨y2,hy2,hF,he2,b2,_,q2,cs3,hp2,hq2,rfl,hc2⟩:=s9.ix hF
 refine Ae 10 2043 hp2 hq2 he2 (h.pick [0] rfl) rfl (Al 11 4091 0 hc2 (h.pick [0] rfl) rfl (Ao 2 4095 rfl (zcL h hF (qlu (h.old ha1)) rfl fun r1 w3 S1 p10 k10 h hF=>Ag (h.pick [1] rfl) ?_)))
 obtain ⟨y3,hy3,hF,he3,b3,_,q3,cs4,hp3,hq3,rfl,hc3⟩:=(h.sl 0 rfl).1.ix hF
 exact Ax 12 8191 hp3 hq3 ⟨he3.1,qC he3.2.1 (h.sl 0 rfl).2⟩ (h.pick [1] rfl) rfl (Ao 13 16383 rfl (zc 0 hc3 rfl (G0 32767 [14] (h.pick [1] rfl) rfl (Ad (X0 12 rfl (zcI h hF qqF rfl fun r2 w4 h hF=>zp1 rfl (zcI h hF qg3 rfl fun r3 w5 h hF=>X0 2 rfl (ri h hF rfl))))))))
def qcm (n:Nat) (b:qg) (x:qu) (slew:Int) (mode:Int):Option Int :=
 bif (x.Bf==1) then
  (qjG n b x).bind fun o=>match o with
   | (r2,r3) =>
    (idx r2.Bc (x.To.tmod 2)).bind fun y1 =>
    (qhh n y1 slew r3 mode).bind fun r4 =>
    some r4
 else
  (qjV n b x).bind fun r5 =>
  (qmQ n b r5 x.Bz slew mode).bind fun r6 =>
  some (if r6<1000000 then r6 else 1000000)
theorem qc5 {b:qg} {x:qu} {slew:Int} {mode:Int} (ha1:Ro w b cs1) (ha2:Ro w x cs2) {r:Int} (hF:qcm n b x slew mode=some r):RetV Tryz.prog 78 [GoT.v qg cs1,GoT.v qu cs2,.int .i64 slew,.int .i64 mode] w r:=by
 obtain ⟨p1,k1,p2,k2,p3,k3,p4,k4,p5,k5,rfl,s1,s2,s3,s4,s5⟩:=qac ha1
 obtain rfl:=qav ha2
 refine zV 41 Tryz.func78 rfl fun h=>zSR (qv h rfl rfl fun w1 bb1 h=>qv h rfl rfl fun w2 bb2 h=>X1 9 0 h rfl (qh rfl hF ?_ ?_))<;>intro hF
 ·refine X2 4 1 0 h rfl ?_
  have hg1:Rg (old w) w (old w) w:=.start (fun _ h=>h)
  obtain ⟨r1,hr1,hF⟩:=qc hF
  obtain ⟨r2,r3⟩:=r1
  refine qh0 (r2,r3) hg1 h (cB 120 rfl) (qns (hg1.regOld h) (hg1.inR h ha1) (hg1.inR h ha2) hr1) rfl rfl rfl rfl fun w3 us1 B1 hg2 hu1 hz1 hv1=>?_
  have hL1:=h.ext hu1.below
  have hc2:=Up.box 0 h hu1 rfl
  have s6:=Up.R hg1 h hu1 ha2
  have ha3:=Up.boxP (x:=x) hg1 0 h hu1 rfl (hg1.inR h ha2)
  have hb1:=h.below.trans (hu1.below.mono h.below.size)
  replace h:=hz1
  obtain ⟨cs3,us2,rfl,hr2,hv2⟩:=qkp hv1
  have ha4:=hr2
  obtain ⟨p6,k6,p7,k7,rfl,s7,s8⟩:=qae hr2
  obtain ⟨cs4,rfl,hr3⟩:=qj8 hv2
  obtain rfl:=hr3
  refine zp3 rfl (qp qa h rfl rfl rfl fun w4 bb3 h=>zs 0 h rfl fun w5 h=>X1 7 0 h rfl (zc 1 (hc2.below h.below) rfl (zp1 rfl ?_)))
  obtain ⟨y1,hy1,hF,he1,b1,_,q1,cs5,hp1,hq1,hr4,hc3⟩:=s8.ix hF
  obtain ⟨p8,k8,p9,k9,p10,k10,rfl,s9,s10,s11⟩:=qaE hr4
  refine zxe hp1 hq1 he1 rfl (zc 0 (hc3.below h.below) rfl (zp3 rfl (zcI h hF (qmW (qfs y1 (h.oldS (s9.mono hg2.old)) (h.oldS (s10.mono hg2.old)) (h.oldS (s11.mono hg2.old)))) rfl fun r4 w6 h hF=>X0 2 rfl ?_)))
  replace h:=h.unbase hg2.below ⟨fun _ h=>h,trivial⟩
  exact ri h hF rfl
 refine zKS (rD (Y1 1 1 h rfl ?_))
 refine Y1 1 1 h rfl ?_
 refine Y1 1 0 h rfl ?_
 obtain ⟨r5,hr6,hF⟩:=qc hF
 refine qa0 r5 (vsI _) (cB 123 rfl) (fun _ hb=>qnh ((h.ext hb).old ha1) ((h.ext hb).old ha2) hr6) rfl rfl rfl rfl (Y1 2 0 h rfl ?_)
 refine zd2 rfl ?_
 obtain ⟨r6,hr7,hF⟩:=qc hF
 exact qa0 r6 (vsI _) (cB 126 rfl) (fun _ hb=>qqC ((h.ext hb).old ha1) hr7) rfl rfl rfl rfl (zd2 rfl (dN h fun w7 h=>ri h hF rfl))
def qhN (n:Nat) (a_0:qg) (a_1:qt) (a_2:qu) (a_3:qf):Option (qf × qf) :=
 (qbT n a_0 a_1 a_2 a_3.Ap 0).bind fun r1 =>
 (qbT n a_0 a_1 a_2 a_3.Ap 1).bind fun r2 =>
 (qcm n a_0 a_2 a_3.Ap 0).bind fun r3 =>
 (qcm n a_0 a_2 a_3.Ap 1).bind fun r4 =>
 (qbT n a_0 a_1 a_2 a_3.Be 0).bind fun r5 =>
 (qbT n a_0 a_1 a_2 a_3.Be 1).bind fun r6 =>
 (qcm n a_0 a_2 a_3.Be 0).bind fun r7 =>
 (qcm n a_0 a_2 a_3.Be 1).bind fun r8 =>
 some ((⟨(if r5<r1 then r5 else r1),(if r6 > r2 then r6 else r2)⟩:qf),(⟨(if r7<r3 then r7 else r3),(if r8 > r4 then r8 else r4)⟩:qf))
theorem qfW {a_0:qg} {a_1:qt} {a_2:qu} {a_3:qf} (ha1:Ro w a_0 cs1) (ha2:Ro w a_1 cs2) (ha3:Ro w a_2 cs3) (ha4:Ro w a_3 cs4) {r:(qf × qf)} (hF:qhN n a_0 a_1 a_2 a_3=some r):RetV Tryz.prog 98 [GoT.v qg cs1,GoT.v qt cs2,GoT.v qu cs3,GoT.v qf cs4] w r:=by
 obtain ⟨p1,k1,p2,k2,p3,k3,p4,k4,p5,k5,rfl,s1,s2,s3,s4,s5⟩:=qac ha1
 obtain rfl:=qaJ ha2
 obtain rfl:=qav ha3
 obtain rfl:=qz ha4
 refine zV 76 Tryz.func98 rfl fun h=>zSR (qv h rfl rfl fun w1 bb1 h=>qv h rfl rfl fun w2 bb2 h=>qv h rfl rfl fun w3 bb3 h=>qv h rfl rfl fun w4 bb4 h=>qp qa h rfl rfl rfl fun w5 bb5 h=>qp qa h rfl rfl rfl fun w6 bb6 h=>zNS ?_)
 obtain ⟨r1,hr1,hF⟩:=qc hF
 obtain ⟨r2,hr2,hF⟩:=qc hF
 refine qbe (fun e w'=>∃ (bb11:Nat),e=[(4,.pointer (some ⟨bb1,0,none⟩)),(5,.pointer (some ⟨bb2,0,none⟩)),(6,.pointer (some ⟨bb3,0,none⟩)),(7,.pointer (some ⟨bb4,0,none⟩)),(8,.pointer (some ⟨bb5,0,none⟩)),(9,.pointer (some ⟨bb6,0,none⟩)),(10,.pointer (some ⟨bb11,0,none⟩))]∧SH w w' [Ch.box bb11 [.int .i64 r1,.int .i64 r2] 86,Ch.box bb6 [.int .i64 0,.int .i64 0] 86,Ch.box bb5 [.int .i64 0,.int .i64 0] 86,Ch.box bb4 (qh4 a_3) 86,Ch.box bb3 (qkt a_2) 121,Ch.box bb2 (qb2 a_1) 52,Ch.box bb1 (qa1 a_0 p1 p2 p3 p4 p5 k1 k2 k3 k4 k5) 51]) ?_ ?_
 ·refine rA [14] [2,3,4,5] h rfl fun w11 h=>M4 31 [0,1,2,3,4] 3 2 1 0 (h.pick [2,3,4,5] rfl) rfl (M4 2015 [6,7,8,9,10] 3 2 1 0 (h.pick [2,3,4,5] rfl) rfl (At 5 13 2047 10207 rfl ?_ ?_))
  ·refine qcl r1 h (cB 77 rfl) (qcw (h.old ha1) (h.old ha2) (h.old ha3) hr1) rfl rfl rfl rfl fun w23 h=>Ag (h.pick [2,3,4,5] rfl) (At 11 13 4095 10239 rfl ?_ ?_)
   ·refine qcl r2 h (cB 77 rfl) (qcw (h.old ha1) (h.old ha2) (h.old ha3) hr2) rfl rfl rfl rfl fun w24 h=>Ag (h.pick [2,3,4,5] rfl) (Aw 12 8191 (fun w' hw=>qaa qa [0,1] [.tmp 17,.tmp 23] rfl rfl rfl rfl rfl rfl rfl rfl) (h.pick [2,3,4,5] rfl) rfl ?_)
    exact Ao 13 16383 rfl (qp qa h rfl rfl rfl fun w25 bb12 h=>Ag (h.pick [3,4,5,6] rfl) (Ao 14 32767 rfl (zs 0 h rfl fun w26 h=>qbE (fun hs=>absurd (hs 14 (by decide)) (by decide)) (Ad (rG ⟨_,rfl,h⟩ rfl)))))
   refine qp qa h rfl rfl rfl fun w27 bb13 h=>Ag (h.pick [3,4,5,6] rfl) (Ao 11 12287 rfl (qcl r2 h (cB 77 rfl) (qcw (h.old ha1) (h.old ha2) (h.old ha3) hr2) rfl rfl rfl rfl fun w28 h=>Ag (h.pick [3,4,5,6] rfl) (Aw 12 16383 (fun w' hw=>qaa qa [0,1] [.tmp 17,.tmp 23] rfl rfl rfl rfl rfl rfl rfl rfl) (h.pick [3,4,5,6] rfl) rfl ?_)))
   exact Ao 14 32767 rfl (zs 0 h rfl fun w29 h=>qbE (fun hs=>absurd (hs 14 (by decide)) (by decide)) (Ad (rG ⟨_,rfl,h⟩ rfl)))
  refine qp qa h rfl rfl rfl fun w30 bb14 h=>Ag (h.pick [3,4,5,6] rfl) (Ao 5 10239 rfl (qcl r1 h (cB 77 rfl) (qcw (h.old ha1) (h.old ha2) (h.old ha3) hr1) rfl rfl rfl rfl fun w31 h=>Ag (h.pick [3,4,5,6] rfl) (Ao 11 12287 rfl (qcl r2 h (cB 77 rfl) (qcw (h.old ha1) (h.old ha2) (h.old ha3) hr2) rfl rfl rfl rfl fun w32 h=>Ag (h.pick [3,4,5,6] rfl) (Aw 12 16383 (fun w' hw=>qaa qa [0,1] [.tmp 17,.tmp 23] rfl rfl rfl rfl rfl rfl rfl rfl) (h.pick [3,4,5,6] rfl) rfl ?_)))))
  exact Ao 14 32767 rfl (zs 0 h rfl fun w33 h=>qbE (fun hs=>absurd (hs 14 (by decide)) (by decide)) (Ad (rG ⟨_,rfl,h⟩ rfl)))
 rintro e1 w34 ⟨bb11,rfl,h⟩
 refine qcP ?_
 obtain ⟨r3,hr3,hF⟩:=qc hF
 obtain ⟨r4,hr4,hF⟩:=qc hF
 refine qbe (fun e w'=>∃ (bb19:Nat),e=[(4,.pointer (some ⟨bb1,0,none⟩)),(5,.pointer (some ⟨bb2,0,none⟩)),(6,.pointer (some ⟨bb3,0,none⟩)),(7,.pointer (some ⟨bb4,0,none⟩)),(8,.pointer (some ⟨bb5,0,none⟩)),(9,.pointer (some ⟨bb6,0,none⟩)),(10,.pointer (some ⟨bb11,0,none⟩)),(11,.pointer (some ⟨bb19,0,none⟩))]∧SH w w' [Ch.box bb19 [.int .i64 r3,.int .i64 r4] 86,Ch.box bb11 [.int .i64 r1,.int .i64 r2] 86,Ch.box bb6 [.int .i64 0,.int .i64 0] 86,Ch.box bb5 [.int .i64 0,.int .i64 0] 86,Ch.box bb4 (qh4 a_3) 86,Ch.box bb3 (qkt a_2) 121,Ch.box bb2 (qb2 a_1) 52,Ch.box bb1 (qa1 a_0 p1 p2 p3 p4 p5 k1 k2 k3 k4 k5) 51]) ?_ ?_
 ·refine rA [12] [3,4,6] h rfl fun w39 h=>M4 47 [0,1,2,3,5] 2 1 0 2 (h.pick [3,4,6] rfl) rfl (M2 495 [6,7,8] 1 0 (h.pick [3,4,6] rfl) rfl (At 4 11 511 2543 rfl ?_ ?_))
  ·refine qcl r3 h (cB 78 rfl) (qc5 (h.old ha1) (h.old ha3) hr3) rfl rfl rfl rfl fun w51 h=>Ag (h.pick [3,4,6] rfl) (At 9 11 1023 2559 rfl ?_ ?_)
   ·refine qcl r4 h (cB 78 rfl) (qc5 (h.old ha1) (h.old ha3) hr4) rfl rfl rfl rfl fun w52 h=>Ag (h.pick [3,4,6] rfl) (Aw 10 2047 (fun w' hw=>qaa qa [0,1] [.tmp 29,.tmp 34] rfl rfl rfl rfl rfl rfl rfl rfl) (h.pick [3,4,6] rfl) rfl ?_)
    exact Ao 11 4095 rfl (qp qa h rfl rfl rfl fun w53 bb20 h=>Ag (h.pick [4,5,7] rfl) (Ao 12 8191 rfl (zs 0 h rfl fun w54 h=>qbE (fun hs=>absurd (hs 12 (by decide)) (by decide)) (Ad (rG ⟨_,rfl,h⟩ rfl)))))
   refine qp qa h rfl rfl rfl fun w55 bb21 h=>Ag (h.pick [4,5,7] rfl) (Ao 9 3071 rfl (qcl r4 h (cB 78 rfl) (qc5 (h.old ha1) (h.old ha3) hr4) rfl rfl rfl rfl fun w56 h=>Ag (h.pick [4,5,7] rfl) (Aw 10 4095 (fun w' hw=>qaa qa [0,1] [.tmp 29,.tmp 34] rfl rfl rfl rfl rfl rfl rfl rfl) (h.pick [4,5,7] rfl) rfl ?_)))
   exact Ao 12 8191 rfl (zs 0 h rfl fun w57 h=>qbE (fun hs=>absurd (hs 12 (by decide)) (by decide)) (Ad (rG ⟨_,rfl,h⟩ rfl)))
  refine qp qa h rfl rfl rfl fun w58 bb22 h=>Ag (h.pick [4,5,7] rfl) (Ao 4 2559 rfl (qcl r3 h (cB 78 rfl) (qc5 (h.old ha1) (h.old ha3) hr3) rfl rfl rfl rfl fun w59 h=>Ag (h.pick [4,5,7] rfl) (Ao 9 3071 rfl (qcl r4 h (cB 78 rfl) (qc5 (h.old ha1) (h.old ha3) hr4) rfl rfl rfl rfl fun w60 h=>Ag (h.pick [4,5,7] rfl) (Aw 10 4095 (fun w' hw=>qaa qa [0,1] [.tmp 29,.tmp 34] rfl rfl rfl rfl rfl rfl rfl rfl) (h.pick [4,5,7] rfl) rfl ?_)))))
  exact Ao 12 8191 rfl (zs 0 h rfl fun w61 h=>qbE (fun hs=>absurd (hs 12 (by decide)) (by decide)) (Ad (rG ⟨_,rfl,h⟩ rfl)))
 rintro e2 w62 ⟨bb19,rfl,h⟩
 refine qcP (rA [10] [1,4,5,6,7] h rfl fun w63 h=>M4 63 [0,1,2,3,4,5] 0 4 3 2 (h.pick [1,4,5,6,7] rfl) rfl (M1 127 [6] 1 (h.pick [1,4,5,6,7] rfl) rfl (Ao 7 255 rfl (zcI h hF (qcw (h.old ha1) (h.old ha2) (h.old ha3)) rfl fun r5 w64 h hF=>G0 1023 [8,9] (h.pick [1,4,5,6,7] rfl) rfl (Ao 10 2047 rfl (zs 1 h rfl fun w65 h=>qbE (fun hs=>absurd (hs 10 (by decide)) (by decide)) (Ad (qcP (rA [10] [1,4,5,6,7] h rfl fun w66 h=>M4 63 [0,1,2,3,4,5] 0 4 3 2 (h.pick [1,4,5,6,7] rfl) rfl (M1 127 [6] 1 (h.pick [1,4,5,6,7] rfl) rfl (Ao 7 255 rfl (zcI h hF (qcw (h.old ha1) (h.old ha2) (h.old ha3)) rfl fun r6 w67 h hF=>G0 1023 [8,9] (h.pick [1,4,5,6,7] rfl) rfl (Ao 10 2047 rfl (zs 1 h rfl fun w68 h=>qbE (fun hs=>absurd (hs 10 (by decide)) (by decide)) (Ad (qcP (rA [9] [0,4,5,7] h rfl fun w69 h=>M4 63 [0,1,2,3,4,5] 0 3 2 1 (h.pick [0,4,5,7] rfl) rfl (Ao 6 127 rfl (zcI h hF (qc5 (h.old ha1) (h.old ha3)) rfl fun r7 w70 h hF=>G0 511 [7,8] (h.pick [0,4,5,7] rfl) rfl (Ao 9 1023 rfl (zs 0 h rfl fun w71 h=>qbE (fun hs=>absurd (hs 9 (by decide)) (by decide)) (Ad (qcP (rA [9] [0,4,5,7] h rfl fun w72 h=>M4 63 [0,1,2,3,4,5] 0 3 2 1 (h.pick [0,4,5,7] rfl) rfl (Ao 6 127 rfl (zcI h hF (qc5 (h.old ha1) (h.old ha3)) rfl fun r8 w73 h hF=>G0 511 [7,8] (h.pick [0,4,5,7] rfl) rfl (Ao 9 1023 rfl (zs 0 h rfl fun w74 h=>qbE (fun hs=>absurd (hs 9 (by decide)) (by decide)) (Ad (qcP (rA [] [0,1] h rfl fun w75 h=>M2 3 [0,1] 1 0 (h.pick [0,1] rfl) rfl (Ao 2 7 rfl (zs 3 h rfl fun w76 h=>Ag (h.pick [0,1] rfl) (Ao 3 15 rfl (zs 2 h rfl fun w77 h=>Ag (h.pick [0,1] rfl) (Ad ?_))))))))))))))))))))))))))))))))))))
 obtain rfl:=qb hF
 exact qT qa (ρ:=(qf × qf)) [GoT.v qf [.int .i64 (if r5<r1 then r5 else r1),.int .i64 (if r6 > r2 then r6 else r2)],GoT.v qf [.int .i64 (if r7<r3 then r7 else r3),.int .i64 (if r8 > r4 then r8 else r4)]] h ⟨⟨_,_,_,rfl,rfl,h.box 3 rfl,rfl⟩,⟨_,_,_,rfl,rfl,h.box 2 rfl,rfl⟩,trivial⟩ (PV.done h (qak h (qx (S:=fun _=>False) (qA (⟨(if r5<r1 then r5 else r1),(if r6 > r2 then r6 else r2)⟩:qf))) (qZ (qx (S:=fun _=>False) (qA (⟨(if r7<r3 then r7 else r3),(if r8 > r4 then r8 else r4)⟩:qf)))) (by rfl)))
def qkA (_:Nat) (a:qf) (b:qf):Option qf :=
 some (⟨(if b.Ap<a.Ap then b.Ap else a.Ap),(if b.Be > a.Be then b.Be else a.Be)⟩:qf)
theorem qm2 {a:qf} {b:qf} (ha1:Ro w a cs1) (ha2:Ro w b cs2) {r:qf} (hF:qkA n a b=some r):RetV Tryz.prog 183 [GoT.v qf cs1,GoT.v qf cs2] w r:=by
 obtain rfl:=qz ha1
 obtain rfl:=qz ha2
 refine zV 16 Tryz.func183 rfl fun h=>zSR (qv h rfl rfl fun w1 bb1 h=>qv h rfl rfl fun w2 bb2 h=>qp qa h rfl rfl rfl fun w3 bb3 h=>X4 13 2 1 2 1 h rfl (r_v (qaa qa [0,1] [.tmp 9,.tmp 14] rfl rfl rfl rfl rfl rfl rfl rfl) rfl (zs 0 h rfl fun w4 h=>qcH ?_)))
 obtain rfl:=qb hF
 exact qT qa (ρ:=qf) [GoT.v qf [.int .i64 (if b.Ap<a.Ap then b.Ap else a.Ap),.int .i64 (if b.Be > a.Be then b.Be else a.Be)]] h ⟨⟨_,_,_,rfl,rfl,h.box 0 rfl,rfl⟩,trivial⟩ (PV.done h (qZ (qx (S:=fun _=>False) (qA (⟨(if b.Ap<a.Ap then b.Ap else a.Ap),(if b.Be > a.Be then b.Be else a.Be)⟩:qf)))))
end Go.Fw


namespace Go.Fw
open Go Go.Proofs
open Go.RowKit (Below)
set_option maxRecDepth 100000
set_option maxHeartbeats 1600000
variable {n:Nat} {w:World} {cs1 cs2 cs3 cs4 cs5 cs6 cs7 cs8 cs9:List Value}
def qc8 (a_0:qg) (a_1:qt) (a_2:(List qu)) (a_3:(List Bool)) (a_5:qy) (a_6:Int):Nat→Int→Int→Int→Int→Int→Bool→Int→Option (Int × Int × Int × Int × Int × Bool × Int)
 | 0,_,_,_,_,_,_,_=>none
 | n+1,i7,i8,i9,i10,i11,b4,i12 =>
  bif decide (i12<(a_2.length:Int)) then
   (idx a_2 i12).bind fun y3 =>
   (
    (idx a_3 i12).bind fun y16 =>
    bif (!y16) then some true else
    bif (y3.To != a_6) then some true else
    (idx a_5.Bg y3.Bk).bind fun y17 =>
    some (!y17)).bind fun b6 =>
   bif b6 then qc8 a_0 a_1 a_2 a_3 a_5 a_6 n i7 i8 i9 i10 i11 b4 (W64 (i12+1)) else
   (idx a_5.Bc y3.Bk).bind fun y4 =>
   (qhN n a_0 a_1 y3 y4).bind fun o=>match o with
    | (r2,r3) =>
     (idx a_5.Ai y3.Bk).bind fun y14 =>
     (idx a_5.Ai y3.Bk).bind fun y15 =>
     bif b4 then
      (qkA n (⟨W64 (y14.Ap+r2.Ap),W64 (y15.Be+r2.Be)⟩:qf) (⟨i8,i9⟩:qf)).bind fun r8 =>
      (qkA n r3 (⟨i10,i11⟩:qf)).bind fun r9 =>
      qc8 a_0 a_1 a_2 a_3 a_5 a_6 n a_6 r8.Ap r8.Be r9.Ap r9.Be true (W64 (i12+1))
     else
      qc8 a_0 a_1 a_2 a_3 a_5 a_6 n a_6 (W64 (y14.Ap+r2.Ap)) (W64 (y15.Be+r2.Be)) r3.Ap r3.Be true (W64 (i12+1))
  else
   some (i7,i8,i9,i10,i11,b4,i12)
def qc2 (a_4:(List qe)) (a_6:Int):Nat→Int→Int→Int→Int→Int→Bool→Int→Option (Int × Int × Int × Int × Int × Bool × Int)
 | 0,_,_,_,_,_,_,_=>none
 | n+1,i1,i2,i3,i4,i5,b1,i6 =>
  bif decide (i6<(a_4.length:Int)) then
   (idx a_4 i6).bind fun y1 =>
   bif (y1.Bq==a_6) then
    (idx a_4 i6).bind fun y2 =>
    qc2 a_4 a_6 n y2.Bq y2.Ai.Ap y2.Ai.Be y2.Bc.Ap y2.Bc.Be true (W64 (i6+1))
   else
    qc2 a_4 a_6 n i1 i2 i3 i4 i5 b1 (W64 (i6+1))
  else
   some (i1,i2,i3,i4,i5,b1,i6)
def qiO (n:Nat) (a_0:qg) (a_1:qt) (a_2:(List qu)) (a_3:(List Bool)) (a_4:(List qe)) (a_5:qy) (a_6:Int):Option (Bool × qe) :=
 (qc2 a_4 a_6 n 0 0 0 0 0 false 0).bind fun o=>match o with
 | (i1,i2,i3,i4,i5,b1,_) =>
  (qc8 a_0 a_1 a_2 a_3 a_5 a_6 n i1 i2 i3 i4 i5 b1 0).bind fun o=>match o with
  | (i7,i8,i9,i10,i11,b4,_) =>
   some (b4,(⟨i7,(⟨i8,i9⟩:qf),(⟨i10,i11⟩:qf)⟩:qe))
theorem qqz {a_0:qg} {a_1:qt} {a_2:(List qu)} {a_3:(List Bool)} {a_4:(List qe)} {a_5:qy} {a_6:Int} (ha1:Ro w a_0 cs1) (ha2:Ro w a_1 cs2) (ha3:Ro w a_2 cs3) (ha4:Ro w a_3 cs4) (ha5:Ro w a_4 cs5) (ha6:Ro w a_5 cs6) {r:(Bool × qe)} (hF:qiO n a_0 a_1 a_2 a_3 a_4 a_5 a_6=some r):RetV Tryz.prog 150 [GoT.v qg cs1,GoT.v qt cs2,GoT.v (List qu) cs3,GoT.v (List Bool) cs4,GoT.v (List qe) cs5,GoT.v qy cs6,.int .i64 a_6] w r:=by
 obtain ⟨p1,k1,p2,k2,p3,k3,p4,k4,p5,k5,rfl,s1,s2,s3,s4,s5⟩:=qac ha1
 obtain rfl:=qaJ ha2
 obtain ⟨p6,k6,rfl,s6⟩:=ha3
 obtain ⟨p7,k7,rfl,s7⟩:=ha4
 obtain ⟨p8,k8,rfl,s8⟩:=ha5
 obtain ⟨p9,k9,p10,k10,p11,k11,rfl,s9,s10,s11⟩:=qcN ha6
 refine zV 121 Tryz.func150 rfl fun h=>zSR (qv h rfl rfl fun w1 bb1 h=>qv h rfl rfl fun w2 bb2 h=>qv h rfl rfl fun w3 bb3 h=>zp1 rfl (qp qa h rfl rfl rfl fun w4 bb4 h=>X0 7 rfl (r_v (qaa qa [] [] rfl rfl rfl rfl rfl rfl rfl rfl) rfl (qp qa h rfl rfl rfl fun w5 bb5 h=>zs 0 h rfl fun w6 h=>X0 6 rfl ?_))))
 obtain ⟨o1,hF,hK1⟩:=qc hF
 refine qm (rL (fun m e w'=>∃ (i1:Int) (i2:Int) (i3:Int) (i4:Int) (i5:Int) (b1:Bool) (i6:Int),qc2 a_4 a_6 m i1 i2 i3 i4 i5 b1 i6=some o1∧e=[(2,.slice p6 a_2.length k6),(3,.slice p7 a_3.length k7),(4,.slice p8 a_4.length k8),(6,.int .i64 a_6),(7,.pointer (some ⟨bb1,0,none⟩)),(8,.pointer (some ⟨bb2,0,none⟩)),(12,.pointer (some ⟨bb3,0,none⟩)),(15,.pointer (some ⟨bb4,0,none⟩)),(16,.bool b1),(17,.pointer (some ⟨bb5,0,none⟩)),(18,.int .i64 i6)]∧SH w w' [Ch.box bb5 [.int .i64 i1,.int .i64 i2,.int .i64 i3,.int .i64 i4,.int .i64 i5] 116,Ch.box bb4 [.int .i64 0,.int .i64 0,.int .i64 0,.int .i64 0,.int .i64 0] 116,Ch.box bb3 (qbK a_5 p9 p10 p11 k9 k10 k11) 107,Ch.box bb2 (qb2 a_1) 52,Ch.box bb1 (qa1 a_0 p1 p2 p3 p4 p5 k1 k2 k3 k4 k5) 51]) n ⟨_,_,_,_,_,_,_,hF,rfl,h⟩ rfl ?_)
 rintro m1 e1 w7 ⟨i1,i2,i3,i4,i5,b1,i6,hF,rfl,h⟩
 rcases m1 with _|m1
 ·cases hF
 refine X0 8 rfl (qh rfl hF ?_ ?_)<;>intro hF
 ·refine X0 7 rfl ?_
  obtain ⟨y1,hy1,hF,he1,b2,_,q1,cs7,hp1,hq1,hr1,hc2⟩:=s8.ix hF
  obtain rfl:=qE hr1
  refine zxe hp1 hq1 he1 rfl (zp1 rfl (zc 0 (hc2.below h.below) rfl (X0 3 rfl (qh rfl hF ?_ ?_))))<;>intro hF
  ·refine X0 7 rfl ?_
   obtain ⟨y2,hy2,hF,he2,b3,_,q2,cs8,hp2,hq2,hr2,hc4⟩:=s8.ix hF
   obtain rfl:=qE hr2
   exact zxe hp2 hq2 he2 rfl (zc 0 (hc4.below h.below) rfl (zs 0 h rfl fun w8 h=>X0 7 rfl (rK ⟨_,_,_,_,_,_,_,hF,rfl,h⟩ rfl)))
  exact X0 7 rfl (rK ⟨_,_,_,_,_,_,_,hF,rfl,h⟩ rfl)
 refine qq rfl ?_
 obtain rfl:=qb hF;replace hF:=hK1
 refine X0 5 rfl ?_
 obtain ⟨o2,hF,hK2⟩:=qc hF
 refine qm (rL (fun m e w'=>∃ (i7:Int) (i8:Int) (i9:Int) (i10:Int) (i11:Int) (b4:Bool) (i12:Int),qc8 a_0 a_1 a_2 a_3 a_5 a_6 m i7 i8 i9 i10 i11 b4 i12=some o2∧e=[(2,.slice p6 a_2.length k6),(3,.slice p7 a_3.length k7),(6,.int .i64 a_6),(7,.pointer (some ⟨bb1,0,none⟩)),(8,.pointer (some ⟨bb2,0,none⟩)),(12,.pointer (some ⟨bb3,0,none⟩)),(15,.pointer (some ⟨bb4,0,none⟩)),(16,.bool b4),(17,.pointer (some ⟨bb5,0,none⟩)),(19,.int .i64 i12)]∧SH w w' [Ch.box bb5 [.int .i64 i7,.int .i64 i8,.int .i64 i9,.int .i64 i10,.int .i64 i11] 116,Ch.box bb4 [.int .i64 0,.int .i64 0,.int .i64 0,.int .i64 0,.int .i64 0] 116,Ch.box bb3 (qbK a_5 p9 p10 p11 k9 k10 k11) 107,Ch.box bb2 (qb2 a_1) 52,Ch.box bb1 (qa1 a_0 p1 p2 p3 p4 p5 k1 k2 k3 k4 k5) 51]) n ⟨_,_,_,_,_,_,_,hF,rfl,h⟩ rfl ?_)
 rintro m2 e2 w9 ⟨i7,i8,i9,i10,i11,b4,i12,hF,rfl,h⟩
 rcases m2 with _|m2
 ·cases hF
 refine X0 8 rfl (qh rfl hF ?_ ?_)<;>intro hF
 ·refine X0 7 rfl ?_
  obtain ⟨y3,hy3,hF,he3,b5,_,q3,cs9,hp3,hq3,hr3,hc6⟩:=s6.ix hF
  obtain rfl:=qav hr3
  refine zxe hp3 hq3 he3 rfl (zc 0 (hc6.below h.below) rfl (qp qa h rfl rfl rfl fun w10 bb6 h=>zs 0 h rfl fun w11 h=>zNSS ?_))
  obtain ⟨KF3,hKF3,o4,hF,hK4⟩:=bindE hF
  refine qbe (fun e w'=>∃ (b6:Bool),KF3 b6=some o2∧e=[(2,.slice p6 a_2.length k6),(3,.slice p7 a_3.length k7),(6,.int .i64 a_6),(7,.pointer (some ⟨bb1,0,none⟩)),(8,.pointer (some ⟨bb2,0,none⟩)),(12,.pointer (some ⟨bb3,0,none⟩)),(15,.pointer (some ⟨bb4,0,none⟩)),(16,.bool b4),(17,.pointer (some ⟨bb5,0,none⟩)),(19,.int .i64 i12),(20,.pointer (some ⟨bb6,0,none⟩)),(71,.bool b6)]∧SH w w' [Ch.box bb6 (qkt y3) 121,Ch.box bb5 [.int .i64 i7,.int .i64 i8,.int .i64 i9,.int .i64 i10,.int .i64 i11] 116,Ch.box bb4 [.int .i64 0,.int .i64 0,.int .i64 0,.int .i64 0,.int .i64 0] 116,Ch.box bb3 (qbK a_5 p9 p10 p11 k9 k10 k11) 107,Ch.box bb2 (qb2 a_1) 52,Ch.box bb1 (qa1 a_0 p1 p2 p3 p4 p5 k1 k2 k3 k4 k5) 51]) ?_ ?_
  ·refine X0 3 rfl ?_
   obtain ⟨y16,hy16,hF,he16,b17,_,q16,cs41,hp16,hq16,rfl,hc22⟩:=s7.ix hF
   refine zxe hp16 hq16 he16 rfl (zc 0 (hc22.below h.below) rfl (zp2 rfl (qj (t:=57) hF rfl ?_ ?_)))<;>intro hF
   ·refine X0 15 rfl ?_
    obtain rfl:=qb hF
    exact rG ⟨_,hK4,rfl,h⟩ rfl
   refine X1 10 0 h rfl (qj (t:=63) hF rfl ?_ ?_)<;>intro hF
   ·refine X0 9 rfl ?_
    obtain rfl:=qb hF
    exact rG ⟨_,hK4,rfl,h⟩ rfl
   refine X2 9 3 0 h rfl ?_
   obtain ⟨y17,hy17,hF,he17,b18,_,q17,cs42,hp17,hq17,rfl,hc23⟩:=s9.ix hF
   refine zxe hp17 hq17 he17 rfl (X0 1 rfl (zc 0 (hc23.below h.below) rfl (X0 4 rfl ?_)))
   obtain rfl:=qb hF
   exact rG ⟨_,hK4,rfl,h⟩ rfl
  rintro e10 w82 ⟨b6,hF,rfl,h⟩
  subst hKF3
  refine qh rfl hF ?_ ?_<;>intro hF
  ·refine qq rfl (X0 5 rfl ?_)
   replace h:=h.pick [1,2,3,4,5] rfl
   exact rK ⟨_,_,_,_,_,_,_,hF,rfl,h⟩ rfl
  refine zKS (rA [] [0,3,4,5] h rfl fun w12 h=>M4 63 [0,1,2,3,4,5] 3 2 0 1 (h.pick [0,3,4,5] rfl) rfl (M1 127 [6] 0 (h.pick [0,3,4,5] rfl) rfl ?_))
  obtain ⟨y4,hy4,hF,he4,b7,_,q4,cs10,hp4,hq4,hr4,hc8⟩:=s11.ix hF
  obtain rfl:=qz hr4
  refine Ae 7 255 hp4 hq4 he4 (h.pick [0,3,4,5] rfl) rfl (Al 8 511 0 hc8 (h.pick [0,3,4,5] rfl) rfl ?_)
  obtain ⟨r1,hr5,hF⟩:=qc hF
  obtain ⟨r2,r3⟩:=r1
  refine qnP (fun e w'=>∃ (bb33:Nat) (bb34:Nat),e=[(12,.pointer (some ⟨bb3,0,none⟩)),(15,.pointer (some ⟨bb4,0,none⟩)),(16,.bool b4),(17,.pointer (some ⟨bb5,0,none⟩)),(19,.int .i64 i12),(2,.slice p6 a_2.length k6),(20,.pointer (some ⟨bb6,0,none⟩)),(21,.pointer (some ⟨bb34,0,none⟩)),(22,.pointer (some ⟨bb33,0,none⟩)),(3,.slice p7 a_3.length k7),(6,.int .i64 a_6),(7,.pointer (some ⟨bb1,0,none⟩)),(8,.pointer (some ⟨bb2,0,none⟩))]∧SH w w' [Ch.box bb33 (qh4 r3) 86,Ch.box bb34 (qh4 r2) 86,Ch.box bb6 (qkt y3) 121,Ch.box bb5 [.int .i64 i7,.int .i64 i8,.int .i64 i9,.int .i64 i10,.int .i64 i11] 116,Ch.box bb4 [.int .i64 0,.int .i64 0,.int .i64 0,.int .i64 0,.int .i64 0] 116,Ch.box bb3 (qbK a_5 p9 p10 p11 k9 k10 k11) 107,Ch.box bb2 (qb2 a_1) 52,Ch.box bb1 (qa1 a_0 p1 p2 p3 p4 p5 k1 k2 k3 k4 k5) 51]) 0 (bits 17 131071) ?_ ?_
  ·intro K
   refine qqW 9 13 14 rfl rfl rfl (bits 17 1023) (bits 17 8703) (bits 17 16895) (by kernel_rfl) (by kernel_rfl) (by kernel_rfl) (by kernel_rfl) ?_ ?_ ?_
   ·refine qa5 (r2,r3) h (cB 98 rfl) (qfW (h.old ha1) (h.old ha2) (qbZ y3) (qA y4) hr5) rfl rfl rfl rfl fun w67 S29 us13 hv19 hr36=>?_
    obtain ⟨S30,S31,cs35,us14,rfl,hv20,hr37⟩:=hv19.cons hr36
    obtain rfl:=qz (hv20.sh.own 0 rfl)
    obtain ⟨cs36,rfl,h⟩:=hv20.last hr37
    obtain rfl:=qz (h.own 0 rfl)
    refine G0 8191 [10,11,12] (h.pick [2,5,6,7] rfl) rfl (At 13 14 16383 24575 rfl ?_ ?_)
    ·refine qp qa h rfl rfl rfl fun w68 bb31 h=>Ag (h.pick [3,6,7,8] rfl) (Ao 14 32767 rfl (qp qa h rfl rfl rfl fun w69 bb32 h=>Ag (h.pick [4,7,8,9] rfl) (Ao 15 65535 rfl (zs 1 h rfl fun w70 h=>Ag (h.pick [4,7,8,9] rfl) (Ao 16 131071 rfl (zs 0 h rfl fun w71 h=>Ag (h.pick [4,7,8,9] rfl) ?_))))))
     replace h:=h.pick [0,1,4,5,6,7,8,9] rfl
     exact qfy [(12,_),(15,_),(16,_),(17,_),(19,_),(2,_),(20,_),(21,_),(22,_),(3,_),(6,_),(7,_),(8,_)] ⟨rfl,rfl,rfl,rfl,rfl,rfl,rfl,rfl,rfl,rfl,rfl,rfl,rfl,trivial⟩ (K _ _ ⟨_,_,rfl,h⟩)
    refine qp qa h rfl rfl rfl fun w68 bb31 h=>Ag (h.pick [3,6,7,8] rfl) (Ao 13 32767 rfl (qp qa h rfl rfl rfl fun w69 bb32 h=>Ag (h.pick [4,7,8,9] rfl) (Ao 15 65535 rfl (zs 0 h rfl fun w70 h=>Ag (h.pick [4,7,8,9] rfl) (Ao 16 131071 rfl (zs 1 h rfl fun w71 h=>Ag (h.pick [4,7,8,9] rfl) ?_))))))
    replace h:=h.pick [1,0,4,5,6,7,8,9] rfl
    exact qfy [(12,_),(15,_),(16,_),(17,_),(19,_),(2,_),(20,_),(21,_),(22,_),(3,_),(6,_),(7,_),(8,_)] ⟨rfl,rfl,rfl,rfl,rfl,rfl,rfl,rfl,rfl,rfl,rfl,rfl,rfl,trivial⟩ (K _ _ ⟨_,_,rfl,h⟩)
   ·refine qp qa h rfl rfl rfl fun w67 bb31 h=>Ag (h.pick [1,4,5,6] rfl) (At 9 14 9215 25087 rfl ?_ ?_)
    ·refine qa5 (r2,r3) h (cB 98 rfl) (qfW (h.old ha1) (h.old ha2) (qbZ y3) (qA y4) hr5) rfl rfl rfl rfl fun w68 S29 us13 hv19 hr36=>?_
     obtain ⟨S30,S31,cs35,us14,rfl,hv20,hr37⟩:=hv19.cons hr36
     obtain rfl:=qz (hv20.sh.own 0 rfl)
     obtain ⟨cs36,rfl,h⟩:=hv20.last hr37
     obtain rfl:=qz (h.own 0 rfl)
     refine G0 16383 [10,11,12] (h.pick [3,6,7,8] rfl) rfl (Ao 14 32767 rfl (qp qa h rfl rfl rfl fun w69 bb32 h=>Ag (h.pick [4,7,8,9] rfl) (Ao 15 65535 rfl (zs 3 h rfl fun w70 h=>Ag (h.pick [4,7,8,9] rfl) (Ao 16 131071 rfl (zs 0 h rfl fun w71 h=>Ag (h.pick [4,7,8,9] rfl) ?_))))))
     replace h:=h.pick [0,3,4,5,6,7,8,9] rfl
     exact qfy [(12,_),(15,_),(16,_),(17,_),(19,_),(2,_),(20,_),(21,_),(22,_),(3,_),(6,_),(7,_),(8,_)] ⟨rfl,rfl,rfl,rfl,rfl,rfl,rfl,rfl,rfl,rfl,rfl,rfl,rfl,trivial⟩ (K _ _ ⟨_,_,rfl,h⟩)
    refine qp qa h rfl rfl rfl fun w68 bb32 h=>Ag (h.pick [2,5,6,7] rfl) (Ao 9 25599 rfl (qa5 (r2,r3) h (cB 98 rfl) (qfW (h.old ha1) (h.old ha2) (qbZ y3) (qA y4) hr5) rfl rfl rfl rfl fun w69 S29 us13 hv19 hr36=>?_))
    obtain ⟨S30,S31,cs35,us14,rfl,hv20,hr37⟩:=hv19.cons hr36
    obtain rfl:=qz (hv20.sh.own 0 rfl)
    obtain ⟨cs36,rfl,h⟩:=hv20.last hr37
    obtain rfl:=qz (h.own 0 rfl)
    refine G0 32767 [10,11,12] (h.pick [4,7,8,9] rfl) rfl (Ao 15 65535 rfl (zs 3 h rfl fun w70 h=>Ag (h.pick [4,7,8,9] rfl) (Ao 16 131071 rfl (zs 2 h rfl fun w71 h=>Ag (h.pick [4,7,8,9] rfl) ?_))))
    replace h:=h.pick [2,3,4,5,6,7,8,9] rfl
    exact qfy [(12,_),(15,_),(16,_),(17,_),(19,_),(2,_),(20,_),(21,_),(22,_),(3,_),(6,_),(7,_),(8,_)] ⟨rfl,rfl,rfl,rfl,rfl,rfl,rfl,rfl,rfl,rfl,rfl,rfl,rfl,trivial⟩ (K _ _ ⟨_,_,rfl,h⟩)
   refine qp qa h rfl rfl rfl fun w67 bb31 h=>Ag (h.pick [1,4,5,6] rfl) (At 9 13 17407 25087 rfl ?_ ?_)
   ·refine qa5 (r2,r3) h (cB 98 rfl) (qfW (h.old ha1) (h.old ha2) (qbZ y3) (qA y4) hr5) rfl rfl rfl rfl fun w68 S29 us13 hv19 hr36=>?_
    obtain ⟨S30,S31,cs35,us14,rfl,hv20,hr37⟩:=hv19.cons hr36
    obtain rfl:=qz (hv20.sh.own 0 rfl)
    obtain ⟨cs36,rfl,h⟩:=hv20.last hr37
    obtain rfl:=qz (h.own 0 rfl)
    refine G0 24575 [10,11,12] (h.pick [3,6,7,8] rfl) rfl (Ao 13 32767 rfl (qp qa h rfl rfl rfl fun w69 bb32 h=>Ag (h.pick [4,7,8,9] rfl) (Ao 15 65535 rfl (zs 0 h rfl fun w70 h=>Ag (h.pick [4,7,8,9] rfl) (Ao 16 131071 rfl (zs 3 h rfl fun w71 h=>Ag (h.pick [4,7,8,9] rfl) ?_))))))
    replace h:=h.pick [3,0,4,5,6,7,8,9] rfl
    exact qfy [(12,_),(15,_),(16,_),(17,_),(19,_),(2,_),(20,_),(21,_),(22,_),(3,_),(6,_),(7,_),(8,_)] ⟨rfl,rfl,rfl,rfl,rfl,rfl,rfl,rfl,rfl,rfl,rfl,rfl,rfl,trivial⟩ (K _ _ ⟨_,_,rfl,h⟩)
   refine qp qa h rfl rfl rfl fun w68 bb32 h=>Ag (h.pick [2,5,6,7] rfl) (Ao 9 25599 rfl (qa5 (r2,r3) h (cB 98 rfl) (qfW (h.old ha1) (h.old ha2) (qbZ y3) (qA y4) hr5) rfl rfl rfl rfl fun w69 S29 us13 hv19 hr36=>?_))
   obtain ⟨S30,S31,cs35,us14,rfl,hv20,hr37⟩:=hv19.cons hr36
   obtain rfl:=qz (hv20.sh.own 0 rfl)
   obtain ⟨cs36,rfl,h⟩:=hv20.last hr37
   obtain rfl:=qz (h.own 0 rfl)
   refine G0 32767 [10,11,12] (h.pick [4,7,8,9] rfl) rfl (Ao 15 65535 rfl (zs 2 h rfl fun w70 h=>Ag (h.pick [4,7,8,9] rfl) (Ao 16 131071 rfl (zs 3 h rfl fun w71 h=>Ag (h.pick [4,7,8,9] rfl) ?_))))
   replace h:=h.pick [3,2,4,5,6,7,8,9] rfl
   exact qfy [(12,_),(15,_),(16,_),(17,_),(19,_),(2,_),(20,_),(21,_),(22,_),(3,_),(6,_),(7,_),(8,_)] ⟨rfl,rfl,rfl,rfl,rfl,rfl,rfl,rfl,rfl,rfl,rfl,rfl,rfl,trivial⟩ (K _ _ ⟨_,_,rfl,h⟩)
  rintro e9 w72 ⟨bb33,bb34,rfl,h⟩
  refine Ad (qcP (rA [] [1,2,5] h rfl fun w73 h=>M2 15 [0,1,2,3] 2 1 (h.pick [1,2,5] rfl) rfl ?_))
  obtain ⟨y14,hy14,hF,he14,b15,_,q14,cs37,hp14,hq14,hr39,hc19⟩:=s10.ix hF
  obtain rfl:=qz hr39
  refine Ae 4 31 hp14 hq14 he14 (h.pick [1,2,5] rfl) rfl (M0 63 [5] (h.pick [1,2,5] rfl) rfl (Al 6 127 0 hc19 (h.pick [1,2,5] rfl) rfl (M3 16383 [7,8,9,10,11,12,13] 0 2 1 (h.pick [1,2,5] rfl) rfl ?_)))
  obtain ⟨y15,hy15,hF,he15,b16,_,q15,cs38,hp15,hq15,hr40,hc20⟩:=s10.ix hF
  obtain rfl:=qz hr40
  refine Ae 14 32767 hp15 hq15 he15 (h.pick [1,2,5] rfl) rfl (M0 65535 [15] (h.pick [1,2,5] rfl) rfl (Al 16 131071 1 hc20 (h.pick [1,2,5] rfl) rfl (M1 1048575 [17,18,19] 0 (h.pick [1,2,5] rfl) rfl (Aw 20 2097151 (fun w' hw=>qaa qa [0,1] [.tmp 94,.tmp 104] rfl rfl rfl rfl rfl rfl rfl rfl) (h.pick [1,2,5] rfl) rfl ?_))))
  refine Ao 21 4194303 rfl (qp qa h rfl rfl rfl fun w74 bb35 h=>Ag (h.pick [2,3,6] rfl) (Ao 22 8388607 rfl (zs 0 h rfl fun w75 h=>Ag (h.pick [2,3,6] rfl) (Ad (X0 5 rfl (qh rfl hF ?_ ?_))))))<;>intro hF
  ·refine X2 5 0 4 h rfl (zcO h hF (qm2 (qA _) (qA _)) rfl fun r8 w76 S33 cs39 h hF=>?_)
   obtain rfl:=qz (h.own 0 rfl)
   refine zs 1 h rfl fun w77 h=>X2 5 2 5 h rfl (zcO h hF (qm2 (qA r3) (qA _)) rfl fun r9 w78 S34 cs40 h hF=>?_)
   obtain rfl:=qz (h.own 0 rfl)
   refine zs 3 h rfl fun w79 h=>X2 9 2 3 h rfl (r_v (qaa qa [0,1,2] [.tmp 115,.tmp 116,.tmp 117] rfl rfl rfl rfl rfl rfl rfl rfl) rfl (zs 6 h rfl fun w80 h=>X0 7 rfl ?_))
   replace h:=h.pick [6,7,8,9,10] rfl
   exact rK ⟨_,_,_,_,_,_,_,hF,rfl,h⟩ rfl
  refine X2 9 0 1 h rfl (r_v (qaa qa [0,1,2] [.tmp 115,.tmp 116,.tmp 117] rfl rfl rfl rfl rfl rfl rfl rfl) rfl (zs 4 h rfl fun w81 h=>X0 7 rfl ?_))
  replace h:=h.pick [4,5,6,7,8] rfl
  exact rK ⟨_,_,_,_,_,_,_,hF,rfl,h⟩ rfl
 refine qq rfl ?_
 obtain rfl:=qb hF;replace hF:=hK2
 refine qcP (rA [] [0] h rfl fun w83 h=>M1 7 [0,1,2] 0 (h.pick [0] rfl) rfl (Ao 3 15 rfl (zs 1 h rfl fun w84 h=>Ag (h.pick [0] rfl) (Ad ?_))))
 obtain rfl:=qb hF
 exact qT qa (ρ:=(Bool × qe)) [GoT.v Bool [.bool b4],GoT.v qe [.int .i64 i7,.int .i64 i8,.int .i64 i9,.int .i64 i10,.int .i64 i11]] h ⟨rfl,⟨_,_,_,rfl,rfl,h.box 1 rfl,rfl⟩,trivial⟩ (PV.done h (qak h (qx (S:=fun _=>False) rfl) (qZ (qx (S:=fun _=>False) (qaB (⟨i7,(⟨i8,i9⟩:qf),(⟨i10,i11⟩:qf)⟩:qe)))) (by rfl)))
def qch (a_0:qg) (a_1:qt) (a_2:(List qu)) (a_3:(List Bool)) (a_4:(List qe)) (a_5:(List Int)):Nat→(List qf)→(List qf)→(List Bool)→Int→Option (Flow (qy × Bool) ((List qf) × (List qf) × (List Bool) × Int))
 | 0,_,_,_,_=>none
 | n+1,x1,x2,x3,i1 =>
  bif decide (i1<(a_5.length:Int)) then
   (idx a_5 i1).bind fun y1 =>
   (qiO n a_0 a_1 a_2 a_3 a_4 (⟨x3,x2,x1⟩:qy) y1).bind fun o=>match o with
    | (r4,r5) =>
     bif (!r4) then qch a_0 a_1 a_2 a_3 a_4 a_5 n x1 x2 x3 (W64 (i1+1)) else
     (qip n (⟨r5.Ai.Ap,r5.Ai.Be⟩:qf)).bind fun r6 =>
     bif (!r6) then some (.ret ((⟨[],[],[]⟩:qy),false)) else
     (idx x3 y1).bind fun _ =>
     (idx x2 y1).bind fun _ =>
     (idx x1 y1).bind fun _ =>
     qch a_0 a_1 a_2 a_3 a_4 a_5 n (setS x1 y1 (⟨r5.Bc.Ap,r5.Bc.Be⟩:qf)) (setS x2 y1 (⟨r5.Ai.Ap,r5.Ai.Be⟩:qf)) (setS x3 y1 true) (W64 (i1+1))
  else
   some (.nxt (x1,x2,x3,i1))
def qlq (n:Nat) (a_0:qg) (a_1:qt) (a_2:(List qu)) (a_3:(List Bool)) (a_4:(List qe)) (a_5:(List Int)):Option (qy × Bool) :=
 (qgE n a_0).bind fun r1 =>
 (qlS n r1).bind fun r2 =>
 (qch a_0 a_1 a_2 a_3 a_4 a_5 n r2.Bc r2.Ai r2.Bg 0).bind fun o=>match o with
 | .ret r=>some r
 | .nxt (x1,x2,x3,_) =>
  some ((⟨x3,x2,x1⟩:qy),true)
theorem qle {a_0:qg} {a_1:qt} {a_2:(List qu)} {a_3:(List Bool)} {a_4:(List qe)} {a_5:(List Int)} (ha1:Ro w a_0 cs1) (ha2:Ro w a_1 cs2) (ha3:Ro w a_2 cs3) (ha4:Ro w a_3 cs4) (ha5:Ro w a_4 cs5) (ha6:Ro w a_5 cs6) {r:(qy × Bool)} (hF:qlq n a_0 a_1 a_2 a_3 a_4 a_5=some r):RetV Tryz.prog 91 [GoT.v qg cs1,GoT.v qt cs2,GoT.v (List qu) cs3,GoT.v (List Bool) cs4,GoT.v (List qe) cs5,GoT.v (List Int) cs6] w r:=by
 obtain ⟨p1,k1,p2,k2,p3,k3,p4,k4,p5,k5,rfl,s1,s2,s3,s4,s5⟩:=qac ha1
 obtain rfl:=qaJ ha2
 obtain ⟨p6,k6,rfl,s6⟩:=ha3
 obtain ⟨p7,k7,rfl,s7⟩:=ha4
 obtain ⟨p8,k8,rfl,s8⟩:=ha5
 obtain ⟨p9,k9,rfl,s9⟩:=ha6
 refine zV 67 Tryz.func91 rfl fun h=>zSR (qv h rfl rfl fun w1 bb1 h=>qv h rfl rfl fun w2 bb2 h=>qp qa h rfl rfl rfl fun w3 bb3 h=>X1 5 2 h rfl (zcI h hF (qi8 (h.old ha1)) rfl fun r1 w4 h hF=>zcO h hF qpC rfl fun r2 w5 S1 cs7 h hF=>?_))
 obtain ⟨p10,k10,p11,k11,p12,k12,rfl,-,-,-⟩:=qcN (h.own 0 rfl)
 refine qp qa h rfl rfl rfl fun w6 bb4 h=>zs 0 h rfl fun w7 h=>X0 6 rfl ?_
 replace h:=h.pick [1,0,2,3,4] rfl
 obtain ⟨S2,S3,S4,h⟩:=qhL h
 obtain ⟨o1,hF,hK1⟩:=qc hF
 refine qm (rL (fun m e w'=>∃ (x1:(List qf)) (x2:(List qf)) (x3:(List Bool)) (i1:Int),qch a_0 a_1 a_2 a_3 a_4 a_5 m x1 x2 x3 i1=some o1∧e=[(2,.slice p6 a_2.length k6),(3,.slice p7 a_3.length k7),(4,.slice p8 a_4.length k8),(5,.slice p9 a_5.length k9),(6,.pointer (some ⟨bb1,0,none⟩)),(7,.pointer (some ⟨bb2,0,none⟩)),(12,.pointer (some ⟨bb3,0,none⟩)),(14,.pointer (some ⟨bb4,0,none⟩)),(15,.int .i64 i1)]∧SH w w' [Ch.own S4 (x1:List qf) [.slice p12 r2.Bc.length k12],Ch.own S3 (x2:List qf) [.slice p11 r2.Ai.length k11],Ch.own S2 (x3:List Bool) [.slice p10 r2.Bg.length k10],Ch.box bb4 (qbK r2 p10 p11 p12 k10 k11 k12) 107,Ch.box bb3 [.slice none 0 0,.slice none 0 0,.slice none 0 0] 107,Ch.box bb2 (qb2 a_1) 52,Ch.box bb1 (qa1 a_0 p1 p2 p3 p4 p5 k1 k2 k3 k4 k5) 51]) n ⟨_,_,_,_,hF,rfl,h⟩ rfl ?_)
 rintro m1 e1 w8 ⟨x1,x2,x3,i1,hF,rfl,h⟩
 rcases m1 with _|m1
 ·cases hF
 refine X0 8 rfl (qh rfl hF ?_ ?_)<;>intro hF
 ·refine X0 7 rfl ?_
  obtain ⟨y1,hy1,hF,he1,b1,_,q1,cs8,hp1,hq1,rfl,hc2⟩:=s9.ix hF
  refine zxe hp1 hq1 he1 rfl (zc 0 (hc2.below h.below) rfl (X3 11 6 5 3 h rfl ?_))
  obtain ⟨r3,hr4,hF⟩:=qc hF
  obtain ⟨r4,r5⟩:=r3
  refine qa5 (r4,r5) h (cB 150 rfl) (qqz (h.old ha1) (h.old ha2) ⟨_,_,rfl,(h.oldS s6)⟩ ⟨_,_,rfl,(h.oldS s7)⟩ ⟨_,_,rfl,(h.oldS s8)⟩ ⟨[.slice p10 r2.Bg.length k10],[.slice p11 r2.Ai.length k11,.slice p12 r2.Bc.length k12],rfl,(h.own 2 rfl),⟨[.slice p11 r2.Ai.length k11],[.slice p12 r2.Bc.length k12],rfl,(h.own 1 rfl),(h.own 0 rfl)⟩⟩ hr4) rfl rfl rfl rfl fun w9 S5 us1 hv1 hr5=>?_
  obtain ⟨S6,us2,rfl,hv2,hr6⟩:=hv1.consB hr5
  obtain ⟨cs9,rfl,h⟩:=hv2.last hr6
  obtain rfl:=qE (h.own 0 rfl)
  refine zp3 rfl (qp qa h rfl rfl rfl fun w10 bb5 h=>zp1 rfl (zs 0 h rfl fun w11 h=>X0 7 rfl (qh rfl hF ?_ ?_)))<;>intro hF
  ·refine qq rfl (X0 5 rfl ?_)
   replace h:=h.pick [2,3,4,5,6,7,8] rfl
   exact rK ⟨_,_,_,_,hF,rfl,h⟩ rfl
  refine X1 6 0 h rfl (zcB h hF (qkP (qA _)) rfl fun r6 w12 h hF=>X0 2 rfl (qh rfl hF ?_ ?_))<;>intro hF
  ·refine zSR (r_v (qaa qa [] [] rfl rfl rfl rfl rfl rfl rfl rfl) rfl (zs 6 h rfl fun w13 h=>X0 2 rfl ?_))
   obtain rfl:=qb hF;replace hF:=hK1
   obtain rfl:=qb hF
   exact qT qa (ρ:=(qy × Bool)) [GoT.v qy [.slice none 0 0,.slice none 0 0,.slice none 0 0],GoT.v Bool [.bool false]] h ⟨⟨_,_,_,rfl,rfl,h.box 6 rfl,rfl⟩,rfl,trivial⟩ (PV.done h (qak h (qf4 (⟨[],[],[]⟩:qy) h qg0 qg0 qg0 (by rfl) (by rfl)) (qZ (qx (S:=fun _=>False) rfl)) (by rfl)))
  refine X1 6 5 h rfl ?_
  obtain ⟨y2,hy2,hF,he2,b2,_,q2,cs10,hp2,hq2,rfl,hc5⟩:=(h.sl 4 rfl).1.ix hF
  refine zx hp2 hq2 ⟨he2.1,qC he2.2.1 (h.sl 4 rfl).2⟩ rfl (qaA qa 4 0 true h rfl hy2 hp2 hq2 rfl hc5 rfl rfl rfl rfl rfl rfl rfl fun w14 h=>X2 8 5 0 h rfl ?_)
  obtain ⟨y3,hy3,hF,he3,b3,_,q3,cs11,hp3,hq3,hr10,hc6⟩:=(h.sl 3 rfl).1.ix hF
  obtain rfl:=qz hr10
  refine zx hp3 hq3 ⟨he3.1,qC he3.2.1 (h.sl 3 rfl).2⟩ rfl (qaA qa 3 0 (⟨r5.Ai.Ap,r5.Ai.Be⟩:qf) h rfl hy3 hp3 hq3 (qA y3) hc6 rfl rfl rfl (qA (⟨r5.Ai.Ap,r5.Ai.Be⟩:qf)) rfl rfl rfl fun w15 h=>X2 7 5 0 h rfl ?_)
  obtain ⟨y4,hy4,hF,he4,b4,_,q4,cs12,hp4,hq4,hr11,hc7⟩:=(h.sl 2 rfl).1.ix hF
  obtain rfl:=qz hr11
  refine zx hp4 hq4 ⟨he4.1,qC he4.2.1 (h.sl 2 rfl).2⟩ rfl (qaA qa 2 0 (⟨r5.Bc.Ap,r5.Bc.Be⟩:qf) h rfl hy4 hp4 hq4 (qA y4) hc7 rfl rfl rfl (qA (⟨r5.Bc.Ap,r5.Bc.Be⟩:qf)) rfl rfl rfl fun w16 h=>X0 7 rfl ?_)
  replace h:=h.pick [2,3,4,5,6,7,8] rfl
  exact rK ⟨_,_,_,_,hF,rfl,h⟩ rfl
 refine qq rfl ?_
 obtain rfl:=qb hF;replace hF:=hK1
 refine X1 3 3 h rfl (zs 4 h rfl fun w17 h=>X0 2 rfl ?_)
 obtain rfl:=qb hF
 exact qT qa (ρ:=(qy × Bool)) [GoT.v qy (qbK r2 p10 p11 p12 k10 k11 k12),GoT.v Bool [.bool true]] h ⟨⟨_,_,_,rfl,rfl,h.box 4 rfl,rfl⟩,rfl,trivial⟩ (PV.done h (qak h (qf4 (⟨x3,x2,x1⟩:qy) h (qag 2 h rfl) (qag 1 h rfl) (qag 0 h rfl) (by rfl) (by rfl)) (qZ (qx (S:=fun _=>False) rfl)) (by rfl)))
def qeE (list:(List Int)) (x:Int):Nat→Int→Option (Flow Bool Int)
 | 0,_=>none
 | n+1,i1 =>
  bif decide (i1<(list.length:Int)) then
   (idx list i1).bind fun y1 =>
   bif (y1==x) then some (.ret true) else
   qeE list x n (W64 (i1+1))
  else
   some (.nxt i1)
def qlt (n:Nat) (list:(List Int)) (x:Int):Option Bool :=
 (qeE list x n 0).bind fun o=>match o with
 | .ret r=>some r
 | .nxt _ =>
  some false
theorem qrv {list:(List Int)} {x:Int} (ha1:Ro w list cs1) {r:Bool} (hF:qlt n list x=some r):RetV Tryz.prog 97 [GoT.v (List Int) cs1,.int .i64 x] w r:=by
 obtain ⟨p1,k1,rfl,s1⟩:=ha1
 refine zV 18 Tryz.func97 rfl fun h=>X0 9 rfl ?_
 obtain ⟨o1,hF,hK1⟩:=qc hF
 refine qm (rL (fun m e w'=>∃ (i1:Int),qeE list x m i1=some o1∧e=[(0,.slice p1 list.length k1),(1,.int .i64 x),(5,.int .i64 i1)]∧SH w w' []) n ⟨_,hF,rfl,h⟩ rfl ?_)
 rintro m1 e1 w1 ⟨i1,hF,rfl,h⟩
 rcases m1 with _|m1
 ·cases hF
 refine X0 8 rfl (qh rfl hF ?_ ?_)<;>intro hF
 ·refine X0 7 rfl ?_
  obtain ⟨y1,hy1,hF,he1,b1,_,q1,cs2,hp1,hq1,rfl,hc2⟩:=s1.ix hF
  refine zxe hp1 hq1 he1 rfl (zc 0 (hc2.below h.below) rfl (X0 3 rfl (qh rfl hF ?_ ?_)))<;>intro hF
  ·refine X0 4 rfl ?_
   obtain rfl:=qb hF;replace hF:=hK1
   exact rb h hF rfl
  exact X0 7 rfl (rK ⟨_,hF,rfl,h⟩ rfl)
 refine qq rfl ?_
 obtain rfl:=qb hF;replace hF:=hK1
 exact X0 4 rfl (rb h hF rfl)
def qdP (links:(List qu)) (broken:(List Int)):Nat→(List Bool)→Int→Option ((List Bool) × Int)
 | 0,_,_=>none
 | n+1,x1,i1 =>
  bif decide (i1<(links.length:Int)) then
   (qlt n broken i1).bind fun r1 =>
   (appS x1 ([(!r1)]:List Bool)).bind fun x2 =>
   qdP links broken n x2 (W64 (i1+1))
  else
   some (x1,i1)
def qhu (n:Nat) (links:(List qu)) (broken:(List Int)):Option (List Bool) :=
 (qdP links broken n ([]:List Bool) 0).bind fun o=>match o with
 | (x1,_) =>
  some x1
theorem qhZ {links:(List qu)} {broken:(List Int)} (ha1:Ro w links cs1) (ha2:Ro w broken cs2) {r:(List Bool)} (hF:qhu n links broken=some r):RetV Tryz.prog 61 [GoT.v (List qu) cs1,GoT.v (List Int) cs2] w r:=by
 obtain ⟨p1,k1,rfl,s1⟩:=ha1
 obtain ⟨p2,k2,rfl,s2⟩:=ha2
 refine zV 22 Tryz.func61 rfl fun h=>X0 6 rfl (qL qa [] _ ([]:List Bool) h rfl rfl rfl rfl rfl rfl rfl rfl rfl trivial rfl fun w1 p3 S1 h=>X0 7 rfl ?_)
 obtain ⟨o1,hF,hK1⟩:=qc hF
 refine qm (rL (fun m e w'=>∃ (S2:Nat→Prop) (p4:Option Addr) (ln1:Nat) (k3:Nat) (x1:(List Bool)) (i1:Int),qdP links broken m x1 i1=some o1∧e=[(0,.slice p1 links.length k1),(1,.slice p2 broken.length k2),(5,.slice p4 ln1 k3),(6,.int .i64 i1)]∧SH w w' [Ch.own S2 (x1:List Bool) [.slice p4 ln1 k3]]) n ⟨_,_,_,_,_,_,hF,rfl,h⟩ rfl ?_)
 rintro m1 e1 w2 ⟨S2,p4,ln1,k3,x1,i1,hF,rfl,h⟩
 obtain rfl:=(h.sl 0 rfl).2
 rcases m1 with _|m1
 ·cases hF
 refine X0 8 rfl (qh rfl hF ?_ ?_)<;>intro hF
 ·refine X0 7 rfl (zcB h hF (qrv ⟨_,_,rfl,(h.oldS s2)⟩) rfl fun r1 w3 h hF=>zp1 rfl (qL qa [.tmp 18] _ ([(!r1)]:List Bool) h rfl rfl rfl rfl rfl rfl rfl rfl rfl ⟨rfl,trivial⟩ rfl fun w4 p5 S3 h=>?_))
  obtain ⟨x2,hx1,hF⟩:=qc hF
  obtain ⟨g1,hx1⟩:=qaw hx1
  refine qcC qa 1 h rfl (h.sl 0 rfl).1 (h.sl 0 rfl).2 rfl rfl rfl rfl rfl rfl rfl rfl rfl g1 hx1 rfl fun w5 p6 k4 S4 h=>X0 8 rfl ?_
  replace h:=h.pick [1] rfl
  exact rK ⟨_,_,_,_,_,_,hF,rfl,h⟩ rfl
 refine qq rfl ?_
 obtain rfl:=qb hF;replace hF:=hK1
 refine X0 5 rfl ?_
 obtain rfl:=qb hF
 exact rO 0 h rfl ⟨rfl,trivial⟩
def qeR (n:Nat) (b:qg) (broken:(List Int)):Option ((List Int) × Int) :=
 (qhe n b broken).bind fun r1 =>
 bif (r1 != 0) then some (([]:List Int),r1) else
 (qfq n b).bind fun r2 =>
 (qgE n b).bind fun r3 =>
 (qhu n r2 broken).bind fun r4 =>
 (qhK n r3 r2 r4).bind fun o=>match o with
  | (r6,r7) =>
   bif (!r7) then some (([]:List Int),7) else
   some (r6,0)
theorem qlP {b:qg} {broken:(List Int)} (ha1:Ro w b cs1) (ha2:Ro w broken cs2) {r:((List Int) × Int)} (hF:qeR n b broken=some r):RetV Tryz.prog 147 [GoT.v qg cs1,GoT.v (List Int) cs2] w r:=by
 obtain ⟨p1,k1,p2,k2,p3,k3,p4,k4,p5,k5,rfl,s1,s2,s3,s4,s5⟩:=qac ha1
 obtain ⟨p6,k6,rfl,s6⟩:=ha2
 refine zV 33 Tryz.func147 rfl fun h=>zSR (qv h rfl rfl fun w1 bb1 h=>X1 8 0 h rfl (zcI h hF (qmT (h.old ha1) ⟨_,_,rfl,(h.oldS s6)⟩) rfl fun r1 w2 h hF=>X0 7 rfl (qh rfl hF ?_ ?_)))<;>intro hF
 ·refine zSR (qL qa [] _ ([]:List Int) h rfl rfl rfl rfl rfl rfl rfl rfl rfl trivial rfl fun w3 p7 S1 h=>X0 4 rfl ?_)
  obtain rfl:=qb hF
  exact qT qa (ρ:=((List Int) × Int)) [GoT.v (List Int) [.slice p7 0 0],GoT.v Int [.int .i64 r1]] h ⟨rfl,rfl,trivial⟩ (PV.done h (qak h (qag 0 h rfl) (qZ (qx (S:=fun _=>False) rfl)) (by rfl)))
 refine X1 4 0 h rfl (zcL h hF (qhj (h.old ha1)) rfl fun r2 w4 S2 p8 k7 h hF=>X1 5 1 h rfl (zcI h hF (qi8 (h.old ha1)) rfl fun r3 w5 h hF=>zp3 rfl (zcL h hF (qhZ (h.own 0 rfl) ⟨_,_,rfl,(h.oldS s6)⟩) rfl fun r4 w6 S3 p9 k8 h hF=>?_)))
 obtain ⟨r5,hr5,hF⟩:=qc hF
 obtain ⟨r6,r7⟩:=r5
 refine qa5 (r6,r7) h (cB 182 rfl) (qpB (h.own 1 rfl) (h.own 0 rfl) hr5) rfl rfl rfl rfl fun w7 S4 us1 hv1 hr6=>?_
 obtain ⟨S5,S6,p10,k9,us2,rfl,hv2,hr7⟩:=hv1.consL hr6
 obtain ⟨rfl,h⟩:=hv2.lastB hr7
 refine X0 12 rfl (qh rfl hF ?_ ?_)<;>intro hF
 ·refine zSR (qL qa [] _ ([]:List Int) h rfl rfl rfl rfl rfl rfl rfl rfl rfl trivial rfl fun w8 p11 S8 h=>X0 3 rfl ?_)
  obtain rfl:=qb hF
  exact qT qa (ρ:=((List Int) × Int)) [GoT.v (List Int) [.slice p11 0 0],GoT.v Int [.int .i64 7]] h ⟨rfl,rfl,trivial⟩ (PV.done h (qak h (qag 0 h rfl) (qZ (qx (S:=fun _=>False) rfl)) (by rfl)))
 refine X0 7 rfl ?_
 obtain rfl:=qb hF
 exact qT qa (ρ:=((List Int) × Int)) [GoT.v (List Int) [.slice p10 r6.length k9],GoT.v Int [.int .i64 0]] h ⟨rfl,rfl,trivial⟩ (PV.done h (qak h (qag 0 h rfl) (qZ (qx (S:=fun _=>False) rfl)) (by rfl)))
def qiB (n:Nat) (b:qg) (c:qt) (broken:(List Int)) (sources:(List qe)):Option ((List Int) × Int) :=
 (
  (qhx n b).bind fun r6 =>
  bif (!r6) then some true else
  (qhO n c).bind fun r7 =>
  some (!r7)).bind fun b1 =>
 bif b1 then some (([]:List Int),1) else
 (
  (qhe n b broken).bind fun r4 =>
  bif (r4 != 0) then some true else
  (qgn n b sources).bind fun r5 =>
  some (!r5)).bind fun b2 =>
 bif b2 then some (([]:List Int),2) else
 (qeR n b broken).bind fun o=>match o with
  | (r2,r3) =>
   some (r2,r3)
theorem qql {b:qg} {c:qt} {broken:(List Int)} {sources:(List qe)} (ha1:Ro w b cs1) (ha2:Ro w c cs2) (ha3:Ro w broken cs3) (ha4:Ro w sources cs4) {r:((List Int) × Int)} (hF:qiB n b c broken sources=some r):RetV Tryz.prog 90 [GoT.v qg cs1,GoT.v qt cs2,GoT.v (List Int) cs3,GoT.v (List qe) cs4] w r:=by
 obtain ⟨p1,k1,p2,k2,p3,k3,p4,k4,p5,k5,rfl,s1,s2,s3,s4,s5⟩:=qac ha1
 obtain rfl:=qaJ ha2
 obtain ⟨p6,k6,rfl,s6⟩:=ha3
 obtain ⟨p7,k7,rfl,s7⟩:=ha4
 refine zV 35 Tryz.func90 rfl fun h=>zSR (qv h rfl rfl fun w1 bb1 h=>qv h rfl rfl fun w2 bb2 h=>X0 5 rfl ?_)
 obtain ⟨KF2,hKF2,o2,hF,hK2⟩:=bindE hF
 refine qbe (fun e w'=>∃ (b1:Bool),KF2 b1=some r∧e=[(2,.slice p6 broken.length k6),(3,.slice p7 sources.length k7),(4,.pointer (some ⟨bb1,0,none⟩)),(17,.bool b1)]∧SH w w' [Ch.box bb1 (qa1 b p1 p2 p3 p4 p5 k1 k2 k3 k4 k5) 51]) ?_ ?_
 ·refine X1 2 1 h rfl (zcB h hF (qmY (h.old ha1)) rfl fun r6 w9 h hF=>zp2 rfl (qj (t:=13) hF rfl ?_ ?_))<;>intro hF
  ·refine X0 5 rfl ?_
   replace h:=h.pick [1] rfl
   obtain rfl:=qb hF
   exact rG ⟨_,hK2,rfl,h⟩ rfl
  refine X1 3 0 h rfl (zcB h hF (qpx (h.old ha2)) rfl fun r7 w10 h hF=>X0 4 rfl ?_)
  replace h:=h.pick [1] rfl
  obtain rfl:=qb hF
  exact rG ⟨_,hK2,rfl,h⟩ rfl
 rintro e2 w11 ⟨b1,hF,rfl,h⟩
 subst hKF2
 refine qh rfl hF ?_ ?_<;>intro hF
 ·refine zSR (qL qa [] _ ([]:List Int) h rfl rfl rfl rfl rfl rfl rfl rfl rfl trivial rfl fun w3 p8 S1 h=>X0 3 rfl ?_)
  obtain rfl:=qb hF
  exact qT qa (ρ:=((List Int) × Int)) [GoT.v (List Int) [.slice p8 0 0],GoT.v Int [.int .i64 1]] h ⟨rfl,rfl,trivial⟩ (PV.done h (qak h (qag 0 h rfl) (qZ (qx (S:=fun _=>False) rfl)) (by rfl)))
 refine zKSS ?_
 obtain ⟨KF1,hKF1,o1,hF,hK1⟩:=bindE hF
 refine qbe (fun e w'=>∃ (b2:Bool),KF1 b2=some r∧e=[(2,.slice p6 broken.length k6),(4,.pointer (some ⟨bb1,0,none⟩)),(28,.bool b2)]∧SH w w' [Ch.box bb1 (qa1 b p1 p2 p3 p4 p5 k1 k2 k3 k4 k5) 51]) ?_ ?_
 ·refine X1 3 0 h rfl (zcI h hF (qmT (h.old ha1) ⟨_,_,rfl,(h.oldS s6)⟩) rfl fun r4 w6 h hF=>zp2 rfl (qj (t:=23) hF rfl ?_ ?_))<;>intro hF
  ·refine X0 6 rfl ?_
   obtain rfl:=qb hF
   exact rG ⟨_,hK1,rfl,h⟩ rfl
  refine X1 5 0 h rfl (zcB h hF (qox (h.old ha1) ⟨_,_,rfl,(h.oldS s7)⟩) rfl fun r5 w7 h hF=>X0 4 rfl ?_)
  obtain rfl:=qb hF
  exact rG ⟨_,hK1,rfl,h⟩ rfl
 rintro e1 w8 ⟨b2,hF,rfl,h⟩
 subst hKF1
 refine qh rfl hF ?_ ?_<;>intro hF
 ·refine zSR (qL qa [] _ ([]:List Int) h rfl rfl rfl rfl rfl rfl rfl rfl rfl trivial rfl fun w4 p9 S2 h=>X0 3 rfl ?_)
  obtain rfl:=qb hF
  exact qT qa (ρ:=((List Int) × Int)) [GoT.v (List Int) [.slice p9 0 0],GoT.v Int [.int .i64 2]] h ⟨rfl,rfl,trivial⟩ (PV.done h (qak h (qag 0 h rfl) (qZ (qx (S:=fun _=>False) rfl)) (by rfl)))
 refine X1 5 0 h rfl ?_
 obtain ⟨r1,hr1,hF⟩:=qc hF
 obtain ⟨r2,r3⟩:=r1
 refine qa5 (r2,r3) h (cB 147 rfl) (qlP (h.old ha1) ⟨_,_,rfl,(h.oldS s6)⟩ hr1) rfl rfl rfl rfl fun w5 S3 us1 hv1 hr2=>?_
 obtain ⟨S4,S5,p10,k8,us2,rfl,hv2,hr3⟩:=hv1.consL hr2
 obtain ⟨rfl,h⟩:=hv2.lastI hr3
 refine X0 5 rfl ?_
 obtain rfl:=qb hF
 exact qT qa (ρ:=((List Int) × Int)) [GoT.v (List Int) [.slice p10 r2.length k8],GoT.v Int [.int .i64 r3]] h ⟨rfl,rfl,trivial⟩ (PV.done h (qak h (qag 0 h rfl) (qZ (qx (S:=fun _=>False) rfl)) (by rfl)))
def qdA (n:Nat) (b:qg) (c:qt) (broken:(List Int)) (sources:(List qe)):Option (qy × Int) :=
 (qiB n b c broken sources).bind fun o=>match o with
  | (r2,r3) =>
   bif (r3 != 0) then some ((⟨[],[],[]⟩:qy),r3) else
   (qfq n b).bind fun r4 =>
   (qhu n r4 broken).bind fun r5 =>
   (qlq n b c r4 r5 sources r2).bind fun o=>match o with
    | (r7,r8) =>
     bif (!r8) then some ((⟨[],[],[]⟩:qy),3) else
     some ((⟨r7.Bg,r7.Ai,r7.Bc⟩:qy),0)
theorem qmg {b:qg} {c:qt} {broken:(List Int)} {sources:(List qe)} (ha1:Ro w b cs1) (ha2:Ro w c cs2) (ha3:Ro w broken cs3) (ha4:Ro w sources cs4) {r:(qy × Int)} (hF:qdA n b c broken sources=some r):RetV Tryz.prog 59 [GoT.v qg cs1,GoT.v qt cs2,GoT.v (List Int) cs3,GoT.v (List qe) cs4] w r:=by
 obtain ⟨p1,k1,p2,k2,p3,k3,p4,k4,p5,k5,rfl,s1,s2,s3,s4,s5⟩:=qac ha1
 obtain rfl:=qaJ ha2
 obtain ⟨p6,k6,rfl,s6⟩:=ha3
 obtain ⟨p7,k7,rfl,s7⟩:=ha4
 refine zV 45 Tryz.func59 rfl fun h=>zSR (qv h rfl rfl fun w1 bb1 h=>qv h rfl rfl fun w2 bb2 h=>qp qa h rfl rfl rfl fun w3 bb3 h=>X2 8 2 1 h rfl ?_)
 obtain ⟨r1,hr1,hF⟩:=qc hF
 obtain ⟨r2,r3⟩:=r1
 refine qa5 (r2,r3) h (cB 90 rfl) (qql (h.old ha1) (h.old ha2) ⟨_,_,rfl,(h.oldS s6)⟩ ⟨_,_,rfl,(h.oldS s7)⟩ hr1) rfl rfl rfl rfl fun w4 S1 us1 hv1 hr2=>?_
 obtain ⟨S2,S3,p8,k8,us2,rfl,hv2,hr3⟩:=hv1.consL hr2
 obtain ⟨rfl,h⟩:=hv2.lastI hr3
 refine X0 12 rfl (qh rfl hF ?_ ?_)<;>intro hF
 ·refine zSR (r_v (qaa qa [] [] rfl rfl rfl rfl rfl rfl rfl rfl) rfl (zp1 rfl (zs 1 h rfl fun w5 h=>X0 2 rfl ?_)))
  obtain rfl:=qb hF
  exact qT qa (ρ:=(qy × Int)) [GoT.v qy [.slice none 0 0,.slice none 0 0,.slice none 0 0],GoT.v Int [.int .i64 r3]] h ⟨⟨_,_,_,rfl,rfl,h.box 1 rfl,rfl⟩,rfl,trivial⟩ (PV.done h (qak h (qf4 (⟨[],[],[]⟩:qy) h qg0 qg0 qg0 (by rfl) (by rfl)) (qZ (qx (S:=fun _=>False) rfl)) (by rfl)))
 refine X1 4 3 h rfl (zcL h hF (qhj (h.old ha1)) rfl fun r4 w6 S5 p9 k9 h hF=>X0 3 rfl ?_)
 obtain ⟨r5,hr6,hF⟩:=qc hF
 obtain ⟨r6,hr7,hF⟩:=qc hF
 obtain ⟨r7,r8⟩:=r6
 refine qbe (fun e w'=>∃ (bb8:Nat) (S37:Nat→Prop) (p25:Option Addr) (k25:Nat) (S38:Nat→Prop) (p26:Option Addr) (k26:Nat) (S39:Nat→Prop) (p27:Option Addr) (k27:Nat),e=[(8,.pointer (some ⟨bb3,0,none⟩)),(13,.pointer (some ⟨bb8,0,none⟩)),(14,.bool r8)]∧SH w w' [Ch.box bb8 (qbK r7 p27 p26 p25 k27 k26 k25) 107,Ch.own S37 (r7.Bc:List qf) [.slice p25 r7.Bc.length k25],Ch.own S38 (r7.Ai:List qf) [.slice p26 r7.Ai.length k26],Ch.own S39 (r7.Bg:List Bool) [.slice p27 r7.Bg.length k27],Ch.box bb3 [.slice none 0 0,.slice none 0 0,.slice none 0 0] 107]) ?_ ?_
 ·refine rA [] [3,4] h rfl fun w11 h=>M2 223 [0,1,2,3,4,6,7] 1 0 (h.pick [3,4] rfl) rfl (At 5 12 255 4319 rfl ?_ ?_)
  ·refine qmJ r5 h (cB 61 rfl) (qhZ (h.own 0 rfl) ⟨_,_,rfl,(h.oldS s6)⟩ hr6) rfl rfl rfl rfl fun w23 S40 p28 k28 h=>Ag (h.pick [4,5] rfl) (At 8 12 511 4351 rfl ?_ ?_)
   ·refine qa5 (r7,r8) h (cB 91 rfl) (qle (h.old ha1) (h.old ha2) (h.own 1 rfl) (h.own 0 rfl) ⟨_,_,rfl,(h.oldS s7)⟩ (h.own 2 rfl) hr7) rfl rfl rfl rfl fun w24 S41 us11 hv16 hr20=>?_
    obtain ⟨S42,S43,cs9,us12,rfl,hv17,hr21⟩:=hv16.cons hr20
    obtain ⟨p29,k29,p30,k30,p31,k31,rfl,-,-,-⟩:=qcN (hv17.sh.own 0 rfl)
    obtain ⟨rfl,h⟩:=hv17.lastB hr21
    obtain ⟨S45,S46,S47,h⟩:=qhL h
    refine G0 4095 [9,10,11] (h.pick [7,8] rfl) rfl (Ao 12 8191 rfl (qp qa h rfl rfl rfl fun w25 bb9 h=>Ag (h.pick [8,9] rfl) (Ao 13 16383 rfl (zs 0 h rfl fun w26 h=>G0 32767 [14] (h.pick [8,9] rfl) rfl (Ad ?_)))))
    replace h:=h.pick [0,1,2,3,7] rfl
    exact rG ⟨_,_,_,_,_,_,_,_,_,_,rfl,h⟩ rfl
   refine qp qa h rfl rfl rfl fun w27 bb10 h=>Ag (h.pick [5,6] rfl) (Ao 8 4607 rfl (qa5 (r7,r8) h (cB 91 rfl) (qle (h.old ha1) (h.old ha2) (h.own 2 rfl) (h.own 1 rfl) ⟨_,_,rfl,(h.oldS s7)⟩ (h.own 3 rfl) hr7) rfl rfl rfl rfl fun w28 S48 us13 hv19 hr23=>?_))
   obtain ⟨S49,S50,cs10,us14,rfl,hv20,hr24⟩:=hv19.cons hr23
   obtain ⟨p32,k32,p33,k33,p34,k34,rfl,-,-,-⟩:=qcN (hv20.sh.own 0 rfl)
   obtain ⟨rfl,h⟩:=hv20.lastB hr24
   obtain ⟨S52,S53,S54,h⟩:=qhL h
   refine G0 8191 [9,10,11] (h.pick [8,9] rfl) rfl (Ao 13 16383 rfl (zs 3 h rfl fun w29 h=>G0 32767 [14] (h.pick [8,9] rfl) rfl (Ad ?_)))
   replace h:=h.pick [3,0,1,2,7] rfl
   exact rG ⟨_,_,_,_,_,_,_,_,_,_,rfl,h⟩ rfl
  refine qp qa h rfl rfl rfl fun w30 bb11 h=>Ag (h.pick [4,5] rfl) (Ao 5 4351 rfl (qmJ r5 h (cB 61 rfl) (qhZ (h.own 1 rfl) ⟨_,_,rfl,(h.oldS s6)⟩ hr6) rfl rfl rfl rfl fun w31 S55 p35 k35 h=>Ag (h.pick [5,6] rfl) (Ao 8 4607 rfl (qa5 (r7,r8) h (cB 91 rfl) (qle (h.old ha1) (h.old ha2) (h.own 2 rfl) (h.own 0 rfl) ⟨_,_,rfl,(h.oldS s7)⟩ (h.own 3 rfl) hr7) rfl rfl rfl rfl fun w32 S56 us15 hv22 hr26=>?_))))
  obtain ⟨S57,S58,cs11,us16,rfl,hv23,hr27⟩:=hv22.cons hr26
  obtain ⟨p36,k36,p37,k37,p38,k38,rfl,-,-,-⟩:=qcN (hv23.sh.own 0 rfl)
  obtain ⟨rfl,h⟩:=hv23.lastB hr27
  obtain ⟨S60,S61,S62,h⟩:=qhL h
  refine G0 8191 [9,10,11] (h.pick [8,9] rfl) rfl (Ao 13 16383 rfl (zs 4 h rfl fun w33 h=>G0 32767 [14] (h.pick [8,9] rfl) rfl (Ad ?_)))
  replace h:=h.pick [4,0,1,2,7] rfl
  exact rG ⟨_,_,_,_,_,_,_,_,_,_,rfl,h⟩ rfl
 rintro e1 w34 ⟨bb8,S37,p25,k25,S38,p26,k26,S39,p27,k27,rfl,h⟩
 refine X0 6 rfl (qh rfl hF ?_ ?_)<;>intro hF
 ·refine zSR (r_v (qaa qa [] [] rfl rfl rfl rfl rfl rfl rfl rfl) rfl (zs 4 h rfl fun w35 h=>X0 2 rfl ?_))
  obtain rfl:=qb hF
  exact qT qa (ρ:=(qy × Int)) [GoT.v qy [.slice none 0 0,.slice none 0 0,.slice none 0 0],GoT.v Int [.int .i64 3]] h ⟨⟨_,_,_,rfl,rfl,h.box 4 rfl,rfl⟩,rfl,trivial⟩ (PV.done h (qak h (qf4 (⟨[],[],[]⟩:qy) h qg0 qg0 qg0 (by rfl) (by rfl)) (qZ (qx (S:=fun _=>False) rfl)) (by rfl)))
 refine X1 4 0 h rfl (zs 4 h rfl fun w36 h=>X0 2 rfl ?_)
 obtain rfl:=qb hF
 exact qT qa (ρ:=(qy × Int)) [GoT.v qy (qbK r7 p27 p26 p25 k27 k26 k25),GoT.v Int [.int .i64 0]] h ⟨⟨_,_,_,rfl,rfl,h.box 4 rfl,rfl⟩,rfl,trivial⟩ (PV.done h (qak h (qf4 (⟨r7.Bg,r7.Ai,r7.Bc⟩:qy) h (qag 3 h rfl) (qag 2 h rfl) (qag 1 h rfl) (by rfl) (by rfl)) (qZ (qx (S:=fun _=>False) rfl)) (by rfl)))
def qhC (n:Nat) (v:(Option Tview)):Option qy :=
 (qck n v).bind fun r1 =>
 (mkS r1 (false:Bool)).bind fun x1 =>
 (mkS r1 ((⟨0,0⟩:qf):qf)).bind fun x2 =>
 (mkS r1 ((⟨0,0⟩:qf):qf)).bind fun x3 =>
 some (⟨x1,x2,x3⟩:qy)
theorem qmG {v:(Option Tview)} (ha1:Ro w v cs1) {r:qy} (hF:qhC n v=some r):RetV Tryz.prog 194 [GoT.v (Option Tview) cs1] w r:=by
 obtain ⟨p1,rfl,s1⟩:=qaq ha1
 refine zV 13 Tryz.func194 rfl fun h=>zSR (qp qa h rfl rfl rfl fun w1 bb1 h=>X0 4 rfl (zcI h hF (qeH (h.old s1)) rfl fun r1 w2 h hF=>X0 3 rfl (rA [] [] h rfl fun w3 h=>M0 21 [0,2,4] (h.pick [] rfl) rfl ?_)))
 obtain ⟨x1,hx1,hF⟩:=qc hF
 obtain ⟨x2,hx2,hF⟩:=qc hF
 obtain ⟨x3,hx3,hF⟩:=qc hF
 refine qnP (fun e w'=>∃ (S13:Nat→Prop) (p14:Option Addr) (S14:Nat→Prop) (p15:Option Addr) (S15:Nat→Prop) (p16:Option Addr),e=[(2,.pointer (some ⟨bb1,0,none⟩))]∧SH w w' [Ch.own S13 (x3:List qf) [.slice p14 x3.length x3.length],Ch.own S14 (x2:List qf) [.slice p15 x2.length x2.length],Ch.own S15 (x1:List Bool) [.slice p16 x1.length x1.length],Ch.box bb1 [.slice p16 x1.length x1.length,.slice p15 x2.length x2.length,.slice p14 x3.length x3.length] 107]) 0 (bits 8 255) ?_ ?_
 ·intro K
  refine qqW 1 3 5 rfl rfl rfl (bits 8 23) (bits 8 29) (bits 8 53) (by kernel_rfl) (by kernel_rfl) (by kernel_rfl) (by kernel_rfl) ?_ ?_ ?_
  ·obtain ⟨g13,g14,hx1⟩:=qU hx1
   refine qam qa Bool h rfl rfl rfl rfl rfl rfl rfl rfl rfl g13 g14 hx1 rfl fun w13 S10 p11 h=>Ag (h.pick [] rfl) (At 3 5 31 55 rfl ?_ ?_)
   ·obtain ⟨g15,g16,hx2⟩:=qU hx2
    refine qam qa qf h rfl rfl rfl rfl rfl rfl rfl rfl rfl g15 g16 hx2 rfl fun w14 S11 p12 h=>Ag (h.pick [] rfl) (Ao 5 63 rfl ?_)
    obtain ⟨g17,g18,hx3⟩:=qU hx3
    refine qam qa qf h rfl rfl rfl rfl rfl rfl rfl rfl rfl g17 g18 hx3 rfl fun w15 S12 p13 h=>Ag (h.pick [] rfl) (Aw 6 127 (fun w' hw=>qaa qa [0,1,2] [.tmp 7,.tmp 9,.tmp 11] rfl rfl rfl rfl rfl rfl rfl rfl) (h.pick [] rfl) rfl ?_)
    exact Ao 7 255 rfl (zs 3 h rfl fun w16 h=>Ag (h.pick [] rfl) (qfy [(2,_)] ⟨rfl,trivial⟩ (K _ _ ⟨_,_,_,_,_,_,rfl,h⟩)))
   obtain ⟨g15,g16,hx3⟩:=qU hx3
   refine qam qa qf h rfl rfl rfl rfl rfl rfl rfl rfl rfl g15 g16 hx3 rfl fun w14 S11 p12 h=>Ag (h.pick [] rfl) (Ao 3 63 rfl ?_)
   obtain ⟨g17,g18,hx2⟩:=qU hx2
   refine qam qa qf h rfl rfl rfl rfl rfl rfl rfl rfl rfl g17 g18 hx2 rfl fun w15 S12 p13 h=>Ag (h.pick [] rfl) (Aw 6 127 (fun w' hw=>qaa qa [0,1,2] [.tmp 7,.tmp 9,.tmp 11] rfl rfl rfl rfl rfl rfl rfl rfl) (h.pick [] rfl) rfl ?_)
   refine Ao 7 255 rfl (zs 3 h rfl fun w16 h=>Ag (h.pick [] rfl) ?_)
   replace h:=h.pick [1,0,2,3] rfl
   exact qfy [(2,_)] ⟨rfl,trivial⟩ (K _ _ ⟨_,_,_,_,_,_,rfl,h⟩)
  ·obtain ⟨g13,g14,hx2⟩:=qU hx2
   refine qam qa qf h rfl rfl rfl rfl rfl rfl rfl rfl rfl g13 g14 hx2 rfl fun w13 S10 p11 h=>Ag (h.pick [] rfl) (At 1 5 31 61 rfl ?_ ?_)
   ·obtain ⟨g15,g16,hx1⟩:=qU hx1
    refine qam qa Bool h rfl rfl rfl rfl rfl rfl rfl rfl rfl g15 g16 hx1 rfl fun w14 S11 p12 h=>Ag (h.pick [] rfl) (Ao 5 63 rfl ?_)
    obtain ⟨g17,g18,hx3⟩:=qU hx3
    refine qam qa qf h rfl rfl rfl rfl rfl rfl rfl rfl rfl g17 g18 hx3 rfl fun w15 S12 p13 h=>Ag (h.pick [] rfl) (Aw 6 127 (fun w' hw=>qaa qa [0,1,2] [.tmp 7,.tmp 9,.tmp 11] rfl rfl rfl rfl rfl rfl rfl rfl) (h.pick [] rfl) rfl ?_)
    refine Ao 7 255 rfl (zs 3 h rfl fun w16 h=>Ag (h.pick [] rfl) ?_)
    replace h:=h.pick [0,2,1,3] rfl
    exact qfy [(2,_)] ⟨rfl,trivial⟩ (K _ _ ⟨_,_,_,_,_,_,rfl,h⟩)
   obtain ⟨g15,g16,hx3⟩:=qU hx3
   refine qam qa qf h rfl rfl rfl rfl rfl rfl rfl rfl rfl g15 g16 hx3 rfl fun w14 S11 p12 h=>Ag (h.pick [] rfl) (Ao 1 63 rfl ?_)
   obtain ⟨g17,g18,hx1⟩:=qU hx1
   refine qam qa Bool h rfl rfl rfl rfl rfl rfl rfl rfl rfl g17 g18 hx1 rfl fun w15 S12 p13 h=>Ag (h.pick [] rfl) (Aw 6 127 (fun w' hw=>qaa qa [0,1,2] [.tmp 7,.tmp 9,.tmp 11] rfl rfl rfl rfl rfl rfl rfl rfl) (h.pick [] rfl) rfl ?_)
   refine Ao 7 255 rfl (zs 3 h rfl fun w16 h=>Ag (h.pick [] rfl) ?_)
   replace h:=h.pick [1,2,0,3] rfl
   exact qfy [(2,_)] ⟨rfl,trivial⟩ (K _ _ ⟨_,_,_,_,_,_,rfl,h⟩)
  obtain ⟨g13,g14,hx3⟩:=qU hx3
  refine qam qa qf h rfl rfl rfl rfl rfl rfl rfl rfl rfl g13 g14 hx3 rfl fun w13 S10 p11 h=>Ag (h.pick [] rfl) (At 1 3 55 61 rfl ?_ ?_)
  ·obtain ⟨g15,g16,hx1⟩:=qU hx1
   refine qam qa Bool h rfl rfl rfl rfl rfl rfl rfl rfl rfl g15 g16 hx1 rfl fun w14 S11 p12 h=>Ag (h.pick [] rfl) (Ao 3 63 rfl ?_)
   obtain ⟨g17,g18,hx2⟩:=qU hx2
   refine qam qa qf h rfl rfl rfl rfl rfl rfl rfl rfl rfl g17 g18 hx2 rfl fun w15 S12 p13 h=>Ag (h.pick [] rfl) (Aw 6 127 (fun w' hw=>qaa qa [0,1,2] [.tmp 7,.tmp 9,.tmp 11] rfl rfl rfl rfl rfl rfl rfl rfl) (h.pick [] rfl) rfl ?_)
   refine Ao 7 255 rfl (zs 3 h rfl fun w16 h=>Ag (h.pick [] rfl) ?_)
   replace h:=h.pick [2,0,1,3] rfl
   exact qfy [(2,_)] ⟨rfl,trivial⟩ (K _ _ ⟨_,_,_,_,_,_,rfl,h⟩)
  obtain ⟨g15,g16,hx2⟩:=qU hx2
  refine qam qa qf h rfl rfl rfl rfl rfl rfl rfl rfl rfl g15 g16 hx2 rfl fun w14 S11 p12 h=>Ag (h.pick [] rfl) (Ao 1 63 rfl ?_)
  obtain ⟨g17,g18,hx1⟩:=qU hx1
  refine qam qa Bool h rfl rfl rfl rfl rfl rfl rfl rfl rfl g17 g18 hx1 rfl fun w15 S12 p13 h=>Ag (h.pick [] rfl) (Aw 6 127 (fun w' hw=>qaa qa [0,1,2] [.tmp 7,.tmp 9,.tmp 11] rfl rfl rfl rfl rfl rfl rfl rfl) (h.pick [] rfl) rfl ?_)
  refine Ao 7 255 rfl (zs 3 h rfl fun w16 h=>Ag (h.pick [] rfl) ?_)
  replace h:=h.pick [2,1,0,3] rfl
  exact qfy [(2,_)] ⟨rfl,trivial⟩ (K _ _ ⟨_,_,_,_,_,_,rfl,h⟩)
 rintro e2 w17 ⟨S13,p14,S14,p15,S15,p16,rfl,h⟩
 refine Ad ?_
 obtain rfl:=qb hF
 exact qT qa (ρ:=qy) [GoT.v qy [.slice p16 x1.length x1.length,.slice p15 x2.length x2.length,.slice p14 x3.length x3.length]] h ⟨⟨_,_,_,rfl,rfl,h.box 3 rfl,rfl⟩,trivial⟩ (PV.done h (qZ (qf4 (⟨x1,x2,x3⟩:qy) h (qag 2 h rfl) (qag 1 h rfl) (qag 0 h rfl) (by rfl) (by rfl))))
def qj9 (_:Nat) (s:qe) (v0:Int):Option Bool :=
 some (s.Bq==v0)
theorem qou {s:qe} {v0:Int} (ha1:Ro w s cs1) {p1:Option Addr} (ha2:Ro w (some v0) [.pointer p1]) {r:Bool} (hF:qj9 n s v0=some r):RetV Tryz.prog 128 [GoT.v qe cs1,.pointer p1] w r:=by
 obtain rfl:=qE ha1
 obtain ⟨b1,o_1,cs2,rfl,-,hr1,hc1⟩:=PtR.get ha2 rfl
 obtain rfl:=hr1
 exact zV 8 Tryz.func128 rfl fun h=>zSR (qv h rfl rfl fun w1 bb1 h=>X1 6 0 h rfl (zc 0 (hc1.below h.below) rfl (X0 3 rfl (rb h hF rfl))))
def qS (s:(List qe)) (f_0:Int):Nat→Int→Option (Flow Int Int)
 | 0,_=>none
 | n+1,i1 =>
  bif decide (i1<(s.length:Int)) then
   (idx s i1).bind fun y1 =>
   (qj9 n y1 f_0).bind fun r1 =>
   bif r1 then some (.ret i1) else
   qS s f_0 n (W64 (i1+1))
  else
   some (.nxt i1)
def qaI (n:Nat) (s:(List qe)) (f_0:Int):Option Int :=
 (qS s f_0 n 0).bind fun o=>match o with
 | .ret r=>some r
 | .nxt _ =>
  some (-1)
theorem qfj {s:(List qe)} {f_0:Int} (ha1:Ro w s cs1) {p2:Option Addr} (ha2:Ro w (some f_0) [.pointer p2]) {r:Int} (hF:qaI n s f_0=some r):RetV Tryz.prog 127 [GoT.v (List qe) cs1,.func (.func 128) #[] #[.pointer p2]] w r:=by
 obtain ⟨p1,k1,rfl,s1⟩:=ha1
 obtain ⟨b1,o_1,cs2,rfl,-,hr1,hc1⟩:=PtR.get ha2 rfl
 obtain rfl:=hr1
 refine zV 19 Tryz.func127 rfl fun h=>X0 11 rfl ?_
 obtain ⟨o1,hF,hK1⟩:=qc hF
 refine qm (rL (fun m e w'=>∃ (i1:Int),qS s f_0 m i1=some o1∧e=[(0,.slice p1 s.length k1),(1,.func (.func 128) #[] #[.pointer (some ⟨b1,o_1,none⟩)]),(7,.int .i64 (s.length:Int)),(8,.int .i64 i1)]∧SH w w' []) n ⟨_,hF,rfl,h⟩ rfl ?_)
 rintro m1 e1 w1 ⟨i1,hF,rfl,h⟩
 rcases m1 with _|m1
 ·cases hF
 refine X0 5 rfl (qh rfl hF ?_ ?_)<;>intro hF
 ·refine X0 13 rfl ?_
  obtain ⟨y1,hy1,hF,he1,b2,_,q1,cs3,hp1,hq1,hr2,hc3⟩:=s1.ix hF
  obtain rfl:=qE hr2
  refine zxe hp1 hq1 he1 rfl (zc 0 (hc3.below h.below) rfl (zcB h hF (qou (qaB y1) (h.old ha2)) rfl fun r1 w2 h hF=>qcH (qh rfl hF ?_ ?_)))<;>intro hF
  ·refine X0 5 rfl ?_
   obtain rfl:=qb hF;replace hF:=hK1
   exact ri h hF rfl
  exact X0 6 rfl (rK ⟨_,hF,rfl,h⟩ rfl)
 refine qq rfl ?_
 obtain rfl:=qb hF;replace hF:=hK1
 exact X0 4 rfl (ri h hF rfl)
def qeh (n:Nat) (list:(List qe)) (node:Int):Option (qe × Bool) :=
 (qaI n list node).bind fun r1 =>
 bif decide (r1 ≥ 0) then
  (idx list r1).bind fun y1 =>
  some (y1,true)
 else
  some ((⟨0,(⟨0,0⟩:qf),(⟨0,0⟩:qf)⟩:qe),false)
theorem qjl {list:(List qe)} {node:Int} (ha1:Ro w list cs1) {r:(qe × Bool)} (hF:qeh n list node=some r):RetV Tryz.prog 79 [GoT.v (List qe) cs1,.int .i64 node] w r:=by
 obtain ⟨p1,k1,rfl,s1⟩:=ha1
 refine zV 17 Tryz.func79 rfl fun h=>zSR (qv h rfl rfl fun w1 bb1 h=>qp qa h rfl rfl rfl fun w2 bb2 h=>X0 7 rfl (zcI h hF (qfj ⟨_,_,rfl,(h.oldS s1)⟩ (qgS (x:=node) 1 h rfl rfl)) rfl fun r1 w3 h hF=>X0 7 rfl (qh rfl hF ?_ ?_)))<;>intro hF
 ·refine X0 4 rfl ?_
  obtain ⟨y1,hy1,hF,he1,b1,_,q1,cs2,hp1,hq1,hr2,hc2⟩:=s1.ix hF
  obtain rfl:=qE hr2
  refine zxe hp1 hq1 he1 rfl (zc 0 (hc2.below h.below) rfl (zs 0 h rfl fun w4 h=>X0 2 rfl ?_))
  obtain rfl:=qb hF
  exact qT qa (ρ:=(qe × Bool)) [GoT.v qe (qfG y1),GoT.v Bool [.bool true]] h ⟨⟨_,_,_,rfl,rfl,h.box 0 rfl,rfl⟩,rfl,trivial⟩ (PV.done h (qak h (qx (S:=fun _=>False) (qaB y1)) (qZ (qx (S:=fun _=>False) rfl)) (by rfl)))
 refine zKSR (r_v (qaa qa [] [] rfl rfl rfl rfl rfl rfl rfl rfl) rfl (zs 0 h rfl fun w5 h=>X0 2 rfl ?_))
 obtain rfl:=qb hF
 exact qT qa (ρ:=(qe × Bool)) [GoT.v qe [.int .i64 0,.int .i64 0,.int .i64 0,.int .i64 0,.int .i64 0],GoT.v Bool [.bool false]] h ⟨⟨_,_,_,rfl,rfl,h.box 0 rfl,rfl⟩,rfl,trivial⟩ (PV.done h (qak h (qx (S:=fun _=>False) (qaB (⟨0,(⟨0,0⟩:qf),(⟨0,0⟩:qf)⟩:qe))) (qZ (qx (S:=fun _=>False) rfl)) (by rfl)))
def qeZ (_:Nat) (v:(Option Tview)) (l:qu):Option Int :=
 (v).bind fun y1 =>
 (idx y1.places (W64 (l.To.tdiv 2))).bind fun y2 =>
 some y2.net
theorem qij {v:(Option Tview)} {l:qu} (ha1:Ro w v cs1) (ha2:Ro w l cs2) {r:Int} (hF:qeZ n v l=some r):RetV Tryz.prog 129 [GoT.v (Option Tview) cs1,GoT.v qu cs2] w r:=by
 obtain ⟨p1,rfl,s1⟩:=qaq ha1
 obtain rfl:=qav ha2
 refine zV 15 Tryz.func129 rfl fun h=>zSR (qv h rfl rfl fun w1 bb1 h=>X0 3 rfl (rD (zd1 rfl ?_)))
 obtain ⟨y1,hy1,hF⟩:=qc hF
 obtain ⟨b1,o_1,cs3,rfl,-,hr1,hc1⟩:=PtR.get s1 hy1
 obtain ⟨p2,k1,p3,k2,p4,k3,p5,k4,p6,k5,p7,k6,p8,k7,p9,k8,p10,k9,p11,k10,rfl,s2,s3,s4,s5,s6,s7,s8,s9,s10,s11⟩:=qbP hr1
 refine zd2 rfl (zdc 5 (hc1.below h.below) rfl (Y1 2 0 h rfl ?_))
 refine zd1 rfl ?_
 obtain ⟨y2,hy2,hF,he1,b2,_,q1,cs4,hp1,hq1,hr2,hc2⟩:=s7.ix hF
 obtain rfl:=qgW hr2
 exact zdxe hp1 hq1 he1 rfl (zd1 rfl (zdc 2 (hc2.below h.below) rfl (zd1 rfl (dN h fun w2 h=>ri h hF rfl))))
def qgs (_:Nat) (v:(Option Tview)) (l:qu):Option qG :=
 (v).bind fun y1 =>
 (idx y1.places (W64 (l.To.tdiv 2))).bind fun y2 =>
 (idx y1.Af.Ab.Aa y2.instance_).bind fun y3 =>
 (idx y1.Af.Av.As y3.Bt).bind fun y4 =>
 (idx y4.Au l.Bz).bind fun y5 =>
 some y5
theorem qkW {A:Nat→Prop} (hA:∀ b,A b→old w b) {v:(Option Tview)} {l:qu} (ha1:GoT.R w A v cs1) (ha2:GoT.R w A l cs2) {r:qG} (hF:qgs n v l=some r):RetG Tryz.prog 130 [GoT.v (Option Tview) cs1,GoT.v qu cs2] w A r:=by
 obtain ⟨p1,rfl,s1⟩:=qaq ha1
 obtain rfl:=qav ha2
 have hg:=Rg.start hA
 refine qek Tryz.func130 rfl (m:=39) rfl rfl (fun h=>?_)
 refine zSR (qv h rfl rfl fun w1 bb1 h=>qp qa h rfl rfl rfl fun w2 bb2 h=>zNS (rA [] [1] h rfl fun w3 h=>M0 1 [0] (h.pick [1] rfl) rfl ?_))
 obtain ⟨y1,hy1,hF⟩:=qc hF
 obtain ⟨b1,o_1,cs3,rfl,-,hr1,hc1⟩:=PtR.get s1 hy1
 obtain ⟨p2,k1,p3,k2,p4,k3,p5,k4,p6,k5,p7,k6,p8,k7,p9,k8,p10,k9,p11,k10,rfl,s2,s3,s4,s5,s6,s7,s8,s9,s10,s11⟩:=qbP hr1
 refine M0 31 [1,2,3,4] (h.pick [1] rfl) rfl (Al 5 63 1 hc1 (h.pick [1] rfl) rfl (M0 511 [6,7,8] (h.pick [1] rfl) rfl (Al 9 1023 5 hc1 (h.pick [1] rfl) rfl (M1 8191 [10,11,12] 0 (h.pick [1] rfl) rfl ?_))))
 obtain ⟨y2,hy2,hF,he1,b2,_,q1,cs4,hp1,hq1,hr2,hc2⟩:=s7.ix hF
 obtain rfl:=qgW hr2
 refine Ae 13 16383 hp1 hq1 he1 (h.pick [1] rfl) rfl (M0 32767 [14] (h.pick [1] rfl) rfl (Al 15 65535 0 hc2 (h.pick [1] rfl) rfl ?_))
 obtain ⟨y3,hy3,hF,he2,b3,_,q2,cs5,hp2,hq2,hr3,hc3⟩:=s3.ix hF
 obtain ⟨p12,k11,rfl,s12⟩:=qP hr3
 refine Ae 16 131071 hp2 hq2 he2 (h.pick [1] rfl) rfl (Al 17 262143 0 hc3 (h.pick [1] rfl) rfl (Ao 18 524287 rfl (qp qa h rfl rfl rfl fun w4 bb3 h=>Ag (h.pick [2] rfl) (Ao 19 1048575 rfl (zs 0 h rfl fun w5 h=>Ag (h.pick [2] rfl) (Ad (qcP (rA [] [0,2] h rfl fun w6 h=>M0 31 [0,1,2,3,4] (h.pick [0,2] rfl) rfl (Al 5 63 0 hc1 (h.pick [0,2] rfl) rfl (M1 255 [6,7] 0 (h.pick [0,2] rfl) rfl ?_))))))))))
 obtain ⟨y4,hy4,hF,he3,b4,_,q3,cs6,hp3,hq3,hr4,hc4⟩:=s2.ix hF
 obtain ⟨p13,k12,p14,k13,p15,k14,rfl,s13,s14,s15⟩:=qad hr4
 refine Ae 8 511 hp3 hq3 he3 (h.pick [0,2] rfl) rfl (M0 1023 [9] (h.pick [0,2] rfl) rfl (Al 10 2047 3 hc4 (h.pick [0,2] rfl) rfl (M1 8191 [11,12] 1 (h.pick [0,2] rfl) rfl ?_)))
 obtain ⟨y5,hy5,hF,he4,b5,_,q4,cs7,hp4,hq4,hr5,hc5⟩:=s14.ix hF
 obtain ⟨p16,k15,p17,k16,rfl,s16,s17⟩:=qae hr5
 refine Ae 13 16383 hp4 hq4 he4 (h.pick [0,2] rfl) rfl (Al 14 32767 0 hc5 (h.pick [0,2] rfl) rfl (Ao 15 65535 rfl (zs 1 h rfl fun w7 h=>Ag (h.pick [0,2] rfl) (Ad ?_))))
 obtain rfl:=qb hF
 have hv1:GoRs.Rs (ρ:=qG) h.wc (reg A w h.wc) y5 [GoT.v qG (qg6 y5 p16 p17 k15 k16)]:=⟨_,rfl,(hg.outR h (qfY y5 (hg.inS h s16) (hg.inS h s17)))⟩
 exact qdS qa (ρ:=qG) (r:=y5) [GoT.v qG (qg6 y5 p16 p17 k15 k16)] h ⟨⟨_,_,_,rfl,rfl,h.box 1 rfl,rfl⟩,trivial⟩ hv1
def qfa (_:Nat) (a:Int) (b:Int) (mode:Int):Option Int :=
 (quoS a b).bind fun y1 =>
 (remS a b).bind fun y2 =>
 (
  bif (mode==0) then some (decide (y2<0)) else
  some false).bind fun b1 =>
 bif b1 then some (W64 (y1-1)) else
 bif (mode==1) then
  bif decide (y2 > 0) then some (W64 (y1+1)) else
  some y1
 else
  some y1
theorem qiY {a:Int} {b:Int} {mode:Int}  {r:Int} (hF:qfa n a b mode=some r):RetV Tryz.prog 132 [.int .i64 a,.int .i64 b,.int .i64 mode] w r:=by
 refine zV 34 Tryz.func132 rfl fun h=>X0 5 rfl (rD (zd2 rfl ?_))
 obtain ⟨y1,hx1,hF⟩:=qc hF
 obtain ⟨g1,hx1⟩:=qsF hx1
 refine d_v (fun _ hb=>qzl g1 rfl rfl) rfl ?_
 rw [hx1]
 refine zd2 rfl ?_
 obtain ⟨y2,hx2,hF⟩:=qc hF
 obtain ⟨g2,hx2⟩:=qsv hx2
 refine d_v (fun _ hb=>qzs g2 rfl rfl) rfl ?_
 rw [hx2]
 refine zd2 rfl (dN h fun w1 h=>X0 3 rfl ?_)
 obtain ⟨KF1,hKF1,o1,hF,hK1⟩:=bindE hF
 refine qbe (fun e w'=>∃ (b1:Bool),KF1 b1=some r∧e=[(2,.int .i64 mode),(7,.int .i64 y1),(8,.int .i64 y2),(15,.bool b1)]∧SH w w' []) ?_ ?_
 ·refine X0 4 rfl (qj (t:=18) hF rfl ?_ ?_)<;>intro hF
  ·refine X0 7 rfl ?_
   obtain rfl:=qb hF
   exact rG ⟨_,hK1,rfl,h⟩ rfl
  refine X0 5 rfl ?_
  obtain rfl:=qb hF
  exact rG ⟨_,hK1,rfl,h⟩ rfl
 rintro e1 w2 ⟨b1,hF,rfl,h⟩
 subst hKF1
 refine qh rfl hF ?_ ?_<;>intro hF
 ·exact X0 6 rfl (ri h hF rfl)
 refine X0 5 rfl (qj (t:=27) hF rfl ?_ ?_)<;>intro hF
 ·refine X0 7 rfl (qh rfl hF ?_ ?_)<;>intro hF
  ·exact X0 6 rfl (ri h hF rfl)
  exact X0 7 rfl (ri h hF rfl)
 exact X0 5 rfl (qbW rfl rfl (X0 7 rfl (ri h hF rfl)))
def qhY (_:Nat) (x:Int):Option Bool :=
 some (x != x)
theorem qkQ {x:Int}  {r:Bool} (hF:qhY n x=some r):RetV Tryz.prog 258 [.int .i64 x] w r:=by
 exact zV 6 Tryz.func258 rfl fun h=>X0 11 rfl (rb h hF rfl)
def qk2 (n:Nat) (x:Int) (y:Int):Option Bool :=
 (qhY n x).bind fun r1 =>
 bif r1 then
  (qhY n y).bind fun r2 =>
  bif (!r2) then some true else
  some (decide (x<y))
 else
  some (decide (x<y))
theorem qpk {x:Int} {y:Int}  {r:Bool} (hF:qk2 n x y=some r):RetV Tryz.prog 234 [.int .i64 x,.int .i64 y] w r:=by
 refine zV 17 Tryz.func234 rfl fun h=>X0 7 rfl (zcB h hF qkQ rfl fun r1 w1 h hF=>zp1 rfl (qj (t:=7) hF rfl ?_ ?_))<;>intro hF
 ·refine X0 3 rfl (zcB h hF qkQ rfl fun r2 w2 h hF=>X0 4 rfl (qj (t:=12) hF rfl ?_ ?_))<;>intro hF
  ·exact X0 6 rfl (rb h hF rfl)
  exact X0 9 rfl (rb h hF rfl)
 exact X0 14 rfl (rb h hF rfl)
def qf5 (_:Nat) (x:Int):Option Bool :=
 some (x != x)
theorem qi7 {x:Int}  {r:Bool} (hF:qf5 n x=some r):RetV Tryz.prog 235 [.int .i64 x] w r:=by
 exact zV 6 Tryz.func235 rfl fun h=>X0 11 rfl (rb h hF rfl)
def qas (x:(List Int)) (target:Int):Nat→Int→Int→Option (Int × Int)
 | 0,_,_=>none
 | n+1,i1,i2 =>
  bif decide (i1<i2) then
   (shrS .u64 (IntKind.wrap .u64 (W64 (i1+i2))) 1).bind fun y1 =>
   (idx x (W64 y1)).bind fun y2 =>
   (qk2 n y2 target).bind fun r1 =>
   bif r1 then qas x target n (W64 ((W64 y1)+1)) i2 else
   qas x target n i1 (W64 y1)
  else
   some (i1,i2)
def qda (n:Nat) (x:(List Int)) (target:Int):Option (Int × Bool) :=
 (qas x target n 0 (x.length:Int)).bind fun o=>match o with
 | (i1,_) =>
  bif decide (i1<(x.length:Int)) then
   (idx x i1).bind fun y3 =>
   bif (y3==target) then some (i1,true) else
   (idx x i1).bind fun y4 =>
   (qf5 n y4).bind fun r2 =>
   bif r2 then
    (qf5 n target).bind fun r3 =>
    some (i1,r3)
   else
    some (i1,false)
  else
   some (i1,false)
theorem qkb {x:(List Int)} {target:Int} (ha1:Ro w x cs1) {r:(Int × Bool)} (hF:qda n x target=some r):RetV Tryz.prog 202 [GoT.v (List Int) cs1,.int .i64 target] w r:=by
 obtain ⟨p1,k1,rfl,s1⟩:=ha1
 refine zV 54 Tryz.func202 rfl fun h=>X0 18 rfl ?_
 obtain ⟨o1,hF,hK1⟩:=qc hF
 refine qm (rL (fun m e w'=>∃ (i1:Int) (i2:Int),qas x target m i1 i2=some o1∧e=[(0,.slice p1 x.length k1),(1,.int .i64 target),(6,.int .i64 (x.length:Int)),(7,.int .i64 i1),(8,.int .i64 i2)]∧SH w w' []) n ⟨_,_,hF,rfl,h⟩ rfl ?_)
 rintro m1 e1 w1 ⟨i1,i2,hF,rfl,h⟩
 rcases m1 with _|m1
 ·cases hF
 refine X0 7 rfl (qh rfl hF ?_ ?_)<;>intro hF
 ·refine X0 8 rfl ?_
  obtain ⟨y1,hx1,hF⟩:=qc hF
  obtain ⟨g1,hx1⟩:=qwG hx1
  refine r_v (qAa g1 rfl rfl) rfl ?_
  rw [hx1]
  refine X0 7 rfl ?_
  obtain ⟨y2,hy1,hF,he1,b1,_,q1,cs2,hp1,hq1,rfl,hc2⟩:=s1.ix hF
  refine zxe hp1 hq1 he1 rfl (zc 0 (hc2.below h.below) rfl (zp1 rfl (zcB h hF qpk rfl fun r1 w2 h hF=>qcH (qh rfl hF ?_ ?_))))<;>intro hF
  ·exact X0 6 rfl (rK ⟨_,_,hF,rfl,h⟩ rfl)
  exact X0 5 rfl (rK ⟨_,_,hF,rfl,h⟩ rfl)
 refine qq rfl ?_
 obtain rfl:=qb hF;replace hF:=hK1
 refine X0 7 rfl (qj (t:=35) hF rfl ?_ ?_)<;>intro hF
 ·refine X0 5 rfl ?_
  obtain ⟨y3,hy2,hF,he2,b2,_,q2,cs3,hp2,hq2,rfl,hc4⟩:=s1.ix hF
  refine zxe hp2 hq2 he2 rfl (X0 1 rfl (zc 0 (hc4.below h.below) rfl (X0 6 rfl (qj (t:=42) hF rfl ?_ ?_))))<;>intro hF
  ·refine X0 15 rfl ?_
   obtain rfl:=qb hF
   exact qT qa (ρ:=(Int × Bool)) [GoT.v Int [.int .i64 i1],GoT.v Bool [.bool true]] h ⟨rfl,rfl,trivial⟩ (PV.done h (qak h (qx (S:=fun _=>False) rfl) (qZ (qx (S:=fun _=>False) rfl)) (by rfl)))
  refine X0 5 rfl ?_
  obtain ⟨y4,hy3,hF,he3,b3,_,q3,cs4,hp3,hq3,rfl,hc5⟩:=s1.ix hF
  refine zxe hp3 hq3 he3 rfl (X0 1 rfl (zc 0 (hc5.below h.below) rfl (X0 1 rfl (zcB h hF qi7 rfl fun r2 w3 h hF=>X0 2 rfl (qj (t:=48) hF rfl ?_ ?_)))))<;>intro hF
  ·refine X0 3 rfl (zcB h hF qi7 rfl fun r3 w4 h hF=>X0 8 rfl ?_)
   obtain rfl:=qb hF
   exact qT qa (ρ:=(Int × Bool)) [GoT.v Int [.int .i64 i1],GoT.v Bool [.bool r3]] h ⟨rfl,rfl,trivial⟩ (PV.done h (qak h (qx (S:=fun _=>False) rfl) (qZ (qx (S:=fun _=>False) rfl)) (by rfl)))
  refine X0 10 rfl ?_
  obtain rfl:=qb hF
  exact qT qa (ρ:=(Int × Bool)) [GoT.v Int [.int .i64 i1],GoT.v Bool [.bool false]] h ⟨rfl,rfl,trivial⟩ (PV.done h (qak h (qx (S:=fun _=>False) rfl) (qZ (qx (S:=fun _=>False) rfl)) (by rfl)))
 refine X0 21 rfl ?_
 obtain rfl:=qb hF
 exact qT qa (ρ:=(Int × Bool)) [GoT.v Int [.int .i64 i1],GoT.v Bool [.bool false]] h ⟨rfl,rfl,trivial⟩ (PV.done h (qak h (qx (S:=fun _=>False) rfl) (qZ (qx (S:=fun _=>False) rfl)) (by rfl)))
def qhg (n:Nat) (axis:(List Int)) (x:Int):Option ((List Tweight) × Int) :=
 (idx axis 0).bind fun y1 =>
 (idx axis (W64 ((axis.length:Int)-1))).bind fun y2 =>
 (qda n axis (if y2<(if y1 > x then y1 else x) then y2 else (if y1 > x then y1 else x))).bind fun o=>match o with
  | (r2,r3) =>
   bif r3 then some (([(⟨r2,1⟩:Tweight)]:List Tweight),1) else
   (idx axis r2).bind fun y3 =>
   (idx axis (W64 (r2-1))).bind fun y4 =>
   (idx axis r2).bind fun y5 =>
   (idx axis (W64 (r2-1))).bind fun y6 =>
   some (([(⟨W64 (r2-1),W64 (y3-(if y2<(if y1 > x then y1 else x) then y2 else (if y1 > x then y1 else x)))⟩:Tweight),(⟨r2,W64 ((if y2<(if y1 > x then y1 else x) then y2 else (if y1 > x then y1 else x))-y4)⟩:Tweight)]:List Tweight),W64 (y5-y6))
theorem qm1 {axis:(List Int)} {x:Int} (ha1:Ro w axis cs1) {r:((List Tweight) × Int)} (hF:qhg n axis x=some r):RetV Tryz.prog 170 [GoT.v (List Int) cs1,.int .i64 x] w r:=by
 obtain ⟨p1,k1,rfl,s1⟩:=ha1
 refine zV 59 Tryz.func170 rfl fun h=>X0 6 rfl (rD (zd2 rfl ?_))
 obtain ⟨y1,hy1,hF,he1,b1,_,q1,cs2,hp1,hq1,rfl,hc1⟩:=s1.ix hF
 refine zdxe hp1 hq1 he1 rfl (zdc 0 (hc1.below h.below) rfl (zd5 rfl ?_))
 obtain ⟨y2,hy2,hF,he2,b2,_,q2,cs3,hp2,hq2,rfl,hc2⟩:=s1.ix hF
 refine zdxe hp2 hq2 he2 rfl (zdc 0 (hc2.below h.below) rfl (zd2 rfl (dN h fun w1 h=>X0 4 rfl ?_)))
 obtain ⟨r1,hr3,hF⟩:=qc hF
 obtain ⟨r2,r3⟩:=r1
 refine qa5 (r2,r3) h (cB 202 rfl) (qkb ⟨_,_,rfl,(h.oldS s1)⟩ hr3) rfl rfl rfl rfl fun w2 S1 us1 hv1 hr4=>?_
 obtain ⟨S2,us2,rfl,hv2,hr5⟩:=hv1.consI hr4
 obtain ⟨rfl,h⟩:=hv2.lastB hr5
 refine X0 11 rfl (qh rfl hF ?_ ?_)<;>intro hF
 ·refine X0 3 rfl (r_v (qaa qa [0,1] [.tmp 27,.const (.int .i64 (1))] rfl rfl rfl rfl rfl rfl rfl rfl) rfl (qL qa [.tmp 28] _ ([(⟨r2,1⟩:Tweight)]:List Tweight) h rfl rfl rfl rfl rfl rfl rfl rfl rfl ⟨(qnn (⟨r2,1⟩:Tweight)),trivial⟩ rfl fun w3 p2 S4 h=>X0 3 rfl ?_))
  obtain rfl:=qb hF
  exact qT qa (ρ:=((List Tweight) × Int)) [GoT.v (List Tweight) [.slice p2 1 1],GoT.v Int [.int .i64 1]] h ⟨rfl,rfl,trivial⟩ (PV.done h (qak h (qag 0 h rfl) (qZ (qx (S:=fun _=>False) rfl)) (by rfl)))
 refine zKS (rA [] [] h rfl fun w4 h=>M0 15 [0,1,2,3] (h.pick [] rfl) rfl ?_)
 obtain ⟨y3,hy3,hF,he3,b3,_,q3,cs4,hp3,hq3,rfl,hc4⟩:=s1.ix hF
 refine Ae 4 31 hp3 hq3 he3 (h.pick [] rfl) rfl (Al 5 63 0 hc4 (h.pick [] rfl) rfl (M0 255 [6,7] (h.pick [] rfl) rfl (Aw 8 511 (fun w' hw=>qaa qa [0,1] [.tmp 31,.tmp 37] rfl rfl rfl rfl rfl rfl rfl rfl) (h.pick [] rfl) rfl ?_)))
 refine M0 16383 [9,10,11,12,13] (h.pick [] rfl) rfl ?_
 obtain ⟨y4,hy4,hF,he4,b4,_,q4,cs5,hp4,hq4,rfl,hc5⟩:=s1.ix hF
 refine Ae 14 32767 hp4 hq4 he4 (h.pick [] rfl) rfl (Al 15 65535 0 hc5 (h.pick [] rfl) rfl (M0 131071 [16] (h.pick [] rfl) rfl (Aw 17 262143 (fun w' hw=>qaa qa [0,1] [.tmp 39,.tmp 46] rfl rfl rfl rfl rfl rfl rfl rfl) (h.pick [] rfl) rfl ?_)))
 refine M0 1835007 [19,20] (h.pick [] rfl) rfl ?_
 obtain ⟨y5,hy5,hF,he5,b5,_,q5,cs6,hp5,hq5,rfl,hc6⟩:=s1.ix hF
 refine Ae 21 3932159 hp5 hq5 he5 (h.pick [] rfl) rfl (Al 22 8126463 0 hc6 (h.pick [] rfl) rfl (M0 66846719 [23,24,25] (h.pick [] rfl) rfl ?_))
 obtain ⟨y6,hy6,hF,he6,b6,_,q6,cs7,hp6,hq6,rfl,hc7⟩:=s1.ix hF
 refine Ae 26 133955583 hp6 hq6 he6 (h.pick [] rfl) rfl (Al 27 268173311 0 hc7 (h.pick [] rfl) rfl (M0 536608767 [28] (h.pick [] rfl) rfl (Ao 18 536870911 rfl (qL qa [.tmp 38,.tmp 47] _ ([(⟨W64 (r2-1),W64 (y3-(if y2<(if y1 > x then y1 else x) then y2 else (if y1 > x then y1 else x)))⟩:Tweight),(⟨r2,W64 ((if y2<(if y1 > x then y1 else x) then y2 else (if y1 > x then y1 else x))-y4)⟩:Tweight)]:List Tweight) h rfl rfl rfl rfl rfl rfl rfl rfl rfl ⟨(qnn (⟨W64 (r2-1),W64 (y3-(if y2<(if y1 > x then y1 else x) then y2 else (if y1 > x then y1 else x)))⟩:Tweight)),(qnn (⟨r2,W64 ((if y2<(if y1 > x then y1 else x) then y2 else (if y1 > x then y1 else x))-y4)⟩:Tweight)),trivial⟩ rfl fun w5 p3 S5 h=>G0 2147483647 [29,30] (h.pick [] rfl) rfl (Ad ?_)))))
 obtain rfl:=qb hF
 exact qT qa (ρ:=((List Tweight) × Int)) [GoT.v (List Tweight) [.slice p3 2 2],GoT.v Int [.int .i64 (W64 (y5-y6))]] h ⟨rfl,rfl,trivial⟩ (PV.done h (qak h (qag 0 h rfl) (qZ (qx (S:=fun _=>False) rfl)) (by rfl)))
def qba (a_0:qr) (r5:(List Tweight)) (y1:Tweight):Nat→Int→Int→Option (Int × Int)
 | 0,_,_=>none
 | n+1,i3,i4 =>
  bif decide (i4<(r5.length:Int)) then
   (idx r5 i4).bind fun y2 =>
   (idx a_0.Bh (W64 ((W64 (y1.index*(a_0.Bj.length:Int)))+y2.index))).bind fun y3 =>
   qba a_0 r5 y1 n (W64 (i3+(W64 ((W64 (y3*y1.part))*y2.part)))) (W64 (i4+1))
  else
   some (i3,i4)
def qa7 (a_0:qr) (r2:(List Tweight)) (r5:(List Tweight)):Nat→Int→Int→Option (Int × Int)
 | 0,_,_=>none
 | n+1,i1,i2 =>
  bif decide (i2<(r2.length:Int)) then
   (idx r2 i2).bind fun y1 =>
   (qba a_0 r5 y1 n i1 0).bind fun o=>match o with
   | (i3,_) =>
    qa7 a_0 r2 r5 n i3 (W64 (i2+1))
  else
   some (i1,i2)
def qdJ (n:Nat) (a_0:qr) (a_1:Int) (a_2:Int) (a_3:Int):Option Int :=
 (qhg n a_0.Bm a_1).bind fun o=>match o with
  | (r2,r3) =>
   (qhg n a_0.Bj a_2).bind fun o=>match o with
    | (r5,r6) =>
     (qa7 a_0 r2 r5 n 0 0).bind fun o=>match o with
     | (i1,_) =>
      (qfa n i1 (W64 (r3*r6)) a_3).bind fun r7 =>
      some r7
theorem qj4 {a_0:qr} {a_1:Int} {a_2:Int} {a_3:Int} (ha1:Ro w a_0 cs1) {r:Int} (hF:qdJ n a_0 a_1 a_2 a_3=some r):RetV Tryz.prog 131 [GoT.v qr cs1,.int .i64 a_1,.int .i64 a_2,.int .i64 a_3] w r:=by
 obtain ⟨p1,k1,p2,k2,p3,k3,rfl,s1,s2,s3⟩:=qaE ha1
 refine zV 73 Tryz.func131 rfl fun h=>zSR (qv h rfl rfl fun w1 bb1 h=>X1 7 0 h rfl ?_)
 obtain ⟨r1,hr1,hF⟩:=qc hF
 obtain ⟨r2,r3⟩:=r1
 refine qa5 (r2,r3) h (cB 170 rfl) (qm1 ⟨_,_,rfl,(h.oldS s1)⟩ hr1) rfl rfl rfl rfl fun w2 S1 us1 hv1 hr2=>?_
 obtain ⟨S2,S3,p4,k4,us2,rfl,hv2,hr3⟩:=hv1.consL hr2
 obtain ⟨rfl,h⟩:=hv2.lastI hr3
 refine X1 11 1 h rfl ?_
 obtain ⟨r4,hr5,hF⟩:=qc hF
 obtain ⟨r5,r6⟩:=r4
 refine qa5 (r5,r6) h (cB 170 rfl) (qm1 ⟨_,_,rfl,(h.oldS s2)⟩ hr5) rfl rfl rfl rfl fun w3 S5 us3 hv4 hr6=>?_
 obtain ⟨S6,S7,p5,k5,us4,rfl,hv5,hr7⟩:=hv4.consL hr6
 obtain ⟨rfl,h⟩:=hv5.lastI hr7
 refine X0 17 rfl ?_
 obtain ⟨o1,hF,hK1⟩:=qc hF
 refine qm (rL (fun m e w'=>∃ (i1:Int) (i2:Int),qa7 a_0 r2 r5 m i1 i2=some o1∧e=[(3,.int .i64 a_3),(4,.pointer (some ⟨bb1,0,none⟩)),(10,.int .i64 r3),(11,.slice p5 r5.length k5),(12,.int .i64 r6),(13,.int .i64 i1),(32,.slice p4 r2.length k4),(33,.int .i64 (r2.length:Int)),(34,.int .i64 i2)]∧SH w w' [Ch.own S6 (r5:List Tweight) [.slice p5 r5.length k5],Ch.own S2 (r2:List Tweight) [.slice p4 r2.length k4],Ch.box bb1 (qgV a_0 p1 p2 p3 k1 k2 k3) 206]) n ⟨_,_,hF,rfl,h⟩ rfl ?_)
 rintro m1 e1 w4 ⟨i1,i2,hF,rfl,h⟩
 rcases m1 with _|m1
 ·cases hF
 refine X0 5 rfl (qh rfl hF ?_ ?_)<;>intro hF
 ·refine zKSBSR ?_
  obtain ⟨y1,hy1,hF,he1,b1,_,q1,cs2,hp1,hq1,hr9,hc2⟩:=(h.sl 1 rfl).1.ix hF
  obtain rfl:=qpl hr9
  refine zx hp1 hq1 ⟨he1.1,qC he1.2.1 (h.sl 1 rfl).2⟩ rfl (zc 0 hc2 rfl (qp qa h rfl rfl rfl fun w5 bb2 h=>zs 0 h rfl fun w6 h=>X0 7 rfl ?_))
  obtain ⟨o2,hF,hK2⟩:=qc hF
  refine qm (rL (fun m e w'=>∃ (i3:Int) (i4:Int),qba a_0 r5 y1 m i3 i4=some o2∧e=[(3,.int .i64 a_3),(4,.pointer (some ⟨bb1,0,none⟩)),(10,.int .i64 r3),(11,.slice p5 r5.length k5),(12,.int .i64 r6),(13,.int .i64 i3),(15,.pointer (some ⟨bb2,0,none⟩)),(32,.slice p4 r2.length k4),(33,.int .i64 (r2.length:Int)),(34,.int .i64 i2),(38,.slice p5 r5.length k5),(39,.int .i64 (r5.length:Int)),(40,.int .i64 i4)]∧SH w w' [Ch.box bb2 (qpy y1) 264,Ch.own S6 (r5:List Tweight) [.slice p5 r5.length k5],Ch.own S2 (r2:List Tweight) [.slice p4 r2.length k4],Ch.box bb1 (qgV a_0 p1 p2 p3 k1 k2 k3) 206]) m1 ⟨_,_,hF,rfl,h⟩ rfl ?_)
  rintro m2 e2 w7 ⟨i3,i4,hF,rfl,h⟩
  rcases m2 with _|m2
  ·cases hF
  refine X0 5 rfl (qh rfl hF ?_ ?_)<;>intro hF
  ·refine zKSBSR ?_
   obtain ⟨y2,hy2,hF,he2,b2,_,q2,cs3,hp2,hq2,hr10,hc4⟩:=(h.sl 1 rfl).1.ix hF
   obtain rfl:=qpl hr10
   refine zx hp2 hq2 ⟨he2.1,qC he2.2.1 (h.sl 1 rfl).2⟩ rfl (zc 0 hc4 rfl (qp qa h rfl rfl rfl fun w8 bb3 h=>zs 0 h rfl fun w9 h=>qcH (rD (Y1 3 4 h rfl ?_))))
   refine Y1 2 1 h rfl ?_
   refine Y1 2 4 h rfl ?_
   refine Y1 4 0 h rfl ?_
   refine zd1 rfl ?_
   obtain ⟨y3,hy3,hF,he3,b3,_,q3,cs4,hp3,hq3,rfl,hc5⟩:=s3.ix hF
   refine zdxe hp3 hq3 he3 rfl (zdc 0 (hc5.below h.below) rfl (Y1 2 1 h rfl ?_))
   refine Y1 3 0 h rfl ?_
   refine zd3 rfl (dN h fun w10 h=>X0 5 rfl ?_)
   replace h:=h.pick [1,2,3,4] rfl
   exact rK ⟨_,_,hF,rfl,h⟩ rfl
  refine qq rfl ?_
  obtain rfl:=qb hF;replace hF:=hK2
  refine X0 5 rfl ?_
  replace h:=h.pick [1,2,3] rfl
  exact rK ⟨_,_,hF,rfl,h⟩ rfl
 refine qq rfl ?_
 obtain rfl:=qb hF;replace hF:=hK1
 exact X0 7 rfl (zcI h hF qiY rfl fun r7 w11 h hF=>X0 2 rfl (ri h hF rfl))
def qla (n:Nat) (t:Int) (thousandths:Int) (mode:Int):Option Int :=
 (qfa n (W64 (t*thousandths)) 1000 mode).bind fun r1 =>
 some r1
theorem qoj {t:Int} {thousandths:Int} {mode:Int}  {r:Int} (hF:qla n t thousandths mode=some r):RetV Tryz.prog 133 [.int .i64 t,.int .i64 thousandths,.int .i64 mode] w r:=by
 exact zV 12 Tryz.func133 rfl fun h=>X0 10 rfl (zcI h hF qiY rfl fun r1 w1 h hF=>X0 2 rfl (ri h hF rfl))
def qeL (_:Nat) (c:qt) (kind:Int) (mode:Int):Option Int :=
 (
  bif (kind==1) then some (mode==0) else
  some false).bind fun b1 =>
 bif b1 then some c.Ar else
 bif (kind==1) then some c.Az else
 bif (mode==0) then some c.Aq else
 some c.Ba
theorem qi5 {c:qt} {kind:Int} {mode:Int} (ha1:Ro w c cs1) {r:Int} (hF:qeL n c kind mode=some r):RetV Tryz.prog 134 [GoT.v qt cs1,.int .i64 kind,.int .i64 mode] w r:=by
 obtain rfl:=qaJ ha1
 refine zV 28 Tryz.func134 rfl fun h=>zSR (qv h rfl rfl fun w1 bb1 h=>X0 5 rfl ?_)
 obtain ⟨KF1,hKF1,o1,hF,hK1⟩:=bindE hF
 refine qbe (fun e w'=>∃ (b1:Bool),KF1 b1=some r∧e=[(1,.int .i64 kind),(2,.int .i64 mode),(3,.pointer (some ⟨bb1,0,none⟩)),(7,.bool b1)]∧SH w w' [Ch.box bb1 (qb2 c) 52]) ?_ ?_
 ·refine X0 4 rfl (qj (t:=10) hF rfl ?_ ?_)<;>intro hF
  ·refine X0 7 rfl ?_
   obtain rfl:=qb hF
   exact rG ⟨_,hK1,rfl,h⟩ rfl
  refine X0 5 rfl ?_
  obtain rfl:=qb hF
  exact rG ⟨_,hK1,rfl,h⟩ rfl
 rintro e1 w2 ⟨b1,hF,rfl,h⟩
 subst hKF1
 refine qh rfl hF ?_ ?_<;>intro hF
 ·exact X1 6 0 h rfl (ri h hF rfl)
 refine X0 6 rfl (qh rfl hF ?_ ?_)<;>intro hF
 ·exact X1 6 0 h rfl (ri h hF rfl)
 refine X0 6 rfl (qh rfl hF ?_ ?_)<;>intro hF
 ·exact X1 6 0 h rfl (ri h hF rfl)
 exact X1 8 0 h rfl (ri h hF rfl)
def qbi (n:Nat) (a_0:(Option Tview)) (a_1:qt) (a_2:Int) (a_3:Int) (a_4:Int):Option Int :=
 (a_0).bind fun y1 =>
 (idx y1.links a_2).bind fun y2 =>
 (qeZ n a_0 y2).bind fun r1 =>
 bif (y2.Bf==1) then
  (idx y1.loads r1).bind fun y3 =>
  (qgs n a_0 y2).bind fun r2 =>
  (idx r2.Bn (y2.To.tmod 2)).bind fun y4 =>
  (qdJ n y4 a_3 y3 a_4).bind fun r3 =>
  (qeL n a_1 y2.Bf a_4).bind fun r4 =>
  (qla n r3 r4 a_4).bind fun r5 =>
  some r5
 else
  (idx y1.delays r1).bind fun y5 =>
  (idx y5 y2.Bz).bind fun y6 =>
  (qfa n y6 1000 a_4).bind fun r6 =>
  (qeL n a_1 y2.Bf a_4).bind fun r7 =>
  (qla n r6 r7 a_4).bind fun r8 =>
  some r8
theorem qap {a_0:(Option Tview)} {a_1:qt} {a_2:Int} {a_3:Int} {a_4:Int} (ha1:Ro w a_0 cs1) (ha2:Ro w a_1 cs2) {r:Int} (hF:qbi n a_0 a_1 a_2 a_3 a_4=some r):RetV Tryz.prog 80 [GoT.v (Option Tview) cs1,GoT.v qt cs2,.int .i64 a_2,.int .i64 a_3,.int .i64 a_4] w r:=by
 obtain ⟨p1,rfl,s1⟩:=qaq ha1
 obtain rfl:=qaJ ha2
 refine zV 67 Tryz.func80 rfl fun h=>zSR (qv h rfl rfl fun w1 bb1 h=>X0 5 rfl ?_)
 obtain ⟨y1,hy1,hF⟩:=qc hF
 obtain ⟨b1,o_1,cs3,rfl,-,hr1,hc1⟩:=PtR.get s1 hy1
 obtain ⟨p2,k1,p3,k2,p4,k3,p5,k4,p6,k5,p7,k6,p8,k7,p9,k8,p10,k9,p11,k10,rfl,s2,s3,s4,s5,s6,s7,s8,s9,s10,s11⟩:=qbP hr1
 refine zp2 rfl (zc 6 (hc1.below h.below) rfl (zp1 rfl ?_))
 obtain ⟨y2,hy2,hF,he1,b2,_,q1,cs4,hp1,hq1,hr2,hc2⟩:=s8.ix hF
 obtain rfl:=qav hr2
 refine zxe hp1 hq1 he1 rfl (zc 0 (hc2.below h.below) rfl (qp qa h rfl rfl rfl fun w2 bb2 h=>zs 0 h rfl fun w3 h=>X1 5 0 h rfl (zcI h hF (qij (h.old s1) (qbZ y2)) rfl fun r1 w4 h hF=>X1 13 0 h rfl (qh rfl hF ?_ ?_))))<;>intro hF
 ·refine rA [] [0] h rfl fun w5 h=>M2 7795 [0,1,4,5,6,9,10,11,12] 0 0 (h.pick [0] rfl) rfl (Al 13 15987 7 hc1 (h.pick [0] rfl) rfl (M0 32371 [14] (h.pick [0] rfl) rfl ?_))
  obtain ⟨y3,hy3,hF,he2,b3,_,q2,cs5,hp2,hq2,rfl,hc4⟩:=s9.ix hF
  refine Ae 15 65139 hp2 hq2 he2 (h.pick [0] rfl) rfl (Al 16 130675 0 hc4 (h.pick [0] rfl) rfl (M0 261747 [17] (h.pick [0] rfl) rfl (Ao 2 261751 rfl ?_)))
  have hg1:Rg (old w) w (old w) w:=.start (fun _ h=>h)
  obtain ⟨r2,hr5,hF⟩:=qc hF
  refine qh0 r2 hg1 h (cB 130 rfl) (qkW (hg1.regOld h) (hg1.inR h s1) (qbZ y2) hr5) rfl rfl rfl rfl fun w6 us1 B1 hg2 hu1 hz1 hv1=>?_
  have hL1:=h.ext hu1.below
  have hc5:=Up.box 0 h hu1 rfl
  have ha3:=Up.boxP (x:=y2) hg1 0 h hu1 rfl (qbZ y2)
  have hc6:=Up.box 1 h hu1 rfl
  have s12:=Up.R hg1 h hu1 ha2
  have ha4:=Up.boxP (x:=a_1) hg1 1 h hu1 rfl (hg1.inR h ha2)
  have hc7:=Up.C h hu1 hc1
  have s13:=Up.S hg1 h hu1 s2
  have s14:=Up.S hg1 h hu1 s3
  have s15:=Up.S hg1 h hu1 s4
  have s16:=Up.S hg1 h hu1 s5
  have s17:=Up.S hg1 h hu1 s6
  have s18:=Up.S hg1 h hu1 s7
  have s19:=Up.S hg1 h hu1 s8
  have s20:=Up.S hg1 h hu1 s9
  have s21:=Up.S hg1 h hu1 s10
  have s22:=Up.S hg1 h hu1 s11
  have hb1:=h.below.trans (hu1.below.mono h.below.size)
  have hC1:=((h.pick [0] rfl)).ext hu1.below
  replace h:=hz1
  obtain ⟨cs6,rfl,hr6⟩:=qj8 hv1
  have ha5:=hr6
  obtain ⟨p12,k11,p13,k12,rfl,s23,s24⟩:=qae hr6
  refine qbE (fun _=>(hC1.ext h.below)) (qj5 3 rfl (bits 20 261759) (by kernel_rfl) (by kernel_rfl) (fun w' hw=>v_p qa rfl w') (hC1.ext h.below) rfl ?_)
  obtain ⟨y4,hy4,hF,he3,b4,_,q3,cs7,hp3,hq3,hr7,hc8⟩:=s23.ix hF
  obtain ⟨p14,k13,p15,k14,p16,k15,rfl,s25,s26,s27⟩:=qaE hr7
  refine qj5 7 rfl (bits 20 261887) (by kernel_rfl) (by kernel_rfl) (fun w' hw=>qxM qa hp3 hq3 ⟨he3.1,he3.2.1⟩ rfl rfl rfl rfl rfl rfl) (hC1.ext h.below) rfl (Ao 8 262143 rfl (zc 0 (hc8.below h.below) rfl (qbE (fun _=>(hC1.ext h.below)) (Ao 18 524287 rfl (zcI h hF (qj4 (qfs y4 (h.oldS (s25.mono hg2.old)) (h.oldS (s26.mono hg2.old)) (h.oldS (s27.mono hg2.old)))) rfl fun r3 w7 h hF=>qbE (fun _=>(hC1.ext h.below)) (qj5 19 rfl (bits 20 1048575) (by kernel_rfl) (by kernel_rfl) (fun w' hw=>v_p qa rfl w') (hC1.ext h.below) rfl (Ad (X0 3 rfl (zc 0 (hc6.below h.below) rfl (zp1 rfl (zc 2 (hc5.below h.below) rfl (zp1 rfl (zcI h hF (qi5 (h.old (GoT.mono s12 hg2.old))) rfl fun r4 w8 h hF=>zp1 rfl (zcI h hF qoj rfl fun r5 w9 h hF=>X0 2 rfl ?_))))))))))))))
  replace h:=h.unbase hg2.below (show NoD [] from trivial)
  exact ri h hF rfl
 refine rD (zd3 rfl (zdc 8 (hc1.below h.below) rfl (zd1 rfl ?_)))
 obtain ⟨y5,hy5,hF,he4,b5,_,q4,cs8,hp4,hq4,hr11,hc9⟩:=s10.ix hF
 obtain ⟨p17,k16,rfl,s28⟩:=hr11
 refine zdxe hp4 hq4 he4 rfl (zdc 0 (hc9.below h.below) rfl (Y1 2 0 h rfl ?_))
 obtain ⟨y6,hy6,hF,he5,b6,_,q5,cs9,hp5,hq5,rfl,hc10⟩:=s28.ix hF
 refine zdxe hp5 hq5 he5 rfl (zdc 0 (hc10.below h.below) rfl (zd1 rfl ?_))
 obtain ⟨r6,hr13,hF⟩:=qc hF
 exact qa0 r6 (vsI _) (cB 132 rfl) (fun _ hb=>qiY  hr13) rfl rfl rfl rfl (zd1 rfl (dN h fun w10 h=>X2 7 1 0 h rfl (zcI h hF (qi5 (h.old ha2)) rfl fun r7 w11 h hF=>zp1 rfl (zcI h hF qoj rfl fun r8 w12 h hF=>X0 2 rfl (ri h hF rfl)))))
def qga (a_n:Int):Nat→Int→Int→Option (Int × Int)
 | 0,_,_=>none
 | n+1,i1,i2 =>
  bif decide (i1<i2) then
   bif decide ((W64 ((W64 ((W64 ((W64 (i1+i2))+1)).tdiv 2))*(W64 ((W64 ((W64 (i1+i2))+1)).tdiv 2))))≤a_n) then qga a_n n (W64 ((W64 ((W64 (i1+i2))+1)).tdiv 2)) i2 else
   qga a_n n i1 (W64 ((W64 ((W64 ((W64 (i1+i2))+1)).tdiv 2))-1))
  else
   some (i1,i2)
def qnS (n:Nat) (a_n:Int):Option Int :=
 (qga a_n n 0 3000000000).bind fun o=>match o with
 | (i1,_) =>
  some i1
theorem qtb {a_n:Int}  {r:Int} (hF:qnS n a_n=some r):RetV Tryz.prog 171 [.int .i64 a_n] w r:=by
 refine zV 23 Tryz.func171 rfl fun h=>X0 10 rfl ?_
 obtain ⟨o1,hF,hK1⟩:=qc hF
 refine qm (rL (fun m e w'=>∃ (i1:Int) (i2:Int),qga a_n m i1 i2=some o1∧e=[(0,.int .i64 a_n),(3,.int .i64 i1),(4,.int .i64 i2)]∧SH w w' []) n ⟨_,_,hF,rfl,h⟩ rfl ?_)
 rintro m1 e1 w1 ⟨i1,i2,hF,rfl,h⟩
 rcases m1 with _|m1
 ·cases hF
 refine X0 7 rfl (qh rfl hF ?_ ?_)<;>intro hF
 ·refine X0 19 rfl (qh rfl hF ?_ ?_)<;>intro hF
  ·exact X0 5 rfl (rK ⟨_,_,hF,rfl,h⟩ rfl)
  exact X0 6 rfl (rK ⟨_,_,hF,rfl,h⟩ rfl)
 refine qq rfl ?_
 obtain rfl:=qb hF;replace hF:=hK1
 exact X0 5 rfl (ri h hF rfl)
def qjw (n:Nat) (slew:Int) (delay:Int) (mode:Int):Option Int :=
 (qnS n (W64 ((W64 ((W64 ((W64 (500*slew))*500))*slew))+(W64 (delay*delay))))).bind fun r1 =>
 (
  bif (mode==1) then some (decide ((W64 (r1*r1))<(W64 ((W64 ((W64 ((W64 (500*slew))*500))*slew))+(W64 (delay*delay)))))) else
  some false).bind fun b1 =>
 bif b1 then some (W64 ((W64 (r1.tdiv 500))+1)) else
 (qfa n r1 500 mode).bind fun r2 =>
 some r2
theorem qpY {slew:Int} {delay:Int} {mode:Int}  {r:Int} (hF:qjw n slew delay mode=some r):RetV Tryz.prog 135 [.int .i64 slew,.int .i64 delay,.int .i64 mode] w r:=by
 refine zV 35 Tryz.func135 rfl fun h=>X0 20 rfl (zcI h hF qtb rfl fun r1 w1 h hF=>X0 4 rfl ?_)
 obtain ⟨KF1,hKF1,o1,hF,hK1⟩:=bindE hF
 refine qbe (fun e w'=>∃ (b1:Bool),KF1 b1=some r∧e=[(2,.int .i64 mode),(8,.int .i64 r1),(28,.bool b1)]∧SH w w' []) ?_ ?_
 ·refine X0 4 rfl (qj (t:=22) hF rfl ?_ ?_)<;>intro hF
  ·refine X0 12 rfl ?_
   obtain rfl:=qb hF
   exact rG ⟨_,hK1,rfl,h⟩ rfl
  refine X0 7 rfl ?_
  obtain rfl:=qb hF
  exact rG ⟨_,hK1,rfl,h⟩ rfl
 rintro e1 w3 ⟨b1,hF,rfl,h⟩
 subst hKF1
 refine qh rfl hF ?_ ?_<;>intro hF
 ·exact X0 7 rfl (ri h hF rfl)
 exact X0 5 rfl (zcI h hF qiY rfl fun r2 w2 h hF=>X0 2 rfl (ri h hF rfl))
def qaL (n:Nat) (v:(Option Tview)) (link:Int) (slew:Int) (mode:Int):Option Int :=
 (v).bind fun y1 =>
 (idx y1.links link).bind fun y2 =>
 (qeZ n v y2).bind fun r1 =>
 bif (y2.Bf==1) then
  (idx y1.loads r1).bind fun y3 =>
  (qgs n v y2).bind fun r2 =>
  (idx r2.Bc (y2.To.tmod 2)).bind fun y4 =>
  (qdJ n y4 slew y3 mode).bind fun r3 =>
  some (if 1000000<r3 then 1000000 else r3)
 else
  (idx y1.delays r1).bind fun y5 =>
  (idx y5 y2.Bz).bind fun y6 =>
  (qjw n slew y6 mode).bind fun r4 =>
  some (if 1000000<r4 then 1000000 else r4)
theorem qfg {v:(Option Tview)} {link:Int} {slew:Int} {mode:Int} (ha1:Ro w v cs1) {r:Int} (hF:qaL n v link slew mode=some r):RetV Tryz.prog 81 [GoT.v (Option Tview) cs1,.int .i64 link,.int .i64 slew,.int .i64 mode] w r:=by
 obtain ⟨p1,rfl,s1⟩:=qaq ha1
 refine zV 59 Tryz.func81 rfl fun h=>X0 7 rfl ?_
 obtain ⟨y1,hy1,hF⟩:=qc hF
 obtain ⟨b1,o_1,cs2,rfl,-,hr1,hc1⟩:=PtR.get s1 hy1
 obtain ⟨p2,k1,p3,k2,p4,k3,p5,k4,p6,k5,p7,k6,p8,k7,p9,k8,p10,k9,p11,k10,rfl,s2,s3,s4,s5,s6,s7,s8,s9,s10,s11⟩:=qbP hr1
 refine zp2 rfl (zc 6 (hc1.below h.below) rfl (zp1 rfl ?_))
 obtain ⟨y2,hy2,hF,he1,b2,_,q1,cs3,hp1,hq1,hr2,hc2⟩:=s8.ix hF
 obtain rfl:=qav hr2
 refine zxe hp1 hq1 he1 rfl (zc 0 (hc2.below h.below) rfl (qp qa h rfl rfl rfl fun w1 bb1 h=>zs 0 h rfl fun w2 h=>X1 5 0 h rfl (zcI h hF (qij (h.old s1) (qbZ y2)) rfl fun r1 w3 h hF=>X1 9 0 h rfl (qh rfl hF ?_ ?_))))<;>intro hF
 ·refine qcP (rA [] [0] h rfl fun w4 h=>M2 7795 [0,1,4,5,6,9,10,11,12] 0 0 (h.pick [0] rfl) rfl (Al 13 15987 7 hc1 (h.pick [0] rfl) rfl (M0 32371 [14] (h.pick [0] rfl) rfl ?_)))
  obtain ⟨y3,hy3,hF,he2,b3,_,q2,cs4,hp2,hq2,rfl,hc4⟩:=s9.ix hF
  refine Ae 15 65139 hp2 hq2 he2 (h.pick [0] rfl) rfl (Al 16 130675 0 hc4 (h.pick [0] rfl) rfl (M0 261747 [17] (h.pick [0] rfl) rfl (Ao 2 261751 rfl ?_)))
  have hg1:Rg (old w) w (old w) w:=.start (fun _ h=>h)
  obtain ⟨r2,hr5,hF⟩:=qc hF
  refine qh0 r2 hg1 h (cB 130 rfl) (qkW (hg1.regOld h) (hg1.inR h s1) (qbZ y2) hr5) rfl rfl rfl rfl fun w5 us1 B1 hg2 hu1 hz1 hv1=>?_
  have hL1:=h.ext hu1.below
  have hc5:=Up.C h hu1 hc1
  have s12:=Up.S hg1 h hu1 s2
  have s13:=Up.S hg1 h hu1 s3
  have s14:=Up.S hg1 h hu1 s4
  have s15:=Up.S hg1 h hu1 s5
  have s16:=Up.S hg1 h hu1 s6
  have s17:=Up.S hg1 h hu1 s7
  have s18:=Up.S hg1 h hu1 s8
  have s19:=Up.S hg1 h hu1 s9
  have s20:=Up.S hg1 h hu1 s10
  have s21:=Up.S hg1 h hu1 s11
  have hb1:=h.below.trans (hu1.below.mono h.below.size)
  have hC1:=((h.pick [0] rfl)).ext hu1.below
  replace h:=hz1
  obtain ⟨cs5,rfl,hr6⟩:=qj8 hv1
  have ha2:=hr6
  obtain ⟨p12,k11,p13,k12,rfl,s22,s23⟩:=qae hr6
  refine qbE (fun _=>(hC1.ext h.below)) (qj5 3 rfl (bits 21 261759) (by kernel_rfl) (by kernel_rfl) (fun w' hw=>v_p qa rfl w') (hC1.ext h.below) rfl ?_)
  obtain ⟨y4,hy4,hF,he3,b4,_,q3,cs6,hp3,hq3,hr7,hc6⟩:=s23.ix hF
  obtain ⟨p14,k13,p15,k14,p16,k15,rfl,s24,s25,s26⟩:=qaE hr7
  refine qj5 7 rfl (bits 21 261887) (by kernel_rfl) (by kernel_rfl) (fun w' hw=>qxM qa hp3 hq3 ⟨he3.1,he3.2.1⟩ rfl rfl rfl rfl rfl rfl) (hC1.ext h.below) rfl (Ao 8 262143 rfl (zc 0 (hc6.below h.below) rfl (qbE (fun _=>(hC1.ext h.below)) (Ao 18 524287 rfl (zcI h hF (qj4 (qfs y4 (h.oldS (s24.mono hg2.old)) (h.oldS (s25.mono hg2.old)) (h.oldS (s26.mono hg2.old)))) rfl fun r3 w6 h hF=>qbE (fun _=>(hC1.ext h.below)) (qj5 19 rfl (bits 21 1048575) (by kernel_rfl) (by kernel_rfl) (fun w' hw=>v_p qa rfl w') (hC1.ext h.below) rfl (qj5 20 rfl (bits 21 2097151) (by kernel_rfl) (by kernel_rfl) (fun w' hw=>v_p qa rfl w') (hC1.ext h.below) rfl (Ad ?_))))))))
  replace h:=h.unbase hg2.below (show NoD [] from trivial)
  exact ri h hF rfl
 refine zKS (rD (zd4 rfl (zdc 8 (hc1.below h.below) rfl (zd1 rfl ?_))))
 obtain ⟨y5,hy5,hF,he4,b5,_,q4,cs7,hp4,hq4,hr9,hc7⟩:=s10.ix hF
 obtain ⟨p17,k16,rfl,s27⟩:=hr9
 refine zdxe hp4 hq4 he4 rfl (zdc 0 (hc7.below h.below) rfl (Y1 2 0 h rfl ?_))
 obtain ⟨y6,hy6,hF,he5,b6,_,q5,cs8,hp5,hq5,rfl,hc8⟩:=s27.ix hF
 refine zdxe hp5 hq5 he5 rfl (zdc 0 (hc8.below h.below) rfl (zd1 rfl ?_))
 obtain ⟨r4,hr11,hF⟩:=qc hF
 exact qa0 r4 (vsI _) (cB 135 rfl) (fun _ hb=>qpY  hr11) rfl rfl rfl rfl (zd2 rfl (dN h fun w7 h=>ri h hF rfl))
end Go.Fw


namespace Go.Fw
open Go Go.Proofs
open Go.RowKit (Below)
set_option maxRecDepth 100000
set_option maxHeartbeats 1600000
variable {n:Nat} {w:World} {cs1 cs2 cs3 cs4 cs5 cs6 cs7 cs8 cs9:List Value}
def qgv (n:Nat) (a_0:(Option Tview)) (a_1:qt) (a_2:Int) (a_3:qf):Option (qf × qf) :=
 (qbi n a_0 a_1 a_2 a_3.Ap 0).bind fun r1 =>
 (qbi n a_0 a_1 a_2 a_3.Be 0).bind fun r2 =>
 (qbi n a_0 a_1 a_2 a_3.Ap 1).bind fun r3 =>
 (qbi n a_0 a_1 a_2 a_3.Be 1).bind fun r4 =>
 (a_0).bind fun y1 =>
 (idx y1.links a_2).bind fun y2 =>
 (
  bif decide ((y1.extras.length:Int) > 0) then some (y2.Bf==2) else
  some false).bind fun b3 =>
 (
  bif b3 then
   (qeZ n a_0 y2).bind fun r9 =>
   (idx y1.extras r9).bind fun y3 =>
   some (W64 ((if r2<r1 then r2 else r1)-y3),W64 ((if r4 > r3 then r4 else r3)+y3))
  else
   some ((if r2<r1 then r2 else r1),(if r4 > r3 then r4 else r3))).bind fun o=>match o with
  | (i1,i2) =>
   (qaL n a_0 a_2 a_3.Ap 0).bind fun r5 =>
   (qaL n a_0 a_2 a_3.Be 0).bind fun r6 =>
   (qaL n a_0 a_2 a_3.Ap 1).bind fun r7 =>
   (qaL n a_0 a_2 a_3.Be 1).bind fun r8 =>
   some ((⟨i1,i2⟩:qf),(⟨(if r6<r5 then r6 else r5),(if r8 > r7 then r8 else r7)⟩:qf))
theorem qeK {a_0:(Option Tview)} {a_1:qt} {a_2:Int} {a_3:qf} (ha1:Ro w a_0 cs1) (ha2:Ro w a_1 cs2) (ha3:Ro w a_3 cs3) {r:(qf × qf)} (hF:qgv n a_0 a_1 a_2 a_3=some r):RetV Tryz.prog 112 [GoT.v (Option Tview) cs1,GoT.v qt cs2,.int .i64 a_2,GoT.v qf cs3] w r:=by
 obtain ⟨p1,rfl,s1⟩:=qaq ha1
 obtain rfl:=qaJ ha2
 obtain rfl:=qz ha3
 refine zV 100 Tryz.func112 rfl fun h=>zSR (qv h rfl rfl fun w1 bb1 h=>qv h rfl rfl fun w2 bb2 h=>qp qa h rfl rfl rfl fun w3 bb3 h=>qp qa h rfl rfl rfl fun w4 bb4 h=>zNS (rD (Y1 2 2 h rfl ?_)))
 refine Y1 2 2 h rfl ?_
 refine zd2 rfl (dN h fun w5 h=>qcP ?_)
 obtain ⟨r1,hr1,hF⟩:=qc hF
 obtain ⟨r2,hr2,hF⟩:=qc hF
 obtain ⟨r3,hr3,hF⟩:=qc hF
 obtain ⟨r4,hr4,hF⟩:=qc hF
 refine qbe (fun e w'=>∃ (bb11:Nat),e=[(0,.pointer p1),(2,.int .i64 a_2),(8,.pointer (some ⟨bb3,0,none⟩)),(9,.pointer (some ⟨bb4,0,none⟩)),(10,.int .i64 a_3.Ap),(11,.int .i64 a_3.Be),(12,.pointer (some ⟨bb11,0,none⟩))]∧SH w w' [Ch.box bb11 [.int .i64 (if r2<r1 then r2 else r1),.int .i64 (if r4 > r3 then r4 else r3)] 86,Ch.box bb4 [.int .i64 0,.int .i64 0] 86,Ch.box bb3 [.int .i64 0,.int .i64 0] 86]) ?_ ?_
 ·refine rA [24] [3] h rfl fun w12 h=>M4 1014255 [0,1,2,3,5,6,7,8,11,12,13,14,16,17,18,19] 0 0 0 0 (h.pick [3] rfl) rfl (At 4 23 1014271 9402863 rfl ?_ ?_)
  ·refine qcl r1 h (cB 80 rfl) (qap (h.old s1) (h.old ha2) hr1) rfl rfl rfl rfl fun w37 h=>Ag (h.pick [3] rfl) (At 9 23 1014783 9402879 rfl ?_ ?_)
   ·refine qcl r2 h (cB 80 rfl) (qap (h.old s1) (h.old ha2) hr2) rfl rfl rfl rfl fun w38 h=>G0 1015807 [10] (h.pick [3] rfl) rfl (At 15 23 1048575 9404415 rfl ?_ ?_)
    ·refine qcl r3 h (cB 80 rfl) (qap (h.old s1) (h.old ha2) hr3) rfl rfl rfl rfl fun w39 h=>Ag (h.pick [3] rfl) (At 20 23 2097151 9437183 rfl ?_ ?_)
     ·refine qcl r4 h (cB 80 rfl) (qap (h.old s1) (h.old ha2) hr4) rfl rfl rfl rfl fun w40 h=>G0 4194303 [21] (h.pick [3] rfl) rfl (Aw 22 8388607 (fun w' hw=>qaa qa [0,1] [.tmp 30,.tmp 41] rfl rfl rfl rfl rfl rfl rfl rfl) (h.pick [3] rfl) rfl ?_)
      refine Ao 23 16777215 rfl (qp qa h rfl rfl rfl fun w41 bb12 h=>Ag (h.pick [4] rfl) (Ao 24 33554431 rfl (zs 0 h rfl fun w42 h=>qbE (fun hs=>absurd (hs 24 (by decide)) (by decide)) (Ad ?_))))
      replace h:=h.pick [0,1,2] rfl
      exact rG ⟨_,rfl,h⟩ rfl
     refine qp qa h rfl rfl rfl fun w43 bb13 h=>Ag (h.pick [4] rfl) (Ao 20 10485759 rfl (qcl r4 h (cB 80 rfl) (qap (h.old s1) (h.old ha2) hr4) rfl rfl rfl rfl fun w44 h=>G0 12582911 [21] (h.pick [4] rfl) rfl (Aw 22 16777215 (fun w' hw=>qaa qa [0,1] [.tmp 30,.tmp 41] rfl rfl rfl rfl rfl rfl rfl rfl) (h.pick [4] rfl) rfl ?_)))
     refine Ao 24 33554431 rfl (zs 0 h rfl fun w45 h=>qbE (fun hs=>absurd (hs 24 (by decide)) (by decide)) (Ad ?_))
     replace h:=h.pick [0,1,2] rfl
     exact rG ⟨_,rfl,h⟩ rfl
    refine qp qa h rfl rfl rfl fun w46 bb14 h=>Ag (h.pick [4] rfl) (Ao 15 9437183 rfl (qcl r3 h (cB 80 rfl) (qap (h.old s1) (h.old ha2) hr3) rfl rfl rfl rfl fun w47 h=>Ag (h.pick [4] rfl) (Ao 20 10485759 rfl (qcl r4 h (cB 80 rfl) (qap (h.old s1) (h.old ha2) hr4) rfl rfl rfl rfl fun w48 h=>G0 12582911 [21] (h.pick [4] rfl) rfl (Aw 22 16777215 (fun w' hw=>qaa qa [0,1] [.tmp 30,.tmp 41] rfl rfl rfl rfl rfl rfl rfl rfl) (h.pick [4] rfl) rfl ?_)))))
    refine Ao 24 33554431 rfl (zs 0 h rfl fun w49 h=>qbE (fun hs=>absurd (hs 24 (by decide)) (by decide)) (Ad ?_))
    replace h:=h.pick [0,1,2] rfl
    exact rG ⟨_,rfl,h⟩ rfl
   refine qp qa h rfl rfl rfl fun w50 bb15 h=>Ag (h.pick [4] rfl) (Ao 9 9403391 rfl (qcl r2 h (cB 80 rfl) (qap (h.old s1) (h.old ha2) hr2) rfl rfl rfl rfl fun w51 h=>G0 9404415 [10] (h.pick [4] rfl) rfl (Ao 15 9437183 rfl (qcl r3 h (cB 80 rfl) (qap (h.old s1) (h.old ha2) hr3) rfl rfl rfl rfl fun w52 h=>Ag (h.pick [4] rfl) (Ao 20 10485759 rfl (qcl r4 h (cB 80 rfl) (qap (h.old s1) (h.old ha2) hr4) rfl rfl rfl rfl fun w53 h=>G0 12582911 [21] (h.pick [4] rfl) rfl (Aw 22 16777215 (fun w' hw=>qaa qa [0,1] [.tmp 30,.tmp 41] rfl rfl rfl rfl rfl rfl rfl rfl) (h.pick [4] rfl) rfl ?_)))))))
   refine Ao 24 33554431 rfl (zs 0 h rfl fun w54 h=>qbE (fun hs=>absurd (hs 24 (by decide)) (by decide)) (Ad ?_))
   replace h:=h.pick [0,1,2] rfl
   exact rG ⟨_,rfl,h⟩ rfl
  refine qp qa h rfl rfl rfl fun w55 bb16 h=>Ag (h.pick [4] rfl) (Ao 4 9402879 rfl (qcl r1 h (cB 80 rfl) (qap (h.old s1) (h.old ha2) hr1) rfl rfl rfl rfl fun w56 h=>Ag (h.pick [4] rfl) (Ao 9 9403391 rfl (qcl r2 h (cB 80 rfl) (qap (h.old s1) (h.old ha2) hr2) rfl rfl rfl rfl fun w57 h=>G0 9404415 [10] (h.pick [4] rfl) rfl (Ao 15 9437183 rfl (qcl r3 h (cB 80 rfl) (qap (h.old s1) (h.old ha2) hr3) rfl rfl rfl rfl fun w58 h=>Ag (h.pick [4] rfl) (Ao 20 10485759 rfl (qcl r4 h (cB 80 rfl) (qap (h.old s1) (h.old ha2) hr4) rfl rfl rfl rfl fun w59 h=>G0 12582911 [21] (h.pick [4] rfl) rfl (Aw 22 16777215 (fun w' hw=>qaa qa [0,1] [.tmp 30,.tmp 41] rfl rfl rfl rfl rfl rfl rfl rfl) (h.pick [4] rfl) rfl ?_)))))))))
  refine Ao 24 33554431 rfl (zs 0 h rfl fun w60 h=>qbE (fun hs=>absurd (hs 24 (by decide)) (by decide)) (Ad ?_))
  replace h:=h.pick [0,1,2] rfl
  exact rG ⟨_,rfl,h⟩ rfl
 rintro e1 w61 ⟨bb11,rfl,h⟩
 refine X0 4 rfl ?_
 obtain ⟨y1,hy1,hF⟩:=qc hF
 obtain ⟨b1,o_1,cs4,rfl,-,hr5,hc1⟩:=PtR.get s1 hy1
 obtain ⟨p2,k1,p3,k2,p4,k3,p5,k4,p6,k5,p7,k6,p8,k7,p9,k8,p10,k9,p11,k10,rfl,s2,s3,s4,s5,s6,s7,s8,s9,s10,s11⟩:=qbP hr5
 refine zp2 rfl (zc 6 (hc1.below h.below) rfl (zp1 rfl ?_))
 obtain ⟨y2,hy2,hF,he1,b2,_,q1,cs5,hp1,hq1,hr6,hc2⟩:=s8.ix hF
 obtain rfl:=qav hr6
 refine zxe hp1 hq1 he1 rfl (zc 0 (hc2.below h.below) rfl (qp qa h rfl rfl rfl fun w62 bb17 h=>zs 0 h rfl fun w63 h=>zNS ?_))
 obtain ⟨KF2,hKF2,o2,hF,hK2⟩:=bindE hF
 refine qbe (fun e w'=>∃ (b3:Bool),KF2 b3=some r∧e=[(0,.pointer (some ⟨b1,o_1,none⟩)),(2,.int .i64 a_2),(8,.pointer (some ⟨bb3,0,none⟩)),(9,.pointer (some ⟨bb4,0,none⟩)),(10,.int .i64 a_3.Ap),(11,.int .i64 a_3.Be),(12,.pointer (some ⟨bb11,0,none⟩)),(13,.pointer (some ⟨bb17,0,none⟩)),(60,.bool b3)]∧SH w w' [Ch.box bb17 (qkt y2) 121,Ch.box bb11 [.int .i64 (if r2<r1 then r2 else r1),.int .i64 (if r4 > r3 then r4 else r3)] 86,Ch.box bb4 [.int .i64 0,.int .i64 0] 86,Ch.box bb3 [.int .i64 0,.int .i64 0] 86]) ?_ ?_
 ·refine X0 4 rfl (zc 9 (hc1.below h.below) rfl (zp3 rfl (qj (t:=56) hF rfl ?_ ?_)))<;>intro hF
  ·refine X1 8 0 h rfl ?_
   obtain rfl:=qb hF
   exact rG ⟨_,hK2,rfl,h⟩ rfl
  refine X0 5 rfl ?_
  obtain rfl:=qb hF
  exact rG ⟨_,hK2,rfl,h⟩ rfl
 rintro e3 w76 ⟨b3,hF,rfl,h⟩
 subst hKF2
 obtain ⟨KF1,hKF1,o1,hF,hK1⟩:=bindE hF
 refine qbe (fun e w'=>∃ (i1:Int) (i2:Int),KF1 (i1,i2)=some r∧e=[(0,.pointer (some ⟨b1,o_1,none⟩)),(2,.int .i64 a_2),(8,.pointer (some ⟨bb3,0,none⟩)),(9,.pointer (some ⟨bb4,0,none⟩)),(10,.int .i64 a_3.Ap),(11,.int .i64 a_3.Be),(12,.pointer (some ⟨bb11,0,none⟩))]∧SH w w' [Ch.box bb11 [.int .i64 i1,.int .i64 i2] 86,Ch.box bb4 [.int .i64 0,.int .i64 0] 86,Ch.box bb3 [.int .i64 0,.int .i64 0] 86]) ?_ ?_
 ·refine qh rfl hF ?_ ?_<;>intro hF
  ·refine qcP (rD (zd3 rfl (zdc 9 (hc1.below h.below) rfl (Y1 2 0 h rfl ?_))))
   obtain ⟨r9,hr11,hF⟩:=qc hF
   refine qa0 r9 (vsI _) (cB 129 rfl) (fun _ hb=>qij ((h.ext hb).old s1) (qbZ y2) hr11) rfl rfl rfl rfl ?_
   obtain ⟨y3,hy3,hF,he2,b4,_,q2,cs6,hp2,hq2,rfl,hc4⟩:=s11.ix hF
   refine zdxe hp2 hq2 he2 rfl (zdc 0 (hc4.below h.below) rfl (zd1 rfl (dN h fun w73 h=>X2 9 1 1 h rfl (r_v (qaa qa [0,1] [.tmp 73,.tmp 77] rfl rfl rfl rfl rfl rfl rfl rfl) rfl (zs 1 h rfl fun w74 h=>qcH ?_)))))
   replace h:=h.pick [1,2,3] rfl
   obtain rfl:=qb hF
   exact rG ⟨_,_,hK1,rfl,h⟩ rfl
  refine qih ?_
  replace h:=h.pick [1,2,3] rfl
  obtain rfl:=qb hF
  exact rG ⟨_,_,hK1,rfl,h⟩ rfl
 rintro e2 w75 ⟨i1,i2,hF,rfl,h⟩
 subst hKF1
 refine X0 5 rfl (zcI h hF (qfg (h.old s1)) rfl fun r5 w64 h hF=>zp3 rfl (zcI h hF (qfg (h.old s1)) rfl fun r6 w65 h hF=>zp4 rfl (zcI h hF (qfg (h.old s1)) rfl fun r7 w66 h hF=>zp3 rfl (zcI h hF (qfg (h.old s1)) rfl fun r8 w67 h hF=>zp1 rfl (r_v (qaa qa [0,1] [.tmp 87,.tmp 96] rfl rfl rfl rfl rfl rfl rfl rfl) rfl (qp qa h rfl rfl rfl fun w68 bb18 h=>zs 0 h rfl fun w69 h=>zNS (rA [] [0,1] h rfl fun w70 h=>M2 3 [0,1] 1 0 (h.pick [0,1] rfl) rfl (Ao 2 7 rfl (zs 3 h rfl fun w71 h=>Ag (h.pick [0,1] rfl) (Ao 3 15 rfl (zs 2 h rfl fun w72 h=>Ag (h.pick [0,1] rfl) (Ad ?_))))))))))))
 obtain rfl:=qb hF
 exact qT qa (ρ:=(qf × qf)) [GoT.v qf [.int .i64 i1,.int .i64 i2],GoT.v qf [.int .i64 (if r6<r5 then r6 else r5),.int .i64 (if r8 > r7 then r8 else r7)]] h ⟨⟨_,_,_,rfl,rfl,h.box 3 rfl,rfl⟩,⟨_,_,_,rfl,rfl,h.box 2 rfl,rfl⟩,trivial⟩ (PV.done h (qak h (qx (S:=fun _=>False) (qA (⟨i1,i2⟩:qf))) (qZ (qx (S:=fun _=>False) (qA (⟨(if r6<r5 then r6 else r5),(if r8 > r7 then r8 else r7)⟩:qf)))) (by rfl)))
def qld (_:Nat) (s:qf) (t:qf):Option qf :=
 some (⟨W64 (s.Ap+t.Ap),W64 (s.Be+t.Be)⟩:qf)
theorem qpe {s:qf} {t:qf} (ha1:Ro w s cs1) (ha2:Ro w t cs2) {r:qf} (hF:qld n s t=some r):RetV Tryz.prog 113 [GoT.v qf cs1,GoT.v qf cs2] w r:=by
 obtain rfl:=qz ha1
 obtain rfl:=qz ha2
 refine zV 16 Tryz.func113 rfl fun h=>zSR (qv h rfl rfl fun w1 bb1 h=>qv h rfl rfl fun w2 bb2 h=>qp qa h rfl rfl rfl fun w3 bb3 h=>X4 13 2 1 2 1 h rfl (r_v (qaa qa [0,1] [.tmp 9,.tmp 14] rfl rfl rfl rfl rfl rfl rfl rfl) rfl (zs 0 h rfl fun w4 h=>qcH ?_)))
 obtain rfl:=qb hF
 exact qT qa (ρ:=qf) [GoT.v qf [.int .i64 (W64 (s.Ap+t.Ap)),.int .i64 (W64 (s.Be+t.Be))]] h ⟨⟨_,_,_,rfl,rfl,h.box 0 rfl,rfl⟩,trivial⟩ (PV.done h (qZ (qx (S:=fun _=>False) (qA (⟨W64 (s.Ap+t.Ap),W64 (s.Be+t.Be)⟩:qf)))))
def qi1 (_:Nat) (s:qf) (t:qf):Option qf :=
 some (⟨(if t.Ap<s.Ap then t.Ap else s.Ap),(if t.Be > s.Be then t.Be else s.Be)⟩:qf)
theorem qdI {s:qf} {t:qf} (ha1:Ro w s cs1) (ha2:Ro w t cs2) {r:qf} (hF:qi1 n s t=some r):RetV Tryz.prog 255 [GoT.v qf cs1,GoT.v qf cs2] w r:=by
 obtain rfl:=qz ha1
 obtain rfl:=qz ha2
 refine zV 16 Tryz.func255 rfl fun h=>zSR (qv h rfl rfl fun w1 bb1 h=>qv h rfl rfl fun w2 bb2 h=>qp qa h rfl rfl rfl fun w3 bb3 h=>X4 13 2 1 2 1 h rfl (r_v (qaa qa [0,1] [.tmp 9,.tmp 14] rfl rfl rfl rfl rfl rfl rfl rfl) rfl (zs 0 h rfl fun w4 h=>qcH ?_)))
 obtain rfl:=qb hF
 exact qT qa (ρ:=qf) [GoT.v qf [.int .i64 (if t.Ap<s.Ap then t.Ap else s.Ap),.int .i64 (if t.Be > s.Be then t.Be else s.Be)]] h ⟨⟨_,_,_,rfl,rfl,h.box 0 rfl,rfl⟩,trivial⟩ (PV.done h (qZ (qx (S:=fun _=>False) (qA (⟨(if t.Ap<s.Ap then t.Ap else s.Ap),(if t.Be > s.Be then t.Be else s.Be)⟩:qf)))))
def qf0 (n:Nat) (s:qe) (reached:Bool) (arrival:qf) (slew:qf):Option (qe × Bool) :=
 bif (!reached) then some ((⟨s.Bq,(⟨arrival.Ap,arrival.Be⟩:qf),(⟨slew.Ap,slew.Be⟩:qf)⟩:qe),true) else
 (qi1 n (⟨s.Ai.Ap,s.Ai.Be⟩:qf) arrival).bind fun r1 =>
 (qi1 n (⟨s.Bc.Ap,s.Bc.Be⟩:qf) slew).bind fun r2 =>
 some ((⟨s.Bq,(⟨r1.Ap,r1.Be⟩:qf),(⟨r2.Ap,r2.Be⟩:qf)⟩:qe),reached)
theorem qjS {n:Nat} {w0 w:World} {F:List Ch} {bb1:Nat} {s:qe} {bb2:Nat} {reached:Bool} {arrival:qf} {slew:qf} (h:SH w0 w (Ch.box bb2 [.bool reached] 4::Ch.box bb1 (qfG s) 116::F)) {r:(qe × Bool)} (hF:qf0 n s reached arrival slew=some r):RetU Tryz.prog 229 [.pointer (some ⟨bb1,0,none⟩),.pointer (some ⟨bb2,0,none⟩),.agg #[.int .i64 arrival.Ap,.int .i64 arrival.Be],.agg #[.int .i64 slew.Ap,.int .i64 slew.Be]] w (fun w'=>SH w0 w' (Ch.box bb2 [.bool r.2] 4::Ch.box bb1 (qfG r.1) 116::F)):=by
 refine quB Tryz.func229 rfl (m:=40) rfl rfl (zSR (qv h rfl rfl fun w1 bb3 h=>qv h rfl rfl fun w2 bb4 h=>X1 9 2 h rfl (qh rfl hF ?_ ?_)))<;>intro hF
 ·refine qcP (rA [] [0,1] h rfl fun w3 h=>M2 63 [0,1,2,3,4,5] 1 0 (h.pick [0,1] rfl) rfl (Ao 6 127 rfl (zs 2 h rfl fun w4 h=>G0 511 [7,8] (h.pick [0,1] rfl) rfl (Ao 9 1023 rfl (zs 3 h rfl fun w5 h=>G0 4095 [10,11] (h.pick [0,1] rfl) rfl (Ao 12 8191 rfl (zs 3 h rfl fun w6 h=>Ag (h.pick [0,1] rfl) (Ad ?_))))))))
  obtain rfl:=qb hF
  replace h:=h.pickT 4 [2,3] rfl
  exact qzU qa h trivial
 refine qih ?_
 obtain ⟨r1,hr1,hF⟩:=qc hF
 obtain ⟨r2,hr2,hF⟩:=qc hF
 refine qbe (fun e w'=>e=[]∧SH w0 w' (Ch.box bb2 [.bool reached] 4::Ch.box bb1 [.int .i64 s.Bq,.int .i64 r1.Ap,.int .i64 r1.Be,.int .i64 r2.Ap,.int .i64 r2.Be] 116::F)) ?_ ?_
 ·refine rA [] [0,1] h rfl fun w11 h=>M2 5983 [0,1,2,3,4,6,8,9,10,12] 1 0 (h.pick [0,1] rfl) rfl (At 5 11 6015 8031 rfl ?_ ?_)
  ·refine zl 3 1 h rfl (Ag (h.pick [0,1] rfl) (At 7 11 6143 8063 rfl ?_ ?_))
   ·refine qmn r1 h (cB 255 rfl) (qdI (qA _) (qA arrival) hr1) rfl rfl rfl rfl fun w24 S9 cs9 h=>?_
    obtain rfl:=qz (h.own 0 rfl)
    refine Ag (h.pick [1,2] rfl) (Ao 11 8191 rfl (zl 4 3 h rfl (Ag (h.pick [1,2] rfl) (Ao 13 16383 rfl (qmn r2 h (cB 255 rfl) (qdI (qA _) (qA slew) hr2) rfl rfl rfl rfl fun w25 S10 cs10 h=>?_)))))
    obtain rfl:=qz (h.own 0 rfl)
    refine G0 65535 [14,15] (h.pick [2,3] rfl) rfl (Ao 16 131071 rfl (zs 5 h rfl fun w26 h=>G0 524287 [17,18] (h.pick [2,3] rfl) rfl (Ao 19 1048575 rfl (zs 5 h rfl fun w27 h=>Ag (h.pick [2,3] rfl) (Ad ?_)))))
    replace h:=h.pickT 6 [4,5] rfl
    exact rG ⟨rfl,h⟩ rfl
   refine zl 3 3 h rfl (Ag (h.pick [0,1] rfl) (Ao 7 8191 rfl (qmn r1 h (cB 255 rfl) (qdI (qA _) (qA arrival) hr1) rfl rfl rfl rfl fun w28 S11 cs11 h=>?_)))
   obtain rfl:=qz (h.own 0 rfl)
   refine Ag (h.pick [1,2] rfl) (Ao 13 16383 rfl (qmn r2 h (cB 255 rfl) (qdI (qA _) (qA slew) hr2) rfl rfl rfl rfl fun w29 S12 cs12 h=>?_))
   obtain rfl:=qz (h.own 0 rfl)
   refine G0 65535 [14,15] (h.pick [2,3] rfl) rfl (Ao 16 131071 rfl (zs 5 h rfl fun w30 h=>G0 524287 [17,18] (h.pick [2,3] rfl) rfl (Ao 19 1048575 rfl (zs 5 h rfl fun w31 h=>Ag (h.pick [2,3] rfl) (Ad ?_)))))
   replace h:=h.pickT 6 [4,5] rfl
   exact rG ⟨rfl,h⟩ rfl
  refine zl 3 3 h rfl (Ag (h.pick [0,1] rfl) (Ao 5 8063 rfl (zl 3 1 h rfl (Ag (h.pick [0,1] rfl) (Ao 7 8191 rfl (qmn r1 h (cB 255 rfl) (qdI (qA _) (qA arrival) hr1) rfl rfl rfl rfl fun w32 S13 cs13 h=>?_))))))
  obtain rfl:=qz (h.own 0 rfl)
  refine Ag (h.pick [1,2] rfl) (Ao 13 16383 rfl (qmn r2 h (cB 255 rfl) (qdI (qA _) (qA slew) hr2) rfl rfl rfl rfl fun w33 S14 cs14 h=>?_))
  obtain rfl:=qz (h.own 0 rfl)
  refine G0 65535 [14,15] (h.pick [2,3] rfl) rfl (Ao 16 131071 rfl (zs 5 h rfl fun w34 h=>G0 524287 [17,18] (h.pick [2,3] rfl) rfl (Ao 19 1048575 rfl (zs 5 h rfl fun w35 h=>Ag (h.pick [2,3] rfl) (Ad ?_)))))
  replace h:=h.pickT 6 [4,5] rfl
  exact rG ⟨rfl,h⟩ rfl
 rintro e1 w36 ⟨rfl,h⟩
 obtain rfl:=qb hF
 exact qzD qa h trivial
def qj7 (_:Nat) (l:qu) (v0:Int):Option Bool :=
 some (l.To==v0)
theorem qoz {l:qu} {v0:Int} (ha1:Ro w l cs1) {p1:Option Addr} (ha2:Ro w (some v0) [.pointer p1]) {r:Bool} (hF:qj7 n l v0=some r):RetV Tryz.prog 256 [GoT.v qu cs1,.pointer p1] w r:=by
 obtain rfl:=qav ha1
 obtain ⟨b1,o_1,cs2,rfl,-,hr1,hc1⟩:=PtR.get ha2 rfl
 obtain rfl:=hr1
 exact zV 8 Tryz.func256 rfl fun h=>zSR (qv h rfl rfl fun w1 bb1 h=>X1 6 0 h rfl (zc 0 (hc1.below h.below) rfl (X0 3 rfl (rb h hF rfl))))
def qJ (is_0:Int) (y1:Tgraph) (y2:Tview):Nat→(List Int)→Int→Option ((List Int) × Int)
 | 0,_,_=>none
 | n+1,x1,i1 =>
  bif decide (i1<(y2.links.length:Int)) then
   (idx y2.links i1).bind fun y3 =>
   (idx y1.live i1).bind fun y4 =>
   bif y4 then
    (qj7 n y3 is_0).bind fun r1 =>
    bif r1 then
     (appS x1 ([i1]:List Int)).bind fun x2 =>
     qJ is_0 y1 y2 n x2 (W64 (i1+1))
    else
     qJ is_0 y1 y2 n x1 (W64 (i1+1))
   else
    qJ is_0 y1 y2 n x1 (W64 (i1+1))
  else
   some (x1,i1)
def qcD (n:Nat) (g:(Option Tgraph)) (is_0:Int):Option (List Int) :=
 (g).bind fun y1 =>
 (y1.view).bind fun y2 =>
 (qJ is_0 y1 y2 n ([]:List Int) 0).bind fun o=>match o with
 | (x1,_) =>
  some x1
theorem qhD {g:(Option Tgraph)} {is_0:Int} (ha1:Ro w g cs1) {p2:Option Addr} (ha2:Ro w (some is_0) [.pointer p2]) {r:(List Int)} (hF:qcD n g is_0=some r):RetV Tryz.prog 225 [GoT.v (Option Tgraph) cs1,.func (.func 256) #[] #[.pointer p2]] w r:=by
 obtain ⟨p1,rfl,s1⟩:=qaq ha1
 obtain ⟨b1,o_1,cs2,rfl,-,hr1,hc1⟩:=PtR.get ha2 rfl
 obtain rfl:=hr1
 refine zV 39 Tryz.func225 rfl fun h=>X0 12 rfl ?_
 obtain ⟨y1,hy1,hF⟩:=qc hF
 obtain ⟨b2,o_2,cs3,rfl,-,hr2,hc2⟩:=PtR.get s1 hy1
 obtain ⟨p3,p4,k1,rfl,s2,s3⟩:=qdw hr2
 refine zp2 rfl (zc 0 (hc2.below h.below) rfl ?_)
 obtain ⟨y2,hy2,hF⟩:=qc hF
 obtain ⟨b3,o_3,cs4,rfl,-,hr3,hc3⟩:=PtR.get s2 hy2
 obtain ⟨p5,k2,p6,k3,p7,k4,p8,k5,p9,k6,p10,k7,p11,k8,p12,k9,p13,k10,p14,k11,rfl,s4,s5,s6,s7,s8,s9,s10,s11,s12,s13⟩:=qbP hr3
 refine zp2 rfl (zc 6 (hc3.below h.below) rfl (X0 3 rfl ?_))
 replace h:=h.nil (α:=Int)
 obtain ⟨o1,hF,hK1⟩:=qc hF
 refine qm (rL (fun m e w'=>∃ (S1:Nat→Prop) (p15:Option Addr) (ln1:Nat) (k12:Nat) (x1:(List Int)) (i1:Int),qJ is_0 y1 y2 m x1 i1=some o1∧e=[(0,.pointer (some ⟨b2,o_2,none⟩)),(1,.func (.func 256) #[] #[.pointer (some ⟨b1,o_1,none⟩)]),(5,.slice p15 ln1 k12),(14,.slice p11 y2.links.length k8),(15,.int .i64 (y2.links.length:Int)),(16,.int .i64 i1)]∧SH w w' [Ch.own S1 (x1:List Int) [.slice p15 ln1 k12]]) n ⟨_,_,_,_,_,_,hF,rfl,h⟩ rfl ?_)
 rintro m1 e1 w1 ⟨S1,p15,ln1,k12,x1,i1,hF,rfl,h⟩
 obtain rfl:=(h.sl 0 rfl).2
 rcases m1 with _|m1
 ·cases hF
 refine X0 5 rfl (qh rfl hF ?_ ?_)<;>intro hF
 ·refine X0 6 rfl ?_
  obtain ⟨y3,hy3,hF,he1,b4,_,q1,cs5,hp1,hq1,hr4,hc5⟩:=s10.ix hF
  obtain rfl:=qav hr4
  refine zxe hp1 hq1 he1 rfl (zc 0 (hc5.below h.below) rfl (qp qa h rfl rfl rfl fun w2 bb1 h=>zp1 rfl (zs 0 h rfl fun w3 h=>X0 6 rfl (zc 1 (hc2.below h.below) rfl (zp1 rfl ?_)))))
  obtain ⟨y4,hy4,hF,he2,b5,_,q2,cs6,hp2,hq2,rfl,hc6⟩:=s3.ix hF
  refine zxe hp2 hq2 he2 rfl (zc 0 (hc6.below h.below) rfl (zp1 rfl (qj (t:=28) hF rfl ?_ ?_)))<;>intro hF
  ·refine X1 5 0 h rfl (zcB h hF (qoz (qbZ y3) (h.old ha2)) rfl fun r1 w4 h hF=>X0 2 rfl (qh rfl hF ?_ ?_))<;>intro hF
   ·refine X0 3 rfl (qL qa [.tmp 34] _ ([i1]:List Int) h rfl rfl rfl rfl rfl rfl rfl rfl rfl ⟨rfl,trivial⟩ rfl fun w5 p16 S2 h=>?_)
    obtain ⟨x2,hx1,hF⟩:=qc hF
    obtain ⟨g1,hx1⟩:=qaw hx1
    refine qcC qa 2 h rfl (h.sl 0 rfl).1 (h.sl 0 rfl).2 rfl rfl rfl rfl rfl rfl rfl rfl rfl g1 hx1 rfl fun w6 p17 k13 S3 h=>X0 7 rfl ?_
    replace h:=h.pick [2] rfl
    exact rK ⟨_,_,_,_,_,_,hF,rfl,h⟩ rfl
   refine X0 6 rfl ?_
   replace h:=h.pick [1] rfl
   exact rK ⟨_,_,_,_,_,_,hF,rfl,h⟩ rfl
  refine X0 5 rfl (qbW rfl rfl (X0 6 rfl ?_))
  replace h:=h.pick [1] rfl
  exact rK ⟨_,_,_,_,_,_,hF,rfl,h⟩ rfl
 refine qq rfl ?_
 obtain rfl:=qb hF;replace hF:=hK1
 refine X0 5 rfl ?_
 obtain rfl:=qb hF
 exact rO 0 h rfl ⟨rfl,trivial⟩
def qjs (n:Nat) (g:(Option Tgraph)) (node:Int):Option (List Int) :=
 (qcD n g node).bind fun r1 =>
 some r1
theorem qpT {g:(Option Tgraph)} {node:Int} (ha1:Ro w g cs1) {r:(List Int)} (hF:qjs n g node=some r):RetV Tryz.prog 230 [GoT.v (Option Tgraph) cs1,.int .i64 node] w r:=by
 obtain ⟨p1,rfl,s1⟩:=qaq ha1
 refine zV 8 Tryz.func230 rfl fun h=>zSR (qv h rfl rfl fun w1 bb1 h=>X0 6 rfl (zcL h hF (qhD (h.old s1) (qgS (x:=node) 0 h rfl rfl)) rfl fun r1 w2 S1 p2 k1 h hF=>X0 2 rfl ?_))
 obtain rfl:=qb hF
 exact rO 0 h rfl ⟨rfl,trivial⟩
def qbn (a_0:(Option Tgraph)) (a_1:qt) (a_3:qy) (r4:(List Int)):Nat→Bool→Int→Int→Int→Int→Int→Int→Option (Bool × Int × Int × Int × Int × Int × Int)
 | 0,_,_,_,_,_,_,_=>none
 | n+1,b2,i6,i7,i8,i9,i10,i11 =>
  bif decide (i11<(r4.length:Int)) then
   (idx r4 i11).bind fun y1 =>
   (a_0).bind fun y2 =>
   (y2.view).bind fun y3 =>
   (idx y3.links y1).bind fun y4 =>
   (idx a_3.Bg y4.Bk).bind fun y5 =>
   bif y5 then
    (idx a_3.Bc y4.Bk).bind fun y6 =>
    (qgv n y2.view a_1 y1 y6).bind fun o=>match o with
     | (r6,r7) =>
      (idx a_3.Ai y4.Bk).bind fun y9 =>
      (qld n y9 r6).bind fun r10 =>
      (qf0 n (⟨i6,(⟨i7,i8⟩:qf),(⟨i9,i10⟩:qf)⟩:qe) b2 r10 r7).bind fun o=>match o with
       | (x7,x8) =>
        qbn a_0 a_1 a_3 r4 n x8 x7.Bq x7.Ai.Ap x7.Ai.Be x7.Bc.Ap x7.Bc.Be (W64 (i11+1))
   else
    qbn a_0 a_1 a_3 r4 n b2 i6 i7 i8 i9 i10 (W64 (i11+1))
  else
   some (b2,i6,i7,i8,i9,i10,i11)
def qdC (n:Nat) (a_0:(Option Tgraph)) (a_1:qt) (a_2:(List qe)) (a_3:qy) (a_4:Int):Option (Bool × qe) :=
 (qeh n a_2 a_4).bind fun o=>match o with
  | (r2,r3) =>
   (
    bif r3 then
     (qf0 n (⟨a_4,(⟨0,0⟩:qf),(⟨0,0⟩:qf)⟩:qe) false (⟨r2.Ai.Ap,r2.Ai.Be⟩:qf) (⟨r2.Bc.Ap,r2.Bc.Be⟩:qf)).bind fun o=>match o with
      | (x9,x10) =>
       some (x10,x9.Bq,x9.Ai.Ap,x9.Ai.Be,x9.Bc.Ap,x9.Bc.Be)
    else
     some (false,a_4,0,0,0,0)).bind fun o=>match o with
    | (b1,i1,i2,i3,i4,i5) =>
     (qjs n a_0 a_4).bind fun r4 =>
     (qbn a_0 a_1 a_3 r4 n b1 i1 i2 i3 i4 i5 0).bind fun o=>match o with
     | (b2,i6,i7,i8,i9,i10,_) =>
      bif (!b2) then some (false,(⟨0,(⟨0,0⟩:qf),(⟨0,0⟩:qf)⟩:qe)) else
      some (true,(⟨i6,(⟨i7,i8⟩:qf),(⟨i9,i10⟩:qf)⟩:qe))
theorem ql6 {a_0:(Option Tgraph)} {a_1:qt} {a_2:(List qe)} {a_3:qy} {a_4:Int} (ha1:Ro w a_0 cs1) (ha2:Ro w a_1 cs2) (ha3:Ro w a_2 cs3) (ha4:Ro w a_3 cs4) {r:(Bool × qe)} (hF:qdC n a_0 a_1 a_2 a_3 a_4=some r):RetV Tryz.prog 195 [GoT.v (Option Tgraph) cs1,GoT.v qt cs2,GoT.v (List qe) cs3,GoT.v qy cs4,.int .i64 a_4] w r:=by
 obtain ⟨p1,rfl,s1⟩:=qaq ha1
 obtain rfl:=qaJ ha2
 obtain ⟨p2,k1,rfl,s2⟩:=ha3
 obtain ⟨p3,k2,p4,k3,p5,k4,rfl,s3,s4,s5⟩:=qcN ha4
 refine zV 88 Tryz.func195 rfl fun h=>zSR (qv h rfl rfl fun w1 bb1 h=>qv h rfl rfl fun w2 bb2 h=>zp1 rfl (qp qa h rfl rfl rfl fun w3 bb3 h=>X0 4 rfl (r_v (qaa qa [0] [.tmp 21] rfl rfl rfl rfl rfl rfl rfl rfl) rfl (qp qa h rfl rfl rfl fun w4 bb4 h=>zs 0 h rfl fun w5 h=>zNSR (qp qa h rfl rfl rfl fun w6 bb5 h=>zs 0 h rfl fun w7 h=>X0 6 rfl ?_)))))
 obtain ⟨r1,hr1,hF⟩:=qc hF
 obtain ⟨r2,r3⟩:=r1
 refine qa5 (r2,r3) h (cB 79 rfl) (qjl ⟨_,_,rfl,(h.oldS s2)⟩ hr1) rfl rfl rfl rfl fun w8 S1 us1 hv1 hr2=>?_
 obtain ⟨S2,S3,cs5,us2,rfl,hv2,hr3⟩:=hv1.cons hr2
 obtain rfl:=qE (hv2.sh.own 0 rfl)
 obtain ⟨rfl,h⟩:=hv2.lastB hr3
 refine zp3 rfl (qp qa h rfl rfl rfl fun w9 bb6 h=>zs 0 h rfl fun w10 h=>X0 6 rfl ?_)
 obtain ⟨KF1,hKF1,o5,hF,hK2⟩:=bindE hF
 refine qbe (fun e w'=>∃ (b1:Bool) (i1:Int) (i2:Int) (i3:Int) (i4:Int) (i5:Int),KF1 (b1,i1,i2,i3,i4,i5)=some r∧e=[(0,.pointer p1),(4,.int .i64 a_4),(6,.pointer (some ⟨bb1,0,none⟩)),(8,.pointer (some ⟨bb2,0,none⟩)),(11,.pointer (some ⟨bb3,0,none⟩)),(12,.pointer (some ⟨bb4,0,none⟩)),(13,.pointer (some ⟨bb5,0,none⟩))]∧SH w w' [Ch.box bb5 [.bool b1] 4,Ch.box bb4 [.int .i64 i1,.int .i64 i2,.int .i64 i3,.int .i64 i4,.int .i64 i5] 116,Ch.box bb3 [.int .i64 0,.int .i64 0,.int .i64 0,.int .i64 0,.int .i64 0] 116,Ch.box bb2 (qbK a_3 p3 p4 p5 k2 k3 k4) 107,Ch.box bb1 (qb2 a_1) 52]) ?_ ?_
 ·refine qh rfl hF ?_ ?_<;>intro hF
  ·refine X2 5 0 0 h rfl ?_
   replace h:=h.pick [2,3,0,1,4,5,6] rfl
   obtain ⟨o6,hr43,hF⟩:=qc hF
   obtain ⟨x9,x10⟩:=o6
   refine qvT (cB 229 rfl) (qjS h hr43) rfl rfl rfl rfl fun w66 h=>?_
   replace h:SH _ _ [Ch.box bb5 [.bool x10] 4,Ch.box bb4 (qfG x9) 116,Ch.box bb6 (qfG r2) 116,Ch.own S2 (r2:qe) (qfG r2),Ch.box bb3 [.int .i64 0,.int .i64 0,.int .i64 0,.int .i64 0,.int .i64 0] 116,Ch.box bb2 (qbK a_3 p3 p4 p5 k2 k3 k4) 107,Ch.box bb1 (qb2 a_1) 52]:=h
   refine qcH ?_
   replace h:=h.pick [0,1,4,5,6] rfl
   obtain rfl:=qb hF
   exact rG ⟨_,_,_,_,_,_,hK2,rfl,h⟩ rfl
  refine qih ?_
  replace h:=h.pick [2,3,4,5,6] rfl
  obtain rfl:=qb hF
  exact rG ⟨_,_,_,_,_,_,hK2,rfl,h⟩ rfl
 rintro e7 w67 ⟨b1,i1,i2,i3,i4,i5,hF,rfl,h⟩
 subst hKF1
 refine X0 5 rfl (zcL h hF (qpT (h.old s1)) rfl fun r4 w11 S5 p6 k5 h hF=>X0 3 rfl ?_)
 obtain ⟨o1,hF,hK1⟩:=qc hF
 refine qm (rL (fun m e w'=>∃ (b2:Bool) (i6:Int) (i7:Int) (i8:Int) (i9:Int) (i10:Int) (i11:Int),qbn a_0 a_1 a_3 r4 m b2 i6 i7 i8 i9 i10 i11=some o1∧e=[(0,.pointer p1),(6,.pointer (some ⟨bb1,0,none⟩)),(8,.pointer (some ⟨bb2,0,none⟩)),(11,.pointer (some ⟨bb3,0,none⟩)),(12,.pointer (some ⟨bb4,0,none⟩)),(13,.pointer (some ⟨bb5,0,none⟩)),(37,.slice p6 r4.length k5),(38,.int .i64 (r4.length:Int)),(39,.int .i64 i11)]∧SH w w' [Ch.own S5 (r4:List Int) [.slice p6 r4.length k5],Ch.box bb5 [.bool b2] 4,Ch.box bb4 [.int .i64 i6,.int .i64 i7,.int .i64 i8,.int .i64 i9,.int .i64 i10] 116,Ch.box bb3 [.int .i64 0,.int .i64 0,.int .i64 0,.int .i64 0,.int .i64 0] 116,Ch.box bb2 (qbK a_3 p3 p4 p5 k2 k3 k4) 107,Ch.box bb1 (qb2 a_1) 52]) n ⟨_,_,_,_,_,_,_,hF,rfl,h⟩ rfl ?_)
 rintro m1 e1 w12 ⟨b2,i6,i7,i8,i9,i10,i11,hF,rfl,h⟩
 rcases m1 with _|m1
 ·cases hF
 refine X0 5 rfl (qh rfl hF ?_ ?_)<;>intro hF
 ·refine zKSBSR ?_
  obtain ⟨y1,hy1,hF,he1,b3,_,q1,cs6,hp1,hq1,rfl,hc2⟩:=(h.sl 0 rfl).1.ix hF
  refine zx hp1 hq1 ⟨he1.1,qC he1.2.1 (h.sl 0 rfl).2⟩ rfl (zc 0 hc2 rfl (X0 5 rfl ?_))
  obtain ⟨y2,hy2,hF⟩:=qc hF
  obtain ⟨b4,o_2,cs7,rfl,-,hr7,hc3⟩:=PtR.get s1 hy2
  obtain ⟨p7,p8,k6,rfl,s6,s7⟩:=qdw hr7
  refine zp2 rfl (zc 0 (hc3.below h.below) rfl ?_)
  obtain ⟨y3,hy3,hF⟩:=qc hF
  obtain ⟨b5,o_3,cs8,rfl,-,hr8,hc4⟩:=PtR.get s6 hy3
  obtain ⟨p9,k7,p10,k8,p11,k9,p12,k10,p13,k11,p14,k12,p15,k13,p16,k14,p17,k15,p18,k16,rfl,s8,s9,s10,s11,s12,s13,s14,s15,s16,s17⟩:=qbP hr8
  refine zp2 rfl (zc 6 (hc4.below h.below) rfl (zp1 rfl ?_))
  obtain ⟨y4,hy4,hF,he2,b6,_,q2,cs9,hp2,hq2,hr9,hc5⟩:=s14.ix hF
  obtain rfl:=qav hr9
  refine zxe hp2 hq2 he2 rfl (zp1 rfl (zc 0 (hc5.below h.below) rfl (X1 7 4 h rfl ?_)))
  obtain ⟨y5,hy5,hF,he3,b7,_,q3,cs10,hp3,hq3,rfl,hc6⟩:=s3.ix hF
  refine zxe hp3 hq3 he3 rfl (zc 0 (hc6.below h.below) rfl (qcH (qh rfl hF ?_ ?_)))<;>intro hF
  ·refine qcP (rA [] [4,5] h rfl fun w13 h=>M0 7 [0,1,2] (h.pick [4,5] rfl) rfl (Al 3 15 0 hc3 (h.pick [4,5] rfl) rfl (M2 511 [4,5,6,7,8] 1 0 (h.pick [4,5] rfl) rfl ?_)))
   obtain ⟨y6,hy6,hF,he4,b8,_,q4,cs11,hp4,hq4,hr11,hc8⟩:=s5.ix hF
   obtain rfl:=qz hr11
   refine Ae 9 1023 hp4 hq4 he4 (h.pick [4,5] rfl) rfl (Al 10 2047 0 hc8 (h.pick [4,5] rfl) rfl ?_)
   obtain ⟨r5,hr12,hF⟩:=qc hF
   obtain ⟨r6,r7⟩:=r5
   refine qnP (fun e w'=>∃ (bb31:Nat) (bb32:Nat),e=[(0,.pointer (some ⟨b4,o_2,none⟩)),(11,.pointer (some ⟨bb3,0,none⟩)),(12,.pointer (some ⟨bb4,0,none⟩)),(13,.pointer (some ⟨bb5,0,none⟩)),(18,.int .i64 y4.Bk),(19,.pointer (some ⟨bb32,0,none⟩)),(20,.pointer (some ⟨bb31,0,none⟩)),(37,.slice p6 r4.length k5),(38,.int .i64 (r4.length:Int)),(39,.int .i64 i11),(6,.pointer (some ⟨bb1,0,none⟩)),(8,.pointer (some ⟨bb2,0,none⟩))]∧SH w w' [Ch.box bb31 (qh4 r7) 86,Ch.box bb32 (qh4 r6) 86,Ch.own S5 (r4:List Int) [.slice p6 r4.length k5],Ch.box bb5 [.bool b2] 4,Ch.box bb4 [.int .i64 i6,.int .i64 i7,.int .i64 i8,.int .i64 i9,.int .i64 i10] 116,Ch.box bb3 [.int .i64 0,.int .i64 0,.int .i64 0,.int .i64 0,.int .i64 0] 116,Ch.box bb2 (qbK a_3 p3 p4 p5 k2 k3 k4) 107,Ch.box bb1 (qb2 a_1) 52]) 0 (bits 19 524287) ?_ ?_
   ·intro K
    refine qqW 11 15 16 rfl rfl rfl (bits 19 4095) (bits 19 34815) (bits 19 67583) (by kernel_rfl) (by kernel_rfl) (by kernel_rfl) (by kernel_rfl) ?_ ?_ ?_
    ·refine qa5 (r6,r7) h (cB 112 rfl) (qeK (h.old s6) (h.old ha2) (qA y6) hr12) rfl rfl rfl rfl fun w54 S32 us15 hv22 hr37=>?_
     obtain ⟨S33,S34,cs28,us16,rfl,hv23,hr38⟩:=hv22.cons hr37
     obtain rfl:=qz (hv23.sh.own 0 rfl)
     obtain ⟨cs29,rfl,h⟩:=hv23.last hr38
     obtain rfl:=qz (h.own 0 rfl)
     refine G0 32767 [12,13,14] (h.pick [6,7] rfl) rfl (At 15 16 65535 98303 rfl ?_ ?_)
     ·refine qp qa h rfl rfl rfl fun w55 bb29 h=>Ag (h.pick [7,8] rfl) (Ao 16 131071 rfl (qp qa h rfl rfl rfl fun w56 bb30 h=>Ag (h.pick [8,9] rfl) (Ao 17 262143 rfl (zs 1 h rfl fun w57 h=>Ag (h.pick [8,9] rfl) (Ao 18 524287 rfl (zs 0 h rfl fun w58 h=>Ag (h.pick [8,9] rfl) ?_))))))
      replace h:=h.pick [0,1,4,5,6,7,8,9] rfl
      exact qfy [(0,_),(11,_),(12,_),(13,_),(18,_),(19,_),(20,_),(37,_),(38,_),(39,_),(6,_),(8,_)] ⟨rfl,rfl,rfl,rfl,rfl,rfl,rfl,rfl,rfl,rfl,rfl,rfl,trivial⟩ (K _ _ ⟨_,_,rfl,h⟩)
     refine qp qa h rfl rfl rfl fun w55 bb29 h=>Ag (h.pick [7,8] rfl) (Ao 15 131071 rfl (qp qa h rfl rfl rfl fun w56 bb30 h=>Ag (h.pick [8,9] rfl) (Ao 17 262143 rfl (zs 0 h rfl fun w57 h=>Ag (h.pick [8,9] rfl) (Ao 18 524287 rfl (zs 1 h rfl fun w58 h=>Ag (h.pick [8,9] rfl) ?_))))))
     replace h:=h.pick [1,0,4,5,6,7,8,9] rfl
     exact qfy [(0,_),(11,_),(12,_),(13,_),(18,_),(19,_),(20,_),(37,_),(38,_),(39,_),(6,_),(8,_)] ⟨rfl,rfl,rfl,rfl,rfl,rfl,rfl,rfl,rfl,rfl,rfl,rfl,trivial⟩ (K _ _ ⟨_,_,rfl,h⟩)
    ·refine qp qa h rfl rfl rfl fun w54 bb29 h=>Ag (h.pick [5,6] rfl) (At 11 16 36863 100351 rfl ?_ ?_)
     ·refine qa5 (r6,r7) h (cB 112 rfl) (qeK (h.old s6) (h.old ha2) (qA y6) hr12) rfl rfl rfl rfl fun w55 S32 us15 hv22 hr37=>?_
      obtain ⟨S33,S34,cs28,us16,rfl,hv23,hr38⟩:=hv22.cons hr37
      obtain rfl:=qz (hv23.sh.own 0 rfl)
      obtain ⟨cs29,rfl,h⟩:=hv23.last hr38
      obtain rfl:=qz (h.own 0 rfl)
      refine G0 65535 [12,13,14] (h.pick [7,8] rfl) rfl (Ao 16 131071 rfl (qp qa h rfl rfl rfl fun w56 bb30 h=>Ag (h.pick [8,9] rfl) (Ao 17 262143 rfl (zs 3 h rfl fun w57 h=>Ag (h.pick [8,9] rfl) (Ao 18 524287 rfl (zs 0 h rfl fun w58 h=>Ag (h.pick [8,9] rfl) ?_))))))
      replace h:=h.pick [0,3,4,5,6,7,8,9] rfl
      exact qfy [(0,_),(11,_),(12,_),(13,_),(18,_),(19,_),(20,_),(37,_),(38,_),(39,_),(6,_),(8,_)] ⟨rfl,rfl,rfl,rfl,rfl,rfl,rfl,rfl,rfl,rfl,rfl,rfl,trivial⟩ (K _ _ ⟨_,_,rfl,h⟩)
     refine qp qa h rfl rfl rfl fun w55 bb30 h=>Ag (h.pick [6,7] rfl) (Ao 11 102399 rfl (qa5 (r6,r7) h (cB 112 rfl) (qeK (h.old s6) (h.old ha2) (qA y6) hr12) rfl rfl rfl rfl fun w56 S32 us15 hv22 hr37=>?_))
     obtain ⟨S33,S34,cs28,us16,rfl,hv23,hr38⟩:=hv22.cons hr37
     obtain rfl:=qz (hv23.sh.own 0 rfl)
     obtain ⟨cs29,rfl,h⟩:=hv23.last hr38
     obtain rfl:=qz (h.own 0 rfl)
     refine G0 131071 [12,13,14] (h.pick [8,9] rfl) rfl (Ao 17 262143 rfl (zs 3 h rfl fun w57 h=>Ag (h.pick [8,9] rfl) (Ao 18 524287 rfl (zs 2 h rfl fun w58 h=>Ag (h.pick [8,9] rfl) ?_))))
     replace h:=h.pick [2,3,4,5,6,7,8,9] rfl
     exact qfy [(0,_),(11,_),(12,_),(13,_),(18,_),(19,_),(20,_),(37,_),(38,_),(39,_),(6,_),(8,_)] ⟨rfl,rfl,rfl,rfl,rfl,rfl,rfl,rfl,rfl,rfl,rfl,rfl,trivial⟩ (K _ _ ⟨_,_,rfl,h⟩)
    refine qp qa h rfl rfl rfl fun w54 bb29 h=>Ag (h.pick [5,6] rfl) (At 11 15 69631 100351 rfl ?_ ?_)
    ·refine qa5 (r6,r7) h (cB 112 rfl) (qeK (h.old s6) (h.old ha2) (qA y6) hr12) rfl rfl rfl rfl fun w55 S32 us15 hv22 hr37=>?_
     obtain ⟨S33,S34,cs28,us16,rfl,hv23,hr38⟩:=hv22.cons hr37
     obtain rfl:=qz (hv23.sh.own 0 rfl)
     obtain ⟨cs29,rfl,h⟩:=hv23.last hr38
     obtain rfl:=qz (h.own 0 rfl)
     refine G0 98303 [12,13,14] (h.pick [7,8] rfl) rfl (Ao 15 131071 rfl (qp qa h rfl rfl rfl fun w56 bb30 h=>Ag (h.pick [8,9] rfl) (Ao 17 262143 rfl (zs 0 h rfl fun w57 h=>Ag (h.pick [8,9] rfl) (Ao 18 524287 rfl (zs 3 h rfl fun w58 h=>Ag (h.pick [8,9] rfl) ?_))))))
     replace h:=h.pick [3,0,4,5,6,7,8,9] rfl
     exact qfy [(0,_),(11,_),(12,_),(13,_),(18,_),(19,_),(20,_),(37,_),(38,_),(39,_),(6,_),(8,_)] ⟨rfl,rfl,rfl,rfl,rfl,rfl,rfl,rfl,rfl,rfl,rfl,rfl,trivial⟩ (K _ _ ⟨_,_,rfl,h⟩)
    refine qp qa h rfl rfl rfl fun w55 bb30 h=>Ag (h.pick [6,7] rfl) (Ao 11 102399 rfl (qa5 (r6,r7) h (cB 112 rfl) (qeK (h.old s6) (h.old ha2) (qA y6) hr12) rfl rfl rfl rfl fun w56 S32 us15 hv22 hr37=>?_))
    obtain ⟨S33,S34,cs28,us16,rfl,hv23,hr38⟩:=hv22.cons hr37
    obtain rfl:=qz (hv23.sh.own 0 rfl)
    obtain ⟨cs29,rfl,h⟩:=hv23.last hr38
    obtain rfl:=qz (h.own 0 rfl)
    refine G0 131071 [12,13,14] (h.pick [8,9] rfl) rfl (Ao 17 262143 rfl (zs 2 h rfl fun w57 h=>Ag (h.pick [8,9] rfl) (Ao 18 524287 rfl (zs 3 h rfl fun w58 h=>Ag (h.pick [8,9] rfl) ?_))))
    replace h:=h.pick [3,2,4,5,6,7,8,9] rfl
    exact qfy [(0,_),(11,_),(12,_),(13,_),(18,_),(19,_),(20,_),(37,_),(38,_),(39,_),(6,_),(8,_)] ⟨rfl,rfl,rfl,rfl,rfl,rfl,rfl,rfl,rfl,rfl,rfl,rfl,trivial⟩ (K _ _ ⟨_,_,rfl,h⟩)
   rintro e6 w59 ⟨bb31,bb32,rfl,h⟩
   refine Ad (rA [] [0,1,6] h rfl fun w60 h=>M1 7 [0,1,2] 2 (h.pick [0,1,6] rfl) rfl ?_)
   obtain ⟨y9,hy9,hF,he7,b10,_,q7,cs30,hp7,hq7,hr40,hc11⟩:=s4.ix hF
   obtain rfl:=qz hr40
   refine Ae 3 15 hp7 hq7 he7 (h.pick [0,1,6] rfl) rfl (Al 4 31 0 hc11 (h.pick [0,1,6] rfl) rfl (M2 191 [5,7] 1 0 (h.pick [0,1,6] rfl) rfl (Ao 6 255 rfl (zcO h hF (qpe (qA y9) (qA r6)) rfl fun r10 w61 S36 cs31 h hF=>?_))))
   obtain rfl:=qz (h.own 0 rfl)
   refine Ag (h.pick [1,2,7] rfl) (Ao 8 511 rfl ?_)
   replace h:=h.pick [4,5,0,1,2,3,6,7,8] rfl
   obtain ⟨o4,hr42,hF⟩:=qc hF
   obtain ⟨x7,x8⟩:=o4
   refine qvT (cB 229 rfl) (qjS h hr42) rfl rfl rfl rfl fun w62 h=>?_
   replace h:SH _ _ [Ch.box bb5 [.bool x8] 4,Ch.box bb4 (qfG x7) 116,Ch.own S36 (r10:qf) (qh4 r10),Ch.box bb31 (qh4 r7) 86,Ch.box bb32 (qh4 r6) 86,Ch.own S5 (r4:List Int) [.slice p6 r4.length k5],Ch.box bb3 [.int .i64 0,.int .i64 0,.int .i64 0,.int .i64 0,.int .i64 0] 116,Ch.box bb2 (qbK a_3 p3 p4 p5 k2 k3 k4) 107,Ch.box bb1 (qb2 a_1) 52]:=h
   refine Ag (h.pick [3,4,7] rfl) (Ad (X0 5 rfl ?_))
   replace h:=h.pick [5,0,1,6,7,8] rfl
   exact rK ⟨_,_,_,_,_,_,_,hF,rfl,h⟩ rfl
  exact X0 6 rfl (rK ⟨_,_,_,_,_,_,_,hF,rfl,h⟩ rfl)
 refine qq rfl ?_
 obtain rfl:=qb hF;replace hF:=hK1
 refine X1 6 1 h rfl (qh rfl hF ?_ ?_)<;>intro hF
 ·refine zSR (r_v (qaa qa [] [] rfl rfl rfl rfl rfl rfl rfl rfl) rfl (zp1 rfl (zs 3 h rfl fun w63 h=>qcH ?_)))
  obtain rfl:=qb hF
  exact qT qa (ρ:=(Bool × qe)) [GoT.v Bool [.bool false],GoT.v qe [.int .i64 0,.int .i64 0,.int .i64 0,.int .i64 0,.int .i64 0]] h ⟨rfl,⟨_,_,_,rfl,rfl,h.box 3 rfl,rfl⟩,trivial⟩ (PV.done h (qak h (qx (S:=fun _=>False) rfl) (qZ (qx (S:=fun _=>False) (qaB (⟨0,(⟨0,0⟩:qf),(⟨0,0⟩:qf)⟩:qe)))) (by rfl)))
 refine zKS (rA [] [2] h rfl fun w64 h=>M1 3 [0,1] 0 (h.pick [2] rfl) rfl (Ao 2 7 rfl (zs 3 h rfl fun w65 h=>Ag (h.pick [2] rfl) (Ad ?_))))
 obtain rfl:=qb hF
 exact qT qa (ρ:=(Bool × qe)) [GoT.v Bool [.bool true],GoT.v qe [.int .i64 i6,.int .i64 i7,.int .i64 i8,.int .i64 i9,.int .i64 i10]] h ⟨rfl,⟨_,_,_,rfl,rfl,h.box 3 rfl,rfl⟩,trivial⟩ (PV.done h (qak h (qx (S:=fun _=>False) rfl) (qZ (qx (S:=fun _=>False) (qaB (⟨i6,(⟨i7,i8⟩:qf),(⟨i9,i10⟩:qf)⟩:qe)))) (by rfl)))
def qaY (g:(Option Tgraph)) (c:qt) (sources:(List qe)) (order:(List Int)):Nat→(List qf)→(List qf)→(List Bool)→Int→Option (Flow (qy × Bool) ((List qf) × (List qf) × (List Bool) × Int))
 | 0,_,_,_,_=>none
 | n+1,x1,x2,x3,i1 =>
  bif decide (i1<(order.length:Int)) then
   (idx order i1).bind fun y2 =>
   (qdC n g c sources (⟨x3,x2,x1⟩:qy) y2).bind fun o=>match o with
    | (r3,r4) =>
     (
      bif r3 then
       (qgT n (⟨r4.Ai.Ap,r4.Ai.Be⟩:qf)).bind fun r5 =>
       some (!r5)
      else
       some false).bind fun b3 =>
     bif b3 then some (.ret ((⟨[],[],[]⟩:qy),false)) else
     (idx x3 y2).bind fun _ =>
     (idx x2 y2).bind fun _ =>
     (idx x1 y2).bind fun _ =>
     qaY g c sources order n (setS x1 y2 (⟨r4.Bc.Ap,r4.Bc.Be⟩:qf)) (setS x2 y2 (⟨r4.Ai.Ap,r4.Ai.Be⟩:qf)) (setS x3 y2 r3) (W64 (i1+1))
  else
   some (.nxt (x1,x2,x3,i1))
def qe6 (n:Nat) (g:(Option Tgraph)) (c:qt) (sources:(List qe)) (order:(List Int)):Option (qy × Bool) :=
 (g).bind fun y1 =>
 (qhC n y1.view).bind fun r1 =>
 (qaY g c sources order n r1.Bc r1.Ai r1.Bg 0).bind fun o=>match o with
 | .ret r=>some r
 | .nxt (x1,x2,x3,_) =>
  some ((⟨x3,x2,x1⟩:qy),true)
theorem qlZ {g:(Option Tgraph)} {c:qt} {sources:(List qe)} {order:(List Int)} (ha1:Ro w g cs1) (ha2:Ro w c cs2) (ha3:Ro w sources cs3) (ha4:Ro w order cs4) {r:(qy × Bool)} (hF:qe6 n g c sources order=some r):RetV Tryz.prog 157 [GoT.v (Option Tgraph) cs1,GoT.v qt cs2,GoT.v (List qe) cs3,GoT.v (List Int) cs4] w r:=by
 obtain ⟨p1,rfl,s1⟩:=qaq ha1
 obtain rfl:=qaJ ha2
 obtain ⟨p2,k1,rfl,s2⟩:=ha3
 obtain ⟨p3,k2,rfl,s3⟩:=ha4
 refine zV 62 Tryz.func157 rfl fun h=>zSR (qv h rfl rfl fun w1 bb1 h=>qp qa h rfl rfl rfl fun w2 bb2 h=>X0 5 rfl ?_)
 obtain ⟨y1,hy1,hF⟩:=qc hF
 obtain ⟨b1,o_1,cs5,rfl,-,hr1,hc1⟩:=PtR.get s1 hy1
 obtain ⟨p4,p5,k3,rfl,s4,s5⟩:=qdw hr1
 refine zp2 rfl (zc 0 (hc1.below h.below) rfl (zcO h hF (qmG (h.old s4)) rfl fun r1 w3 S1 cs6 h hF=>?_))
 obtain ⟨p6,k4,p7,k5,p8,k6,rfl,-,-,-⟩:=qcN (h.own 0 rfl)
 refine qp qa h rfl rfl rfl fun w4 bb3 h=>zs 0 h rfl fun w5 h=>X0 8 rfl ?_
 replace h:=h.pick [1,0,2,3] rfl
 obtain ⟨S2,S3,S4,h⟩:=qhL h
 obtain ⟨o1,hF,hK1⟩:=qc hF
 refine qm (rL (fun m e w'=>∃ (x1:(List qf)) (x2:(List qf)) (x3:(List Bool)) (i1:Int),qaY g c sources order m x1 x2 x3 i1=some o1∧e=[(0,.pointer (some ⟨b1,o_1,none⟩)),(2,.slice p2 sources.length k1),(5,.pointer (some ⟨bb1,0,none⟩)),(8,.pointer (some ⟨bb2,0,none⟩)),(10,.pointer (some ⟨bb3,0,none⟩)),(20,.slice p3 order.length k2),(21,.int .i64 (order.length:Int)),(22,.int .i64 i1)]∧SH w w' [Ch.own S4 (x1:List qf) [.slice p8 r1.Bc.length k6],Ch.own S3 (x2:List qf) [.slice p7 r1.Ai.length k5],Ch.own S2 (x3:List Bool) [.slice p6 r1.Bg.length k4],Ch.box bb3 (qbK r1 p6 p7 p8 k4 k5 k6) 107,Ch.box bb2 [.slice none 0 0,.slice none 0 0,.slice none 0 0] 107,Ch.box bb1 (qb2 c) 52]) n ⟨_,_,_,_,hF,rfl,h⟩ rfl ?_)
 rintro m1 e1 w6 ⟨x1,x2,x3,i1,hF,rfl,h⟩
 rcases m1 with _|m1
 ·cases hF
 refine X0 5 rfl (qh rfl hF ?_ ?_)<;>intro hF
 ·refine zKSBSR ?_
  obtain ⟨y2,hy2,hF,he1,b2,_,q1,cs7,hp1,hq1,rfl,hc3⟩:=s3.ix hF
  refine zxe hp1 hq1 he1 rfl (zc 0 (hc3.below h.below) rfl (X2 9 5 3 h rfl ?_))
  obtain ⟨r2,hr4,hF⟩:=qc hF
  obtain ⟨r3,r4⟩:=r2
  refine qa5 (r3,r4) h (cB 195 rfl) (ql6 (h.old s1) (h.old ha2) ⟨_,_,rfl,(h.oldS s2)⟩ ⟨[.slice p6 r1.Bg.length k4],[.slice p7 r1.Ai.length k5,.slice p8 r1.Bc.length k6],rfl,(h.own 2 rfl),⟨[.slice p7 r1.Ai.length k5],[.slice p8 r1.Bc.length k6],rfl,(h.own 1 rfl),(h.own 0 rfl)⟩⟩ hr4) rfl rfl rfl rfl fun w7 S5 us1 hv1 hr5=>?_
  obtain ⟨S6,us2,rfl,hv2,hr6⟩:=hv1.consB hr5
  obtain ⟨cs8,rfl,h⟩:=hv2.last hr6
  obtain rfl:=qE (h.own 0 rfl)
  refine zp3 rfl (qp qa h rfl rfl rfl fun w8 bb4 h=>zp1 rfl (zs 0 h rfl fun w9 h=>zNSS ?_))
  obtain ⟨KF1,hKF1,o2,hF,hK2⟩:=bindE hF
  refine qbe (fun e w'=>∃ (b3:Bool),KF1 b3=some o1∧e=[(0,.pointer (some ⟨b1,o_1,none⟩)),(2,.slice p2 sources.length k1),(5,.pointer (some ⟨bb1,0,none⟩)),(8,.pointer (some ⟨bb2,0,none⟩)),(10,.pointer (some ⟨bb3,0,none⟩)),(12,.int .i64 y2),(13,.bool r3),(14,.pointer (some ⟨bb4,0,none⟩)),(20,.slice p3 order.length k2),(21,.int .i64 (order.length:Int)),(22,.int .i64 i1),(41,.bool b3)]∧SH w w' [Ch.box bb4 (qfG r4) 116,Ch.own S4 (x1:List qf) [.slice p8 r1.Bc.length k6],Ch.own S3 (x2:List qf) [.slice p7 r1.Ai.length k5],Ch.own S2 (x3:List Bool) [.slice p6 r1.Bg.length k4],Ch.box bb3 (qbK r1 p6 p7 p8 k4 k5 k6) 107,Ch.box bb2 [.slice none 0 0,.slice none 0 0,.slice none 0 0] 107,Ch.box bb1 (qb2 c) 52]) ?_ ?_
  ·refine X0 3 rfl (qj (t:=36) hF rfl ?_ ?_)<;>intro hF
   ·refine X1 5 0 h rfl (zcB h hF (qiS (qA _)) rfl fun r5 w15 h hF=>X0 4 rfl ?_)
    replace h:=h.pick [0,2,3,4,5,6,7] rfl
    obtain rfl:=qb hF
    exact rG ⟨_,hK2,rfl,h⟩ rfl
   refine X0 6 rfl ?_
   replace h:=h.pick [0,2,3,4,5,6,7] rfl
   obtain rfl:=qb hF
   exact rG ⟨_,hK2,rfl,h⟩ rfl
  rintro e2 w16 ⟨b3,hF,rfl,h⟩
  subst hKF1
  refine qh rfl hF ?_ ?_<;>intro hF
  ·refine zSR (r_v (qaa qa [] [] rfl rfl rfl rfl rfl rfl rfl rfl) rfl (zs 5 h rfl fun w10 h=>X0 2 rfl ?_))
   obtain rfl:=qb hF;replace hF:=hK1
   obtain rfl:=qb hF
   exact qT qa (ρ:=(qy × Bool)) [GoT.v qy [.slice none 0 0,.slice none 0 0,.slice none 0 0],GoT.v Bool [.bool false]] h ⟨⟨_,_,_,rfl,rfl,h.box 5 rfl,rfl⟩,rfl,trivial⟩ (PV.done h (qak h (qf4 (⟨[],[],[]⟩:qy) h qg0 qg0 qg0 (by rfl) (by rfl)) (qZ (qx (S:=fun _=>False) rfl)) (by rfl)))
  refine qih (rA [] [0,4] h rfl fun w11 h=>M4 8191 [0,1,2,3,4,5,6,7,8,9,10,11,12] 1 1 1 0 (h.pick [0,4] rfl) rfl (M1 16383 [13] 0 (h.pick [0,4] rfl) rfl ?_))
  obtain ⟨y3,hy3,hF,he2,b4,_,q2,cs9,hp2,hq2,rfl,hc5⟩:=(h.sl 3 rfl).1.ix hF
  refine Ax 14 32767 hp2 hq2 ⟨he2.1,qC he2.2.1 (h.sl 3 rfl).2⟩ (h.pick [0,4] rfl) rfl (Ao 15 65535 rfl (qaA qa 3 0 r3 h rfl hy3 hp2 hq2 rfl hc5 rfl rfl rfl rfl rfl rfl rfl fun w12 h=>Ag (h.pick [0,4] rfl) ?_))
  obtain ⟨y4,hy4,hF,he3,b5,_,q3,cs10,hp3,hq3,hr9,hc6⟩:=(h.sl 2 rfl).1.ix hF
  obtain rfl:=qz hr9
  refine Ax 16 131071 hp3 hq3 ⟨he3.1,qC he3.2.1 (h.sl 2 rfl).2⟩ (h.pick [0,4] rfl) rfl (Ao 17 262143 rfl (qaA qa 2 0 (⟨r4.Ai.Ap,r4.Ai.Be⟩:qf) h rfl hy4 hp3 hq3 (qA y4) hc6 rfl rfl rfl (qA (⟨r4.Ai.Ap,r4.Ai.Be⟩:qf)) rfl rfl rfl fun w13 h=>Ag (h.pick [0,4] rfl) ?_))
  obtain ⟨y5,hy5,hF,he4,b6,_,q4,cs11,hp4,hq4,hr10,hc7⟩:=(h.sl 1 rfl).1.ix hF
  obtain rfl:=qz hr10
  refine Ax 18 524287 hp4 hq4 ⟨he4.1,qC he4.2.1 (h.sl 1 rfl).2⟩ (h.pick [0,4] rfl) rfl (Ao 19 1048575 rfl (qaA qa 1 0 (⟨r4.Bc.Ap,r4.Bc.Be⟩:qf) h rfl hy5 hp4 hq4 (qA y5) hc7 rfl rfl rfl (qA (⟨r4.Bc.Ap,r4.Bc.Be⟩:qf)) rfl rfl rfl fun w14 h=>Ag (h.pick [0,4] rfl) (Ad (X0 5 rfl ?_))))
  replace h:=h.pick [1,2,3,4,5,6] rfl
  exact rK ⟨_,_,_,_,hF,rfl,h⟩ rfl
 refine qq rfl ?_
 obtain rfl:=qb hF;replace hF:=hK1
 refine X1 3 3 h rfl (zs 4 h rfl fun w17 h=>X0 2 rfl ?_)
 obtain rfl:=qb hF
 exact qT qa (ρ:=(qy × Bool)) [GoT.v qy (qbK r1 p6 p7 p8 k4 k5 k6),GoT.v Bool [.bool true]] h ⟨⟨_,_,_,rfl,rfl,h.box 4 rfl,rfl⟩,rfl,trivial⟩ (PV.done h (qak h (qf4 (⟨x3,x2,x1⟩:qy) h (qag 2 h rfl) (qag 1 h rfl) (qag 0 h rfl) (by rfl) (by rfl)) (qZ (qx (S:=fun _=>False) rfl)) (by rfl)))
def qjP (n:Nat) (j:qaW):Option ((Option Twork) × Int) :=
 (qfS n (⟨(⟨j.Af.Av.As⟩:qn),(⟨j.Af.Ab.Aa,j.Af.Ab.Ak,j.Af.Ab.Aj⟩:qd),j.Af.Ac⟩:qg) (⟨j.Ah.Bb,j.Ah.Ar,j.Ah.Az,j.Ah.Aq,j.Ah.Ba⟩:qt) j.Bi j.Ay none).bind fun o=>match o with
  | (r2,r3,r4) =>
   bif (r4 != 0) then some (none,r4) else
   (qe6 n r2 (⟨j.Ah.Bb,j.Ah.Ar,j.Ah.Az,j.Ah.Aq,j.Ah.Ba⟩:qt) j.Ay r3).bind fun o=>match o with
    | (r6,r7) =>
     bif (!r7) then some (none,3) else
     some ((some (⟨r2,(⟨(⟨(⟨j.Af.Av.As⟩:qn),(⟨j.Af.Ab.Aa,j.Af.Ab.Ak,j.Af.Ab.Aj⟩:qd),j.Af.Ac⟩:qg),(⟨j.Ah.Bb,j.Ah.Ar,j.Ah.Az,j.Ah.Aq,j.Ah.Ba⟩:qt),j.Bi,j.Ay⟩:qaW),r6,r3⟩:Twork)),0)
theorem qro {A:Nat→Prop} (hA:∀ b,A b→old w b) {j:qaW} (ha1:GoT.R w A j cs1) {r:((Option Twork) × Int)} (hF:qjP n j=some r):RetG Tryz.prog 105 [GoT.v qaW cs1] w A r:=by
 obtain ⟨p1,k1,p2,k2,p3,k3,p4,k4,p5,k5,p6,k6,p7,k7,rfl,s1,s2,s3,s4,s5,s6,s7⟩:=qcX ha1
 have hg:=Rg.start hA
 refine qek Tryz.func105 rfl (m:=43) rfl rfl (fun h=>?_)
 refine zSR (qv h rfl rfl fun w1 bb1 h=>X4 13 0 0 0 0 h rfl ?_)
 obtain ⟨r1,hr1,hF⟩:=qc hF
 obtain ⟨r2,r3,r4⟩:=r1
 refine qh0 (r2,r3,r4) hg h (cB 156 rfl) (qoc (hg.regOld h) (qfu _ (hg.inS h s1) (hg.inS h s2) (hg.inS h s3) (hg.inS h s4) (hg.inS h s5)) (qc6 _) ⟨_,_,rfl,(hg.inS h s6)⟩ ⟨_,_,rfl,(hg.inS h s7)⟩ rfl hr1) rfl rfl rfl rfl fun w2 us1 B1 hg1 hu1 hz1 hv1=>?_
 have hL1:=h.ext hu1.below
 have hc1:=Up.box 0 h hu1 rfl
 have s8:=Up.S hg h hu1 s1
 have s9:=Up.S hg h hu1 s2
 have s10:=Up.S hg h hu1 s3
 have s11:=Up.S hg h hu1 s4
 have s12:=Up.S hg h hu1 s5
 have s13:=Up.S hg h hu1 s6
 have s14:=Up.S hg h hu1 s7
 have s15:=Up.R hg h hu1 ha1
 have ha2:=Up.boxP (x:=j) hg 0 h hu1 rfl (hg.inR h ha1)
 have hb1:=h.below.trans (hu1.below.mono h.below.size)
 replace h:=hz1
 obtain ⟨cs2,us2,rfl,hr2,hv2⟩:=qkp hv1
 obtain ⟨p8,rfl,s16⟩:=qaq hr2
 obtain ⟨cs3,us3,rfl,hr3,hv3⟩:=qkp hv2
 obtain ⟨p9,k8,rfl,s17⟩:=hr3
 obtain ⟨cs4,rfl,hr4⟩:=qj8 hv3
 obtain rfl:=hr4
 refine X0 14 rfl (qh rfl hF ?_ ?_)<;>intro hF
 ·refine X0 6 rfl ?_
  obtain rfl:=qb hF
  have hv4:GoRs.Rs (ρ:=((Option Twork) × Int)) h.wc (reg A w h.wc) (none,r4) [GoT.v (Option Twork) [.pointer none],GoT.v Int [.int .i64 r4]]:=⟨_,_,rfl,rfl,⟨_,rfl,rfl⟩⟩
  exact qdS qa (ρ:=((Option Twork) × Int)) (r:=(none,r4)) [GoT.v (Option Twork) [.pointer none],GoT.v Int [.int .i64 r4]] (h.unbase hg1.below (show NoD [] from trivial)) ⟨rfl,rfl,trivial⟩ hv4
 refine X0 5 rfl (zc 5 (hc1.below h.below) rfl (zp1 rfl (zc 11 (hc1.below h.below) rfl (zp1 rfl ?_))))
 obtain ⟨r5,hr5,hF⟩:=qc hF
 obtain ⟨r6,r7⟩:=r5
 refine qa5 (r6,r7) h (cB 157 rfl) (qlZ (h.old (GoT.mono s16 hg1.old)) (qc6 _) ⟨_,_,rfl,(h.oldS (s14.mono hg1.old))⟩ ⟨_,_,rfl,(h.oldS (s17.mono hg1.old))⟩ hr5) rfl rfl rfl rfl fun w3 S1 us4 hv5 hr6=>?_
 obtain ⟨S2,S3,cs5,us5,rfl,hv6,hr7⟩:=hv5.cons hr6
 obtain ⟨p10,k9,p11,k10,p12,k11,rfl,-,-,-⟩:=qcN (hv6.sh.own 0 rfl)
 obtain ⟨rfl,h⟩:=hv6.lastB hr7
 refine zp3 rfl (qp qa h rfl rfl rfl fun w4 bb2 h=>zs 0 h rfl fun w5 h=>X0 8 rfl (qh rfl hF ?_ ?_))<;>intro hF
 ·refine X0 5 rfl ?_
  obtain rfl:=qb hF
  have hv8:GoRs.Rs (ρ:=((Option Twork) × Int)) h.wc (reg A w h.wc) (none,3) [GoT.v (Option Twork) [.pointer none],GoT.v Int [.int .i64 3]]:=⟨_,_,rfl,rfl,⟨_,rfl,rfl⟩⟩
  exact qdS qa (ρ:=((Option Twork) × Int)) (r:=(none,3)) [GoT.v (Option Twork) [.pointer none],GoT.v Int [.int .i64 3]] (h.unbase hg1.below ⟨fun _ h=>h,⟨fun _ h=>h,trivial⟩⟩) ⟨rfl,rfl,trivial⟩ hv8
 refine X0 4 rfl (zc 0 (hc1.below h.below) rfl (X1 2 0 h rfl (r_v (qaa qa [0,1,2,3] [.tmp 37,.tmp 38,.tmp 39,.tmp 40] rfl rfl rfl rfl rfl rfl rfl rfl) rfl (qv h rfl rfl fun w6 bb3 h=>X0 3 rfl ?_))))
 obtain rfl:=qb hF
 have hv9:GoRs.Rs (ρ:=((Option Twork) × Int)) h.wc (reg A w h.wc) ((some (⟨r2,(⟨(⟨(⟨j.Af.Av.As⟩:qn),(⟨j.Af.Ab.Aa,j.Af.Ab.Ak,j.Af.Ab.Aj⟩:qd),j.Af.Ac⟩:qg),(⟨j.Ah.Bb,j.Ah.Ar,j.Ah.Az,j.Ah.Aq,j.Ah.Ba⟩:qt),j.Bi,j.Ay⟩:qaW),r6,r3⟩:Twork)),0) [GoT.v (Option Twork) [.pointer (some ⟨bb3,0,none⟩)],GoT.v Int [.int .i64 0]]:=⟨_,_,rfl,(hg1.outR h (Rg.boxR (x:=(⟨r2,(⟨(⟨(⟨j.Af.Av.As⟩:qn),(⟨j.Af.Ab.Aa,j.Af.Ab.Ak,j.Af.Ab.Aj⟩:qd),j.Af.Ac⟩:qg),(⟨j.Ah.Bb,j.Ah.Ar,j.Ah.Az,j.Ah.Aq,j.Ah.Ba⟩:qt),j.Bi,j.Ay⟩:qaW),r6,r3⟩:Twork)) 0 h rfl (⟨[.pointer p8],[.slice p1 j.Af.Av.As.length k1,.slice p2 j.Af.Ab.Aa.length k2,.slice p3 j.Af.Ab.Ak.length k3,.slice p4 j.Af.Ab.Aj.length k4,.slice p5 j.Af.Ac.length k5,.string j.Ah.Bb,.int .i64 j.Ah.Ar,.int .i64 j.Ah.Az,.int .i64 j.Ah.Aq,.int .i64 j.Ah.Ba,.slice p6 j.Bi.length k6,.slice p7 j.Ay.length k7,.slice p10 r6.Bg.length k9,.slice p11 r6.Ai.length k10,.slice p12 r6.Bc.length k11,.slice p9 r3.length k8],rfl,(hg1.inR h s16),⟨[.slice p1 j.Af.Av.As.length k1,.slice p2 j.Af.Ab.Aa.length k2,.slice p3 j.Af.Ab.Ak.length k3,.slice p4 j.Af.Ab.Aj.length k4,.slice p5 j.Af.Ac.length k5,.string j.Ah.Bb,.int .i64 j.Ah.Ar,.int .i64 j.Ah.Az,.int .i64 j.Ah.Aq,.int .i64 j.Ah.Ba,.slice p6 j.Bi.length k6,.slice p7 j.Ay.length k7],[.slice p10 r6.Bg.length k9,.slice p11 r6.Ai.length k10,.slice p12 r6.Bc.length k11,.slice p9 r3.length k8],rfl,⟨[.slice p1 j.Af.Av.As.length k1,.slice p2 j.Af.Ab.Aa.length k2,.slice p3 j.Af.Ab.Ak.length k3,.slice p4 j.Af.Ab.Aj.length k4,.slice p5 j.Af.Ac.length k5],[.string j.Ah.Bb,.int .i64 j.Ah.Ar,.int .i64 j.Ah.Az,.int .i64 j.Ah.Aq,.int .i64 j.Ah.Ba,.slice p6 j.Bi.length k6,.slice p7 j.Ay.length k7],rfl,⟨[.slice p1 j.Af.Av.As.length k1],[.slice p2 j.Af.Ab.Aa.length k2,.slice p3 j.Af.Ab.Ak.length k3,.slice p4 j.Af.Ab.Aj.length k4,.slice p5 j.Af.Ac.length k5],rfl,⟨_,_,rfl,(hg1.inS h s8)⟩,⟨[.slice p2 j.Af.Ab.Aa.length k2,.slice p3 j.Af.Ab.Ak.length k3,.slice p4 j.Af.Ab.Aj.length k4],[.slice p5 j.Af.Ac.length k5],rfl,⟨[.slice p2 j.Af.Ab.Aa.length k2],[.slice p3 j.Af.Ab.Ak.length k3,.slice p4 j.Af.Ab.Aj.length k4],rfl,⟨_,_,rfl,(hg1.inS h s9)⟩,⟨[.slice p3 j.Af.Ab.Ak.length k3],[.slice p4 j.Af.Ab.Aj.length k4],rfl,⟨_,_,rfl,(hg1.inS h s10)⟩,⟨_,_,rfl,(hg1.inS h s11)⟩⟩⟩,⟨_,_,rfl,(hg1.inS h s12)⟩⟩⟩,⟨[.string j.Ah.Bb,.int .i64 j.Ah.Ar,.int .i64 j.Ah.Az,.int .i64 j.Ah.Aq,.int .i64 j.Ah.Ba],[.slice p6 j.Bi.length k6,.slice p7 j.Ay.length k7],rfl,⟨[.string j.Ah.Bb],[.int .i64 j.Ah.Ar,.int .i64 j.Ah.Az,.int .i64 j.Ah.Aq,.int .i64 j.Ah.Ba],rfl,rfl,⟨[.int .i64 j.Ah.Ar],[.int .i64 j.Ah.Az,.int .i64 j.Ah.Aq,.int .i64 j.Ah.Ba],rfl,rfl,⟨[.int .i64 j.Ah.Az],[.int .i64 j.Ah.Aq,.int .i64 j.Ah.Ba],rfl,rfl,⟨[.int .i64 j.Ah.Aq],[.int .i64 j.Ah.Ba],rfl,rfl,rfl⟩⟩⟩⟩,⟨[.slice p6 j.Bi.length k6],[.slice p7 j.Ay.length k7],rfl,⟨_,_,rfl,(hg1.inS h s13)⟩,⟨_,_,rfl,(hg1.inS h s14)⟩⟩⟩⟩,⟨[.slice p10 r6.Bg.length k9,.slice p11 r6.Ai.length k10,.slice p12 r6.Bc.length k11],[.slice p9 r3.length k8],rfl,(Rg.ownR 2 h rfl),⟨_,_,rfl,(hg1.inS h s17)⟩⟩⟩⟩))),⟨_,rfl,rfl⟩⟩
 exact qdS qa (ρ:=((Option Twork) × Int)) (r:=((some (⟨r2,(⟨(⟨(⟨j.Af.Av.As⟩:qn),(⟨j.Af.Ab.Aa,j.Af.Ab.Ak,j.Af.Ab.Aj⟩:qd),j.Af.Ac⟩:qg),(⟨j.Ah.Bb,j.Ah.Ar,j.Ah.Az,j.Ah.Aq,j.Ah.Ba⟩:qt),j.Bi,j.Ay⟩:qaW),r6,r3⟩:Twork)),0)) [GoT.v (Option Twork) [.pointer (some ⟨bb3,0,none⟩)],GoT.v Int [.int .i64 0]] (h.unbase hg1.below ⟨fun _ h=>h,⟨fun _ h=>h,⟨fun _ h=>h,trivial⟩⟩⟩) ⟨rfl,rfl,trivial⟩ hv9
def qlp (_:Nat) (mode:Int):Option Bool :=
 bif (mode==0) then some true else
 some (mode==1)
theorem qra {mode:Int}  {r:Bool} (hF:qlp n mode=some r):RetV Tryz.prog 108 [.int .i64 mode] w r:=by
 refine zV 9 Tryz.func108 rfl fun h=>X0 9 rfl (qj (t:=5) hF rfl ?_ ?_)<;>intro hF
 ·exact X0 5 rfl (rb h hF rfl)
 exact X0 7 rfl (rb h hF rfl)
def qht (n:Nat) (j:qaW) (mode:Int) (nodes:(List Int)):Option ((Option Twork) × Int) :=
 (qjP n j).bind fun o=>match o with
  | (r2,r3) =>
   bif (r3 != 0) then some (none,r3) else
   (r2).bind fun y1 =>
   (y1.graph).bind fun y2 =>
   (qck n y2.view).bind fun r4 =>
   (qbM n nodes 0 (W64 (r4-1))).bind fun r5 =>
   bif (!r5) then some (none,4) else
   (qlp n mode).bind fun r6 =>
   bif (!r6) then some (none,2) else
   some (r2,0)
theorem qqE {A:Nat→Prop} (hA:∀ b,A b→old w b) {j:qaW} {mode:Int} {nodes:(List Int)} (ha1:GoT.R w A j cs1) (ha2:GoT.R w A nodes cs2) {r:((Option Twork) × Int)} (hF:qht n j mode nodes=some r):RetG Tryz.prog 70 [GoT.v qaW cs1,.int .i64 mode,GoT.v (List Int) cs2] w A r:=by
 obtain ⟨p1,k1,p2,k2,p3,k3,p4,k4,p5,k5,p6,k6,p7,k7,rfl,s1,s2,s3,s4,s5,s6,s7⟩:=qcX ha1
 obtain ⟨p8,k8,rfl,s8⟩:=ha2
 have hg:=Rg.start hA
 refine qek Tryz.func70 rfl (m:=37) rfl rfl (fun h=>?_)
 refine zSR (qv h rfl rfl fun w1 bb1 h=>X1 6 0 h rfl ?_)
 obtain ⟨r1,hr1,hF⟩:=qc hF
 obtain ⟨r2,r3⟩:=r1
 refine qh0 (r2,r3) hg h (cB 105 rfl) (qro (hg.regOld h) (hg.inR h ha1) hr1) rfl rfl rfl rfl fun w2 us1 B1 hg1 hu1 hz1 hv1=>?_
 have hL1:=h.ext hu1.below
 have s9:=Up.S hg h hu1 s8
 have hb1:=h.below.trans (hu1.below.mono h.below.size)
 replace h:=hz1
 obtain ⟨cs3,us2,rfl,hr2,hv2⟩:=qkp hv1
 obtain ⟨p9,rfl,s10⟩:=qaq hr2
 obtain ⟨cs4,rfl,hr3⟩:=qj8 hv2
 obtain rfl:=hr3
 refine X0 14 rfl (qh rfl hF ?_ ?_)<;>intro hF
 ·refine X0 6 rfl ?_
  obtain rfl:=qb hF
  have hv3:GoRs.Rs (ρ:=((Option Twork) × Int)) h.wc (reg A w h.wc) (none,r3) [GoT.v (Option Twork) [.pointer none],GoT.v Int [.int .i64 r3]]:=⟨_,_,rfl,rfl,⟨_,rfl,rfl⟩⟩
  exact qdS qa (ρ:=((Option Twork) × Int)) (r:=(none,r3)) [GoT.v (Option Twork) [.pointer none],GoT.v Int [.int .i64 r3]] (h.unbase hg1.below (show NoD [] from trivial)) ⟨rfl,rfl,trivial⟩ hv3
 refine X0 4 rfl ?_
 obtain ⟨y1,hy1,hF⟩:=qc hF
 obtain ⟨b1,o_1,cs5,rfl,-,hr4,hc2⟩:=PtR.get s10 hy1
 obtain ⟨p10,p11,k9,p12,k10,p13,k11,p14,k12,p15,k13,p16,k14,p17,k15,p18,k16,p19,k17,p20,k18,p21,k19,rfl,s11,s12,s13,s14,s15,s16,s17,s18,s19,s20,s21,s22⟩:=qmw hr4
 refine zp2 rfl (zc 0 (hc2.below h.below) rfl ?_)
 obtain ⟨y2,hy2,hF⟩:=qc hF
 obtain ⟨b2,o_2,cs6,rfl,-,hr5,hc3⟩:=PtR.get s11 hy2
 obtain ⟨p22,p23,k20,rfl,s23,s24⟩:=qdw hr5
 refine zp2 rfl (zc 0 (hc3.below h.below) rfl (zcI h hF (qeH (h.old (GoT.mono s23 hg1.old))) rfl fun r4 w3 h hF=>zp1 rfl (zcB h hF (qcd ⟨_,_,rfl,(h.oldS (s9.mono hg1.old))⟩) rfl fun r5 w4 h hF=>X0 3 rfl (qh rfl hF ?_ ?_))))<;>intro hF
 ·refine X0 5 rfl ?_
  obtain rfl:=qb hF
  have hv4:GoRs.Rs (ρ:=((Option Twork) × Int)) h.wc (reg A w h.wc) (none,4) [GoT.v (Option Twork) [.pointer none],GoT.v Int [.int .i64 4]]:=⟨_,_,rfl,rfl,⟨_,rfl,rfl⟩⟩
  exact qdS qa (ρ:=((Option Twork) × Int)) (r:=(none,4)) [GoT.v (Option Twork) [.pointer none],GoT.v Int [.int .i64 4]] (h.unbase hg1.below (show NoD [] from trivial)) ⟨rfl,rfl,trivial⟩ hv4
 refine X0 3 rfl (zcB h hF qra rfl fun r6 w5 h hF=>X0 3 rfl (qh rfl hF ?_ ?_))<;>intro hF
 ·refine X0 5 rfl ?_
  obtain rfl:=qb hF
  have hv5:GoRs.Rs (ρ:=((Option Twork) × Int)) h.wc (reg A w h.wc) (none,2) [GoT.v (Option Twork) [.pointer none],GoT.v Int [.int .i64 2]]:=⟨_,_,rfl,rfl,⟨_,rfl,rfl⟩⟩
  exact qdS qa (ρ:=((Option Twork) × Int)) (r:=(none,2)) [GoT.v (Option Twork) [.pointer none],GoT.v Int [.int .i64 2]] (h.unbase hg1.below (show NoD [] from trivial)) ⟨rfl,rfl,trivial⟩ hv5
 refine X0 8 rfl ?_
 obtain rfl:=qb hF
 have hv6:GoRs.Rs (ρ:=((Option Twork) × Int)) h.wc (reg A w h.wc) (r2,0) [GoT.v (Option Twork) [.pointer (some ⟨b1,o_1,none⟩)],GoT.v Int [.int .i64 0]]:=⟨_,_,rfl,(hg1.outR h (hg1.inR h s10)),⟨_,rfl,rfl⟩⟩
 exact qdS qa (ρ:=((Option Twork) × Int)) (r:=(r2,0)) [GoT.v (Option Twork) [.pointer (some ⟨b1,o_1,none⟩)],GoT.v Int [.int .i64 0]] (h.unbase hg1.below (show NoD [] from trivial)) ⟨rfl,rfl,trivial⟩ hv6
end Go.Fw


namespace Go.Fw
open Go
set_option maxRecDepth 100000
theorem qtE {n m:Nat} {a b mode:Int}:qfa n a b mode=qcx m a b mode:=by
 unfold qfa qcx
 cases quoS a b with
 | none=>rfl
 | some y1 =>
  cases remS a b with
  | none=>rfl
  | some y2 =>
   simp only [jd]
   generalize decide (y2<0)=p
   generalize decide (y2 > 0)=q
   generalize (mode==0)=m0
   generalize (mode==1)=m1
   cases p<;>cases q<;>cases m0<;>cases m1<;>rfl
theorem qxd {a b:Int} (hb:0<b):-(if a<0 then -a else a)≤a.tdiv b∧a.tdiv b≤(if a<0 then -a else a):=by
 by_cases h:a<0
 ·rw [if_pos h]
  have e:a.tdiv b=-((-a).tdiv b):=by rw [Int.neg_tdiv,Int.neg_neg]
  rw [e,jG (show 0≤-a by omega)]
  have h1:=Int.ediv_nonneg (show 0≤-a by omega) (show 0≤b by omega)
  have h2:=Int.ediv_le_self (a:=-a) b (by omega)
  omega
 ·rw [if_neg h,jG (by omega)]
  have h1:=Int.ediv_nonneg (show 0≤a by omega) (show 0≤b by omega)
  have h2:=Int.ediv_le_self (a:=a) b (by omega)
  omega
theorem qkZ {n:Nat} {a b mode:Int} (hb:0<b) (h0:-9000000000000000000≤a) (h1:a≤9000000000000000000):qcx n a b mode=some (divI a b mode):=by
 have ht:=qxd (a:=a) hb
 have hq:-9000000000000000000≤a.tdiv b∧a.tdiv b≤9000000000000000000:=by
  revert ht
  split<;>intro ht<;>omega
 unfold qcx quoS remS divI
 rw [if_neg (by omega),if_neg (by omega)]
 have hw:IntKind.i64.wrap (a.tdiv b)=a.tdiv b:=qN (by omega) (by omega)
 simp only [hw,jd]
 rw [wO (a.tdiv b-1),wO (a.tdiv b+1)]
 generalize decide (a.tmod b<0)=p
 generalize decide (a.tmod b > 0)=q
 generalize (mode==0)=m0
 generalize (mode==1)=m1
 cases p<;>cases q<;>cases m0<;>cases m1<;>rfl
theorem qtz {a b mode M:Int} (hb:0<b) (h0:0≤a) (h:a≤b*M):0≤divI a b mode∧divI a b mode≤M:=by
 rw [qtw h0 hb]
 have e:=Int.emod_add_mul_ediv a b
 have h1:=Int.emod_nonneg a (show b ≠ 0 by omega)
 have h2:=Int.ediv_nonneg h0 (show 0≤b by omega)
 have h3:a / b≤M:=Int.ediv_le_of_le_mul hb (by rw [Int.mul_comm];exact h)
 split
 ·rename_i hc
  refine ⟨by omega,?_⟩
  have:a / b<M:=by
   refine Int.lt_of_not_ge fun hg=>?_
   have e2:a / b=M:=by omega
   rw [e2] at e
   omega
  omega
 ·exact ⟨h2,h3⟩
structure AxOk (ax:List Int):Prop where
 lo:1≤ax.length
 hi:ax.length≤4
 at_:∀ j,j<ax.length→0≤at0 ax j∧at0 ax j≤100000
 inc:∀ j i,i<j→j<ax.length→at0 ax i<at0 ax j
theorem quw {ax:List Int} (h:axisB ax=true):AxOk ax:=by
 unfold axisB lenB incB at h
 simp only [jf,decide_eq_true_eq] at h
 obtain ⟨⟨h1,h2⟩,h3,h4⟩:=h
 rw [qha (d:=0),qal] at h3
 rw [qal] at h4
 refine ⟨h1,h2,fun j hj=>by have:=h3 j hj;rw [qbh] at this;exact this,fun j=>?_⟩
 induction j with
 | zero=>intro i hi _;omega
 | succ j ih =>
  intro i hi hj
  have hs:=h4 (j+1) hj
  unfold stepB at hs
  simp only [Bool.or_eq_true,decide_eq_true_eq,Nat.add_sub_cancel] at hs
  have hs':at0 ax j<at0 ax (j+1):=by
   rcases hs with hs|hs
   ·omega
   ·exact hs
  by_cases hij:i=j
  ·rw [hij];exact hs'
  ·have:=ih i (by omega) (by omega);omega
theorem least {P:Nat→Prop}:∀ m,P m→∃ p,p≤m∧P p∧∀ k,k<p→¬ P k:=by
 intro m
 induction m using Nat.strongRecOn with
 | ind m ih =>
  intro hm
  by_cases h:∃ k,k<m∧P k
  ·obtain ⟨k,hk,hp⟩:=h
   obtain ⟨p,h1,h2,h3⟩:=ih k hk hp
   exact ⟨p,by omega,h2,h3⟩
  ·exact ⟨m,je _,hm,fun k hk hp=>h ⟨k,hk,hp⟩⟩
structure Wt (ax:List Int) (i:Nat) (a b:Int):Prop where
 il:i<ax.length
 a0:0<a
 a1:a≤100000
 b0:0≤b
 b1:b≤100000
 nx:0<b→i+1<ax.length
 one:b=0→a=1
def wtL (i:Nat) (a b:Int):List Tweight:=if b=0 then [⟨(i:Int),1⟩] else [⟨(i:Int),a⟩,⟨((i+1:Nat):Int),b⟩]
def clampV (ax:List Int) (x:Int):Int:=if at0 ax (ax.length-1)<(if at0 ax 0 > x then at0 ax 0 else x) then at0 ax (ax.length-1) else (if at0 ax 0 > x then at0 ax 0 else x)
theorem qyn {m:Nat} (h:m≤8):shrS .u64 (IntKind.wrap .u64 (W64 (m:Int))) 1=some ((m / 2:Nat):Int):=by
 rcases (by omega:m=0∨m=1∨m=2∨m=3∨m=4∨m=5∨m=6∨m=7∨m=8) with e|e|e|e|e|e|e|e|e<;>rw [e]<;>rfl
theorem qwn {ax:List Int} (h:AxOk ax) {c:Int} {p:Nat} (hp:p<ax.length) (h1:c≤at0 ax p) (h2:∀ k,k<p→at0 ax k<c) :
  Ev (fun n=>qda n ax c) ((p:Int),(at0 ax p==c)):=by
 have hhi:=h.hi
 have main:∀ d i j,j-i≤d→i≤p→p≤j→j≤ax.length→Ev (fun n=>qas ax c n (i:Int) (j:Int)) ((p:Int),(p:Int)):=by
  intro d
  induction d with
  | zero =>
   intro i j hd hi hj hl
   refine Ev.succ ?_
   simp only [qas,ql (show j≤i by omega),cond_false]
   rw [show i=p by omega,show j=p by omega]
   exact .done
  | succ d ih =>
   intro i j hd hi hj hl
   refine Ev.succ ?_
   by_cases hij:i<j
   ·have hm:(i+j) / 2<ax.length:=by omega
    simp only [qas,qk hij,cond_true,←Int.natCast_add,qyn (show i+j≤8 by omega),jd,qN (x:=(((i+j) / 2:Nat):Int)) (by omega) (by omega),qah hm,qk2,qhY,bne_self_eq_false,cond_false,qde (show (i+j) / 2<9223372036854775807 by omega)]
    by_cases hc:at0 ax ((i+j) / 2)<c
    ·refine Ev.tt (by simpa using hc) (ih _ _ (by omega) ?_ hj hl)
     refine Nat.lt_of_not_le fun hg=>?_
     by_cases he:p=(i+j) / 2
     ·rw [←he] at hc;omega
     ·have:=h.inc ((i+j) / 2) p (by omega) hm;omega
    ·refine Ev.ff (by simpa using hc) (ih _ _ (by omega) hi ?_ (by omega))
     refine Nat.le_of_not_lt fun hg=>hc (h2 _ hg)
   ·simp only [qas,ql (show j≤i by omega),cond_false]
    rw [show i=p by omega,show j=p by omega]
    exact .done
 unfold qda
 refine Ev.bind (main ax.length 0 ax.length (by omega) (by omega) (by omega) (je _)) ?_
 simp only [qk hp,cond_true,qah hp,jd,qf5,bne_self_eq_false,cond_false]
 cases at0 ax p==c<;>exact .done
theorem qrN {ax:List Int} (h:AxOk ax) (x:Int):∃ i a b,Wt ax i a b∧Ev (fun n=>qe4 n ax x) ((i:Int),a,b)∧Ev (fun n=>qhg n ax x) (wtL i a b,a+b):=by
 have hlo:=h.lo
 have hhi:=h.hi
 have hle:at0 ax 0≤at0 ax (ax.length-1):=by
  by_cases h1:ax.length-1=0
  ·rw [h1];exact jW _
  ·have:=h.inc (ax.length-1) 0 (by omega) (by omega);omega
 obtain ⟨c,hc⟩:∃ c,c=clampV ax x:=⟨_,rfl⟩
 have hcl:at0 ax 0≤c∧c≤at0 ax (ax.length-1):=by
  rw [hc]
  unfold clampV
  split<;>split at *<;>omega
 obtain ⟨p,hp1,hp2,hp3⟩:=least (P:=fun k=>c≤at0 ax k) (ax.length-1) hcl.2
 have hp:p<ax.length:=by omega
 have hp4:∀ k,k<p→at0 ax k<c:=fun k hk=>by have:=hp3 k hk;omega
 have hs:=qwn h hp hp2 hp4
 have hcv:(if at0 ax (ax.length-1)<(if at0 ax 0 > x then at0 ax 0 else x) then at0 ax (ax.length-1) else (if at0 ax 0 > x then at0 ax 0 else x))=c:=hc.symm
 have hlast:W64 ((ax.length:Int)-1)=((ax.length-1:Nat):Int):=by rw [qfi (by omega)];omega
 have ib:=h.at_ p hp
 have spec:∀ (R:Int × Int × Int),Ev (fun n=>qbw ax x (at0 ax 0) (at0 ax (ax.length-1)) n (p:Int)) (.ret R)→Ev (fun n=>qe4 n ax x) R:=by
  intro R hR
  have main:∀ d j,j=p+d→j<ax.length→Ev (fun n=>qbw ax x (at0 ax 0) (at0 ax (ax.length-1)) n (j:Int)) (.ret R):=by
   intro d
   induction d with
   | zero=>intro j hj _;rw [show j=p by omega];exact hR
   | succ d ih =>
    intro j hj hl
    have hgt:=h.inc j p (by omega) hl
    refine Ev.succ ?_
    simp only [qbw,show decide ((j:Int) ≥ 0)=true from decide_eq_true (by omega),cond_true,qah hl,jd,hcv]
    refine Ev.ff (beq_eq_false_iff_ne.2 (by omega)) (Ev.ff (decide_eq_false (by omega)) ?_)
    rw [show (j:Int)-1=((j-1:Nat):Int) by omega,qN (by omega) (by omega)]
    exact ih (j-1) (by omega) (by omega)
  unfold qe4
  rw [show (0:Int)=((0:Nat):Int) from rfl,qah (show 0<ax.length by omega),hlast,qah (show ax.length-1<ax.length by omega)]
  simp only [jd]
  exact Ev.bind (main (ax.length-1-p) (ax.length-1) (by omega) (by omega)) .done
 by_cases he:at0 ax p=c
 ·refine ⟨p,1,0,⟨hp,by omega,by omega,by omega,by omega,fun h=>absurd h (by omega),fun _=>rfl⟩,spec _ (Ev.succ ?_),?_⟩
  ·simp only [qbw,show decide ((p:Int) ≥ 0)=true from decide_eq_true (by omega),cond_true,qah hp,jd,hcv]
   exact Ev.tt (beq_iff_eq.2 he.symm) .done
  ·unfold qhg
   rw [show (0:Int)=((0:Nat):Int) from rfl,qah (show 0<ax.length by omega),hlast,qah (show ax.length-1<ax.length by omega)]
   simp only [jd,hcv]
   exact Ev.bind hs (Ev.tt (beq_iff_eq.2 he) (Ev.now rfl))
 ·have hp0:0<p:=by
   refine Nat.pos_of_ne_zero fun e=>he ?_
   rw [e] at hp2 ⊢;omega
  have hlt:=hp4 (p-1) (by omega)
  have ib2:=h.at_ (p-1) (by omega)
  have ew:((p:Int)-1)=((p-1:Nat):Int):=by omega
  refine ⟨p-1,at0 ax p-c,c-at0 ax (p-1),⟨by omega,by omega,by omega,by omega,by omega,fun _=>by omega,fun h=>absurd h (by omega)⟩,spec _ (Ev.succ ?_),?_⟩
  ·simp only [qbw,show decide ((p:Int) ≥ 0)=true from decide_eq_true (by omega),cond_true,qah hp,jd,hcv]
   refine Ev.ff (beq_eq_false_iff_ne.2 (by omega)) (Ev.ff (decide_eq_false (by omega)) ?_)
   rw [ew,qN (x:=((p-1:Nat):Int)) (by omega) (by omega)]
   refine Ev.succ ?_
   simp only [qbw,show decide (((p-1:Nat):Int) ≥ 0)=true from decide_eq_true (by omega),cond_true,qah (show p-1<ax.length by omega),jd,hcv]
   refine Ev.ff (beq_eq_false_iff_ne.2 (by omega)) (Ev.tt (decide_eq_true (by omega)) ?_)
   rw [qde (show p-1<9223372036854775807 by omega),show p-1+1=p by omega,qah hp]
   simp only [jd]
   rw [wO (at0 ax p-c),wO (c-at0 ax (p-1))]
   exact .done
  ·unfold qhg
   rw [show (0:Int)=((0:Nat):Int) from rfl,qah (show 0<ax.length by omega),hlast,qah (show ax.length-1<ax.length by omega)]
   simp only [jd,hcv]
   refine Ev.bind hs (Ev.ff (beq_eq_false_iff_ne.2 he) ?_)
   rw [qah hp,ew,qN (x:=((p-1:Nat):Int)) (by omega) (by omega),qah (show p-1<ax.length by omega)]
   simp only [jd]
   rw [wO (at0 ax p-c),wO (c-at0 ax (p-1)),wO (at0 ax p-at0 ax (p-1))]
   refine Ev.now ?_
   unfold wtL
   rw [if_neg (by omega),show p-1+1=p by omega]
   congr 2
   omega
end Go.Fw


namespace Go.Fw
open Go
set_option maxRecDepth 100000
structure TbOk (t:qr):Prop where
 s:AxOk t.Bm
 l:AxOk t.Bj
 n:t.Bh.length=t.Bm.length*t.Bj.length
 v:∀ k,-1000000≤at0 t.Bh k∧at0 t.Bh k≤1000000
theorem qvS {xs:List Int} {k:Nat} (h:¬ k<xs.length):at0 xs k=0:=by simp [at0,jw,List.getElem?_eq_none (show xs.length≤k by omega)]
theorem qwL {t:qr} (h:tableB t=true):TbOk t:=by
 unfold tableB at h
 simp only [jf,decide_eq_true_eq] at h
 obtain ⟨h1,h2,h3,h4⟩:=h
 rw [qha (d:=0),qal] at h4
 refine ⟨quw h1,quw h2,h3,fun k=>?_⟩
 by_cases hk:k<t.Bh.length
 ·have:=h4 k hk
  rw [qbh] at this
  exact this
 ·rw [qvS hk];omega
def tv (t:qr) (i j:Nat):Int:=at0 t.Bh (i*t.Bj.length+j)
theorem mulA {x y Y:Int} (h0:0≤x) (g0:-Y≤y) (g1:y≤Y):-(x*Y)≤x*y∧x*y≤x*Y:=by
 have h1:=Int.mul_le_mul_of_nonneg_left g1 h0
 have h2:=Int.mul_le_mul_of_nonneg_left g0 h0
 rw [Int.mul_neg] at h2
 exact ⟨h2,h1⟩
theorem mulT {w q v:Int} (w0:0≤w) (w1:w≤100000) (q0:0≤q) (q1:q≤100000) (v0:-1000000≤v) (v1:v≤1000000):(0≤w*q∧w*q≤10000000000)∧(-10000000000000000≤w*q*v∧w*q*v≤10000000000000000):=by
 have h1:=jS w0 q0
 have h2:w*q≤100000*100000:=jV w1 q1 q0 (by omega)
 have h3:=mulA (x:=w*q) (y:=v) (Y:=1000000) h1 (by omega) (by omega)
 refine ⟨⟨h1,by omega⟩,?_,?_⟩<;>omega
theorem qzo {t:qr} {i j:Nat} (h:TbOk t) (hi:i<t.Bm.length) (hj:j<t.Bj.length):i*t.Bj.length+j<t.Bh.length∧t.Bh.length≤16:=by
 have h1:=h.s.hi
 have h2:=h.l.hi
 have h3:(i+1)*t.Bj.length≤t.Bm.length*t.Bj.length:=jr _ hi
 have h4:t.Bm.length*t.Bj.length≤4*4:=Nat.mul_le_mul h1 h2
 rw [h.n]
 rw [Nat.add_mul] at h3
 omega
theorem sTerm {t:qr} (h:TbOk t) {i j c k:Nat} {a1 b1 a2 b2 w q s:Int} (hc:c<2) (hk:k<2) (hw:w=if c=1 then b1 else a1) (hq:q=if k=0 then a2 else b2)
  (w0:0≤w) (w1:w≤100000) (q0:0≤q) (q1:q≤100000) (hi:0<w→i+c<t.Bm.length) (hj:0<q→j+k<t.Bj.length) (s0:-1000000000000000000≤s) (s1:s≤1000000000000000000) (n:Nat) :
  qcj t (i:Int) a1 b1 (j:Int) a2 b2 (c:Int) (n+1) s (k:Int)=qcj t (i:Int) a1 b1 (j:Int) a2 b2 (c:Int) n (s+w*q*tv t (i+c) (j+k)) ((k+1:Nat):Int):=by
 have hv:=h.v ((i+c)*t.Bj.length+(j+k))
 obtain ⟨⟨m0,m1⟩,m2,m3⟩:=mulT w0 w1 q0 q1 hv.1 hv.2
 have e5:(bif ((c:Int)==1) then some b1 else some a1)=some w:=by
  rw [hw]
  by_cases h1:c=1
  ·rw [if_pos h1,h1];rfl
  ·rw [if_neg h1,show ((c:Int)==1)=false from beq_eq_false_iff_ne.2 (by omega)];rfl
 have e6:(bif ((k:Int)==0) then some (W64 (w*a2)) else some (W64 (w*b2)))=some (w*q):=by
  have hx:W64 (w*q)=w*q:=qN (by omega) (by omega)
  by_cases h1:k=0
  ·rw [if_pos h1] at hq
   rw [h1,←hq,hx];rfl
  ·rw [if_neg h1] at hq
   rw [show ((k:Int)==0)=false from beq_eq_false_iff_ne.2 (by omega),←hq,hx];rfl
 rw [qcj]
 simp only [show decide ((k:Int)<2)=true from decide_eq_true (by omega),cond_true,e5,e6,jd,wS k]
 by_cases hp:w*q > 0
 ·have hwp:0<w:=by
   by_cases e:w=0
   ·rw [e,Int.zero_mul] at hp;omega
   ·omega
  have hqp:0<q:=by
   by_cases e:q=0
   ·rw [e,Int.mul_zero] at hp;omega
   ·omega
  obtain ⟨x1,x2⟩:=qzo h (hi hwp) (hj hqp)
  have hl:=h.l.hi
  have hs:=h.s.hi
  have hi':=hi hwp
  have hm:((i+c:Nat):Int)*(t.Bj.length:Int)=(((i+c)*t.Bj.length:Nat):Int):=(Int.natCast_mul _ _).symm
  have ei:W64 (W64 (W64 (W64 ((i:Int)+(c:Int))*(t.Bj.length:Int))+(j:Int))+(k:Int))=(((i+c)*t.Bj.length+(j+k):Nat):Int):=by
   rw [wO ((i:Int)+(c:Int)),←Int.natCast_add,hm,qN (x:=(((i+c)*t.Bj.length:Nat):Int)) (by omega) (by omega),←Int.natCast_add,qN (x:=(((i+c)*t.Bj.length+j:Nat):Int)) (by omega) (by omega),←Int.natCast_add,qN (by omega) (by omega),Nat.add_assoc]
  rw [show decide (w*q > 0)=true from decide_eq_true hp,ei,qah x1]
  simp only [cond_true,jd]
  have e7:W64 (s+W64 (w*q*at0 t.Bh ((i+c)*t.Bj.length+(j+k))))=s+w*q*tv t (i+c) (j+k):=by
   unfold tv
   rw [qN (x:=w*q*at0 t.Bh ((i+c)*t.Bj.length+(j+k))) (by omega) (by omega),qN (by omega) (by omega)]
  rw [e7]
 ·have h0:w*q=0:=by omega
  rw [show decide (w*q > 0)=false from decide_eq_false hp,h0,Int.zero_mul,Int.add_zero]
  rfl
def rowS (t:qr) (j:Nat) (a2 b2:Int) (i:Nat):Int:=a2*tv t i j+b2*tv t i (j+1)
theorem qmD {t:qr} (h:TbOk t) {i j:Nat}:-1000000≤tv t i j∧tv t i j≤1000000:=h.v _
theorem qte {t:qr} (h:TbOk t) {i j:Nat} {a2 b2:Int} (a0:0≤a2) (b0:0≤b2):-((a2+b2)*1000000)≤rowS t j a2 b2 i∧rowS t j a2 b2 i≤(a2+b2)*1000000:=by
 have h1:=mulA (x:=a2) (y:=tv t i j) (Y:=1000000) a0 (qmD h).1 (qmD h).2
 have h2:=mulA (x:=b2) (y:=tv t i (j+1)) (Y:=1000000) b0 (qmD h).1 (qmD h).2
 unfold rowS
 omega
theorem sRow {t:qr} (h:TbOk t) {i j c:Nat} {a1 b1 a2 b2 w s:Int} (hc:c<2) (hw:w=if c=1 then b1 else a1) (w0:0≤w) (w1:w≤100000) (hi:0<w→i+c<t.Bm.length) (hW:Wt t.Bj j a2 b2)
  (s0:-100000000000000000≤s) (s1:s≤100000000000000000):Ev (fun n=>qcj t (i:Int) a1 b1 (j:Int) a2 b2 (c:Int) n s 0) (s+w*rowS t j a2 b2 (i+c),2):=by
 have ha:=hW.a0
 have hb:=hW.b0
 have t1:=(mulT w0 w1 (show 0≤a2 by omega) hW.a1 (qmD h (i:=i+c) (j:=j)).1 (qmD h).2).2
 refine Ev.step (fun n=>sTerm h hc (k:=0) (w:=w) (q:=a2) (by omega) hw rfl w0 w1 (by omega) hW.a1 hi (fun _=>hW.il) (by omega) (by omega) n) ?_
 refine Ev.step (fun n=>sTerm h hc (k:=1) (w:=w) (q:=b2) (by omega) hw rfl w0 w1 hb hW.b1 hi hW.nx (by show _≤s+w*a2*tv t (i+c) (j+0);rw [Ja];omega) (by show s+w*a2*tv t (i+c) (j+0)≤_;rw [Ja];omega) n) ?_
 refine Ev.succ ?_
 simp only [qcj,show decide (((1+1:Nat):Int)<2)=false from rfl,cond_false]
 refine Ev.now ?_
 unfold rowS
 rw [Int.mul_add,←jT,←jT,Int.add_assoc,Ja]
 rfl
theorem iTerm {t:qr} (h:TbOk t) {r5:List Tweight} {i j k:Nat} {w q s:Int} (hk:k<r5.length) (hr:r5.length≤2) (hx:idx r5 (k:Int)=some ⟨(j:Int),q⟩) (w0:0≤w) (w1:w≤100000) (q0:0≤q) (q1:q≤100000)
  (hi:i<t.Bm.length) (hj:j<t.Bj.length) (s0:-1000000000000000000≤s) (s1:s≤1000000000000000000) (n:Nat) :
  qba t r5 ⟨(i:Int),w⟩ (n+1) s (k:Int)=qba t r5 ⟨(i:Int),w⟩ n (s+w*q*tv t i j) ((k+1:Nat):Int):=by
 have hv:=qmD h (i:=i) (j:=j)
 obtain ⟨_,m2,m3⟩:=mulT w0 w1 q0 q1 hv.1 hv.2
 have m4:=mulA (x:=w) (y:=tv t i j) (Y:=1000000) w0 hv.1 hv.2
 obtain ⟨x1,x2⟩:=qzo h hi hj
 have hl:=h.l.hi
 have hs:=h.s.hi
 have hm:(i:Int)*(t.Bj.length:Int)=((i*t.Bj.length:Nat):Int):=(Int.natCast_mul _ _).symm
 rw [qba]
 simp only [qk hk,cond_true,hx,jd,wS k,hm]
 rw [qN (x:=((i*t.Bj.length:Nat):Int)) (by omega) (by omega),←Int.natCast_add,qN (x:=((i*t.Bj.length+j:Nat):Int)) (by omega) (by omega),qah x1]
 simp only [jd]
 have e7:W64 (s+W64 (W64 (at0 t.Bh (i*t.Bj.length+j)*w)*q))=s+w*q*tv t i j:=by
  have e8:at0 t.Bh (i*t.Bj.length+j)*w=w*tv t i j:=Int.mul_comm _ _
  have e9:w*tv t i j*q=w*q*tv t i j:=by rw [jT,Int.mul_comm (tv t i j) q,←jT]
  rw [e8,wO (w*tv t i j),e9,wO (w*q*tv t i j),qN (by omega) (by omega)]
 rw [e7]
theorem iRow {t:qr} (h:TbOk t) {i j:Nat} {a2 b2 w s:Int} (w0:0≤w) (w1:w≤100000) (hi:i<t.Bm.length) (hW:Wt t.Bj j a2 b2)
  (s0:-100000000000000000≤s) (s1:s≤100000000000000000):Ev (fun n=>qba t (wtL j a2 b2) ⟨(i:Int),w⟩ n s 0) (s+w*rowS t j a2 b2 i,((wtL j a2 b2).length:Int)):=by
 have ha:=hW.a0
 have hb:=hW.b0
 have t1:=(mulT w0 w1 (show 0≤a2 by omega) hW.a1 (qmD h (i:=i) (j:=j)).1 (qmD h).2).2
 by_cases h0:b2=0
 ·have h1:=hW.one h0
  subst h0 h1
  have hl:wtL j 1 0=[⟨(j:Int),1⟩]:=if_pos rfl
  rw [hl]
  refine Ev.step (fun n=>iTerm h (k:=0) (q:=1) (by simp) (by simp) rfl w0 w1 (by omega) (by omega) hi hW.il (by omega) (by omega) n) (Ev.succ ?_)
  simp only [qba]
  refine Ev.ff rfl (Ev.now ?_)
  unfold rowS
  rw [Int.mul_one,Int.one_mul,Int.zero_mul,Int.add_zero]
  rfl
 ·have hl:wtL j a2 b2=[⟨(j:Int),a2⟩,⟨((j+1:Nat):Int),b2⟩]:=if_neg h0
  rw [hl]
  refine Ev.step (fun n=>iTerm h (k:=0) (q:=a2) (by simp) (by simp) rfl w0 w1 (by omega) hW.a1 hi hW.il (by omega) (by omega) n) ?_
  refine Ev.step (fun n=>iTerm h (k:=1) (j:=j+1) (q:=b2) (by simp) (by simp) rfl w0 w1 hb hW.b1 hi (hW.nx (by omega)) (by omega) (by omega) n) (Ev.succ ?_)
  simp only [qba]
  refine Ev.ff rfl (Ev.now ?_)
  unfold rowS
  rw [Int.mul_add,←jT,←jT,Int.add_assoc]
  rfl
def sumS (t:qr) (i j:Nat) (a1 b1 a2 b2:Int):Int:=a1*rowS t j a2 b2 i+b1*rowS t j a2 b2 (i+1)
theorem rowT {t:qr} (h:TbOk t) {i j:Nat} {w a2 b2:Int} (w0:0≤w) (w1:w≤100000) (hW:Wt t.Bj j a2 b2):-20000000000000000≤w*rowS t j a2 b2 i∧w*rowS t j a2 b2 i≤20000000000000000:=by
 have ha:=hW.a0
 have hb:=hW.b0
 have ha1:=hW.a1
 have hb1:=hW.b1
 have h1:=qte h (i:=i) (j:=j) (a2:=a2) (b2:=b2) (by omega) hb
 have h2:=mulA (x:=w) (y:=rowS t j a2 b2 i) (Y:=200000000000) w0 (by omega) (by omega)
 omega
theorem qyO {t:qr} (h:TbOk t) (sl ld:Int):∃ S D:Int,0<D∧S≤D*1000000∧-(D*1000000)≤S∧-9000000000000000000≤S∧S≤9000000000000000000∧((∀ k,0≤at0 t.Bh k)→0≤S) ∧
  ∀ mode,Ev (fun n=>qhh n t sl ld mode) (divI S D mode)∧Ev (fun n=>qdJ n t sl ld mode) (divI S D mode):=by
 obtain ⟨i,a1,b1,W1,p1,q1⟩:=qrN h.s sl
 obtain ⟨j,a2,b2,W2,p2,q2⟩:=qrN h.l ld
 have ha1:=W1.a0
 have hb1:=W1.b0
 have ha2:=W2.a0
 have hb2:=W2.b0
 have ua1:=W1.a1
 have ub1:=W1.b1
 have ua2:=W2.a1
 have ub2:=W2.b1
 have r1:=rowT h (i:=i) (w:=a1) (by omega) ua1 W2
 have r2:=rowT h (i:=i+1) (w:=b1) hb1 ub1 W2
 have x1:=qte h (i:=i) (j:=j) (a2:=a2) (b2:=b2) (by omega) hb2
 have x2:=qte h (i:=i+1) (j:=j) (a2:=a2) (b2:=b2) (by omega) hb2
 have y1:=mulA (x:=a1) (y:=rowS t j a2 b2 i) (Y:=(a2+b2)*1000000) (by omega) x1.1 x1.2
 have y2:=mulA (x:=b1) (y:=rowS t j a2 b2 (i+1)) (Y:=(a2+b2)*1000000) hb1 x2.1 x2.2
 have eD:a1*((a2+b2)*1000000)+b1*((a2+b2)*1000000)=(a1+b1)*(a2+b2)*1000000:=by rw [←Int.add_mul,jT]
 have D0:0<(a1+b1)*(a2+b2):=Int.mul_pos (by omega) (by omega)
 have D1:(a1+b1)*(a2+b2)≤200000*200000:=jV (by omega) (by omega) (by omega) (by omega)
 refine ⟨sumS t i j a1 b1 a2 b2,(a1+b1)*(a2+b2),D0,by unfold sumS;omega,by unfold sumS;omega,by unfold sumS;omega,by unfold sumS;omega,fun hv=>?_,fun mode=>⟨?_,?_⟩⟩
 ·have hr:∀ i,0≤rowS t j a2 b2 i:=fun i=>Int.add_nonneg (jS (by omega) (hv _)) (jS hb2 (hv _))
  exact Int.add_nonneg (jS (by omega) (hr _)) (jS hb1 (hr _))
 ·have hL:Ev (fun n=>qdT t (i:Int) a1 b1 (j:Int) a2 b2 n 0 0) (sumS t i j a1 b1 a2 b2,2):=by
   refine Ev.succ ?_
   simp only [qdT]
   refine Ev.tt rfl (Ev.bind (sRow h (c:=0) (w:=a1) (by omega) rfl (by omega) ua1 (fun _=>W1.il) W2 (by omega) (by omega)) ?_)
   refine Ev.succ ?_
   simp only [qdT]
   refine Ev.tt rfl (Ev.bind (sRow h (c:=1) (w:=b1) (by omega) rfl hb1 ub1 W1.nx W2 (by rw [Ja];omega) (by rw [Ja];omega)) ?_)
   refine Ev.succ ?_
   simp only [qdT]
   refine Ev.ff rfl (Ev.now ?_)
   unfold sumS
   rw [Int.zero_add,Ja]
   rfl
  unfold qhh
  refine Ev.bind p1 (Ev.bind p2 (Ev.bind hL ?_))
  show Ev (fun n=>(qcx n (sumS t i j a1 b1 a2 b2) (W64 (W64 (a1+b1)*W64 (a2+b2))) mode).bind fun r9=>some r9) _
  rw [wO (a1+b1),wO (a2+b2),wO ((a1+b1)*(a2+b2))]
  exact Ev.bind ⟨0,fun n _=>qkZ D0 (by unfold sumS;omega) (by unfold sumS;omega)⟩ .done
 ·have hL:Ev (fun n=>qa7 t (wtL i a1 b1) (wtL j a2 b2) n 0 0) (sumS t i j a1 b1 a2 b2,((wtL i a1 b1).length:Int)):=by
   by_cases h0:b1=0
   ·have h1:=W1.one h0
    subst h0 h1
    have hl:wtL i 1 0=[⟨(i:Int),1⟩]:=if_pos rfl
    rw [hl]
    refine Ev.succ ?_
    simp only [qa7]
    refine Ev.tt rfl (Ev.bind (Ev.now rfl) (Ev.bind (iRow h (i:=i) (w:=1) (by omega) (by omega) W1.il W2 (by omega) (by omega)) (Ev.succ ?_)))
    simp only [qa7]
    refine Ev.ff rfl (Ev.now ?_)
    unfold sumS
    rw [Int.zero_add,Int.zero_mul,Int.add_zero]
    rfl
   ·have hl:wtL i a1 b1=[⟨(i:Int),a1⟩,⟨((i+1:Nat):Int),b1⟩]:=if_neg h0
    rw [hl]
    refine Ev.succ ?_
    simp only [qa7]
    refine Ev.tt rfl (Ev.bind (Ev.now rfl) (Ev.bind (iRow h (i:=i) (w:=a1) (by omega) ua1 W1.il W2 (by omega) (by omega)) (Ev.succ ?_)))
    simp only [qa7]
    refine Ev.tt rfl (Ev.bind (Ev.now rfl) (Ev.bind (iRow h (i:=i+1) (w:=b1) hb1 ub1 (W1.nx (by omega)) W2 (by omega) (by omega)) (Ev.succ ?_)))
    simp only [qa7]
    refine Ev.ff rfl (Ev.now ?_)
    unfold sumS
    rw [Int.zero_add]
    rfl
  unfold qdJ
  refine Ev.bind q1 (Ev.bind q2 (Ev.bind hL ?_))
  show Ev (fun n=>(qfa n (sumS t i j a1 b1 a2 b2) (W64 ((a1+b1)*(a2+b2))) mode).bind fun r9=>some r9) _
  rw [wO ((a1+b1)*(a2+b2))]
  exact Ev.bind ⟨0,fun n _=>(qtE (m:=0)).trans (qkZ D0 (by unfold sumS;omega) (by unfold sumS;omega))⟩ .done
end Go.Fw


namespace Go.Fw
open Go
set_option maxRecDepth 100000
theorem qwm {b:qg} (h:blockB b=true) {j:Nat} (hj:j<(places b.Ab).length) {n:Nat}:qlv n b.Av b.Ab (toSp (gt (places b.Ab) j))=some (capJ b j):=by
 have hd:=qat h
 unfold capJ pinCap
 rcases qlE hj with ⟨i,k,hi,hk,_,e⟩|⟨i,hi,_,e⟩
 ·rw [e]
  obtain ⟨⟨c0,c1⟩,hn,_⟩:=qhk hd hi
  unfold place1 cellAt toSp
  simp only [qlv,show decide ((i:Int)<0)=false by simp,cond_false,qB hi,jd,qdY c0 c1,jn,qB (show k<(gt b.Av.As (gt b.Ab.Aa i).Bt.toNat).Bd.length by omega)]
 ·rw [e];rfl
theorem qqg {b:qg} (h:blockB b=true) {i:Nat} (hi:i<b.Ac.length):Ev (fun n=>qhS n b (i:Int)) (loadsL b i):=by
 have hw:=qbu h hi
 have hs:=qY (qat h)
 have hlo:=hw.lo
 have hhi:=hw.hi
 have hcap:=hw.cap
 have hsm:=qhv h (i:=i)
 have e1:Ev (fun n=>qdj b (gt b.Ac i) ((places b.Ab).map toSp) (skL b i) n (gt b.Ac i).Bs 0) (ldA b (gt b.Ac i) (skL b i) (skL b i).length,((skL b i).length:Int)):=by
  refine loopF (Lf:=qdj b (gt b.Ac i) ((places b.Ab).map toSp) (skL b i)) (S:=ldA b (gt b.Ac i) (skL b i)) (len:=(skL b i).length) (fun n=>?_) (fun j hj X hX=>?_)
  ·simp only [qdj,ql (je _),cond_false]
  ·obtain ⟨y,hy,ey,_⟩:=qpw hj
   have hjs:j<(gt b.Ac i).Bl.length:=by rw [hw.snk];exact hj
   have hsn:=hw.sin j hjs
   have hln:=qo6 (b:=b) (w:=gt b.Ac i) (sk:=skL b i) (j:=j)
   have hp:idx ((places b.Ab).map toSp) (y:Int)=some (toSp (gt (places b.Ab) y)):=by
    refine qan ?_
    rw [List.getElem?_map,ji hy,qfx hy];rfl
   have hc:=fun n=>qwm h hy (n:=n)
   simp only [qdj,qk hj,cond_true,qah hj,ey,jd,qah hjs,qdY hsn.1 (show at0 (gt b.Ac i).Bl j<((ldA b (gt b.Ac i) (skL b i) j).length:Int) by omega),hp,hc,wS j]
   have:ldA b (gt b.Ac i) (skL b i) (j+1)=setS (ldA b (gt b.Ac i) (skL b i) j) (at0 (gt b.Ac i).Bl j) (W64 (gt (ldA b (gt b.Ac i) (skL b i) j) (at0 (gt b.Ac i).Bl j).toNat+capJ b y)):=by
    show addSink _ _ _ _ _=_
    unfold addSink
    rw [ey,jn]
   rw [this] at hX
   exact hX
 have e2:∀ j t,t.length=(gt b.Ac i).Am.length→j<(gt b.Ac i).Am.length→Ev (fun n=>qdi (gt b.Ac i) n t (j:Int)) (ldB (gt b.Ac i) j t,0):=by
  intro j
  induction j with
  | zero =>
   intro t _ _
   refine Ev.succ ?_
   show Ev (fun n=>qdi (gt b.Ac i) (n+1) t 0) _
   unfold qdi
   exact Ev.ff rfl .done
  | succ j ih =>
   intro t ht hj
   have hp:=hw.par (j+1) (by omega) hj
   refine Ev.succ ?_
   simp only [qdi,show decide (((j+1:Nat):Int) > 0)=true from decide_eq_true (by omega),cond_true,qah hj,jd,qdY hp.1 (show at0 (gt b.Ac i).Am (j+1)<(t.length:Int) by omega),qB (show j+1<t.length by omega),show ((j+1:Nat):Int)-1=(j:Int) by omega,qN (show -9223372036854775808≤(j:Int) by omega) (by omega)]
   exact ih _ (by rw [qe7];exact ht) (by omega)
 unfold qhS qmF
 rw [qB hi]
 simp only [jd,qdb (show ([]:List Int).length+(gt b.Ac i).Bs.length≤2147483648 by simp;omega),List.nil_append]
 refine Ev.bind (qie hs) (Ev.bind (qnG hs) (Ev.bind e1 ?_))
 rw [qfi (show (gt b.Ac i).Bs.length≤9223372036854775807 by omega),show ((gt b.Ac i).Bs.length:Int)-1=(((gt b.Ac i).Am.length-1:Nat):Int) by omega]
 exact Ev.bind (e2 _ _ (by rw [qo6];exact hcap) (by omega)) .done
theorem qoK {b:qg} (h:blockB b=true) {i:Nat} (hi:i<b.Ac.length):Ev (fun n=>qgY n b (i:Int)) (delaysL b i):=by
 have hw:=qbu h hi
 have hlo:=hw.lo
 have hhi:=hw.hi
 have hres:=hw.res
 have l1:=qml h hi
 have main:∀ d k,k+1+d=(gt b.Ac i).Am.length→Ev (fun n=>qdK (gt b.Ac i) (loadsL b i) n (dlL (gt b.Ac i) (loadsL b i) k) ((k+1:Nat):Int)) (delaysL b i,((loadsL b i).length:Int)):=by
  intro d
  induction d with
  | zero =>
   intro k hk
   refine Ev.succ ?_
   simp only [qdK,ql (show (loadsL b i).length≤k+1 by omega),cond_false]
   refine Ev.now ?_
   rw [l1,←hk]
   unfold delaysL
   rw [←hk]
   rfl
  | succ d ih =>
   intro k hk
   have hp:=hw.par (k+1) (by omega) (by omega)
   have hlen:=qph (w:=gt b.Ac i) (ld:=loadsL b i) (k:=k)
   refine Ev.succ ?_
   simp only [qdK,qk (show k+1<(loadsL b i).length by omega),cond_true,qah (show k+1<(gt b.Ac i).Am.length by omega),jd,qdY hp.1 (show at0 (gt b.Ac i).Am (k+1)<((dlL (gt b.Ac i) (loadsL b i) k).length:Int) by omega),
    qah (show k+1<(gt b.Ac i).Bw.length by omega),qB (show k+1<(loadsL b i).length by omega),qde (show k+1<9223372036854775807 by omega)]
   rw [qdb (by rw [hlen,js];omega)]
   exact ih (k+1) (by omega)
 unfold qgY
 rw [qB hi]
 simp only [jd]
 refine Ev.bind (qqg h hi) ?_
 exact Ev.bind (main ((gt b.Ac i).Am.length-1) 0 (by omega)) .done
theorem qpz {b:qg} (h:blockB b=true) {i:Nat} (hi:i<b.Ac.length) {mode:Int}:Ev (fun n=>qgi n b (i:Int) mode) ((exactL b i).map fun x=>divI x 1000 mode):=by
 have hw:=qbu h hi
 have hsl:(gt b.Ac i).Bl.length≤78:=by rw [hw.snk];exact qhv h
 have hdl:=qny h hi
 have e3:Ev (fun n=>qbG b (i:Int) mode (delaysL b i) n ([]:List Int) 0) ((exactL b i).map (fun x=>divI x 1000 mode),((gt b.Ac i).Bl.length:Int)):=by
  refine loopF (Lf:=qbG b (i:Int) mode (delaysL b i)) (S:=fun j=>(((gt b.Ac i).Bl.take j).map fun s=>gt (delaysL b i) s.toNat).map fun x=>divI x 1000 mode) (len:=(gt b.Ac i).Bl.length) (fun n=>?_) (fun j hj X hX=>?_)
  ·simp only [qbG,qB hi,jd,ql (je _),cond_false,jD];rfl
  ·have hsn:=hw.sin j hj
   have hrg:=qrS h hi hj
   have eg:gt (exactL b i) j=gt (delaysL b i) (at0 (gt b.Ac i).Bl j).toNat:=by
    unfold exactL
    rw [qfx (by rw [jz];exact hj),List.getElem_map,qkL hj]
   rw [eg] at hrg
   have hdv:=fun n=>qkZ (n:=n) (a:=gt (delaysL b i) (at0 (gt b.Ac i).Bl j).toNat) (b:=1000) (mode:=mode) (by omega) (by omega) (by omega)
   simp only [qbG,qB hi,jd,qk hj,cond_true,qah hj,qdY hsn.1 (show at0 (gt b.Ac i).Bl j<((delaysL b i).length:Int) by omega),hdv,wS j]
   rw [qdb (by rw [jz,jz,jI,js];omega)]
   have:(((gt b.Ac i).Bl.take j).map (fun s=>gt (delaysL b i) s.toNat)).map (fun x=>divI x 1000 mode)++[divI (gt (delaysL b i) (at0 (gt b.Ac i).Bl j).toNat) 1000 mode]=(((gt b.Ac i).Bl.take (j+1)).map fun s=>gt (delaysL b i) s.toNat).map fun x=>divI x 1000 mode:=by
    rw [jv hj,jL,jL,qkL hj];rfl
   rw [this]
   exact hX
 unfold qgi
 exact Ev.bind (qoK h hi) (Ev.bind e3 .done)
end Go.Fw


namespace Go.Fw
open Go
set_option maxRecDepth 100000
instance:Inhabited qe:=⟨⟨0,⟨0,0⟩,⟨0,0⟩⟩⟩
instance:Inhabited qf:=⟨⟨0,0⟩⟩
def cornerB (c:qt):Bool:=(inI c.Ar 100 5000&&(inI c.Az 100 5000&&(inI c.Aq 100 5000&&inI c.Ba 100 5000)))&&(nameB c.Bb&&(decide (c.Ar≤c.Az)&&decide (c.Aq≤c.Ba)))
theorem qtk {c:qt} (h:okS c.Bb):Ev (fun n=>qhO n c) (cornerB c):=by
 have hL:Ev (fun n=>qb3 c n 0) (bif inI c.Ar 100 5000&&(inI c.Az 100 5000&&(inI c.Aq 100 5000&&inI c.Ba 100 5000)) then .nxt 4 else .ret false):=by
  refine Ev.succ ?_
  simp only [qb3,qcS,show idx ([c.Ar,c.Az,c.Aq,c.Ba]:List Int) 0=some c.Ar from rfl,jd]
  refine Ev.tt rfl ?_
  cases inI c.Ar 100 5000
  ·exact .done
  refine Ev.ff rfl (Ev.succ ?_)
  simp only [qb3,qcS,show W64 (0+1)=1 from rfl,show idx ([c.Ar,c.Az,c.Aq,c.Ba]:List Int) 1=some c.Az from rfl,jd]
  refine Ev.tt rfl ?_
  cases inI c.Az 100 5000
  ·exact .done
  refine Ev.ff rfl (Ev.succ ?_)
  simp only [qb3,qcS,show W64 (1+1)=2 from rfl,show idx ([c.Ar,c.Az,c.Aq,c.Ba]:List Int) 2=some c.Aq from rfl,jd]
  refine Ev.tt rfl ?_
  cases inI c.Aq 100 5000
  ·exact .done
  refine Ev.ff rfl (Ev.succ ?_)
  simp only [qb3,qcS,show W64 (2+1)=3 from rfl,show idx ([c.Ar,c.Az,c.Aq,c.Ba]:List Int) 3=some c.Ba from rfl,jd]
  refine Ev.tt rfl ?_
  cases inI c.Ba 100 5000
  ·exact .done
  refine Ev.ff rfl (Ev.succ ?_)
  simp only [qb3]
  exact Ev.ff rfl .done
 unfold qhO cornerB
 refine Ev.bind hL ?_
 cases inI c.Ar 100 5000&&(inI c.Az 100 5000&&(inI c.Aq 100 5000&&inI c.Ba 100 5000))
 ·exact .done
 ·refine Ev.bind (qmy h) ?_
  cases nameB c.Bb
  ·exact .done
  ·cases decide (c.Ar≤c.Az)<;>exact .done
theorem qr3 {n:Nat} {a b:Int}:qgo n a b=some (decide (a ≥ 100)&&(decide (a≤b)&&decide (b≤5000))):=by
 unfold qgo
 cases decide (a ≥ 100)
 ·rfl
 ·cases decide (a≤b)<;>rfl
theorem qtU {c:qt} (h:okS c.Bb):Ev (fun n=>qhI n c) (cornerB c):=by
 have e:cornerB c=(nameB c.Bb&&((decide (c.Ar ≥ 100)&&(decide (c.Ar≤c.Az)&&decide (c.Az≤5000)))&&(decide (c.Aq ≥ 100)&&(decide (c.Aq≤c.Ba)&&decide (c.Ba≤5000))))):=by
  unfold cornerB
  rw [jm]
  simp only [jf,qbh,decide_eq_true_eq]
  constructor
  ·rintro ⟨⟨h1,h2,h3,h4⟩,h5,h6,h7⟩
   refine ⟨h5,⟨?_,?_,?_⟩,?_,?_,?_⟩<;>omega
  ·rintro ⟨h5,⟨h1,h2,h3⟩,h4,h6,h7⟩
   refine ⟨⟨⟨?_,?_⟩,⟨?_,?_⟩,⟨?_,?_⟩,?_,?_⟩,h5,?_,?_⟩<;>omega
 rw [e]
 unfold qhI
 simp only [qpG h,qr3,jd]
 cases nameB c.Bb
 ·exact .done
 ·cases decide (c.Ar ≥ 100)&&(decide (c.Ar≤c.Az)&&decide (c.Az≤5000))<;>exact .done
def spanB (s:qf):Bool:=inI s.Ap (-1000000000) 1000000000&&(inI s.Be (-1000000000) 1000000000&&decide (s.Ap≤s.Be))
def slewB (s:qf):Bool:=decide (s.Ap ≥ 0)&&(decide (s.Ap≤s.Be)&&decide (s.Be≤1000000))
theorem qrh {n:Nat} {s:qf}:qip n s=some (spanB s):=by
 unfold qip spanB
 simp only [qcS,jd]
 cases inI s.Ap (-1000000000) 1000000000
 ·rfl
 ·cases inI s.Be (-1000000000) 1000000000<;>rfl
theorem qp1 {n:Nat} {s:qf}:qgT n s=some (spanB s):=by
 unfold qgT qlM spanB
 simp only [qdn,jd]
 cases inI s.Ap (-1000000000) 1000000000
 ·rfl
 ·cases inI s.Be (-1000000000) 1000000000<;>rfl
theorem quP {n:Nat} {s:qf}:qhP n s=some (slewB s):=by
 unfold qhP slewB
 cases decide (s.Ap ≥ 0)
 ·rfl
 ·cases decide (s.Ap≤s.Be)<;>rfl
theorem qup {n:Nat} {s:qf}:qhT n s=some (slewB s):=by
 have e:slewB s=(spanB s&&(inI s.Ap 0 1000000&&inI s.Be 0 1000000)):=by
  unfold slewB spanB
  rw [jm]
  simp only [jf,qbh,decide_eq_true_eq]
  constructor
  ·rintro ⟨h1,h2,h3⟩
   refine ⟨⟨⟨?_,?_⟩,⟨?_,?_⟩,?_⟩,⟨?_,?_⟩,?_,?_⟩<;>omega
  ·rintro ⟨⟨h1,h2,h3⟩,h4,h5⟩
   refine ⟨?_,?_,?_⟩<;>omega
 rw [e]
 unfold qhT qlI
 simp only [qp1,qdn,jd]
 cases spanB s
 ·rfl
 ·cases inI s.Ap 0 1000000<;>rfl
end Go.Fw


namespace Go.Fw
open Go
set_option maxRecDepth 100000
theorem qtv {b:qg} {k:Int} (h:blockB b=true) {j:Nat} (hj:j<(places b.Ab).length) (hk:(gt (places b.Ab) j).net=k) (hdr:(gt (places b.Ab) j).drives=true):Ev (fun n=>qiP n b.Ab k) (j:Int):=by
 have hd:=qat h
 have hs:=qY hd
 have hl:=qbb hs
 have e:ixL (fun q:Tl05Place=>(q.net==k)&&q.drives) ((places b.Ab).map toSp)=(j:Int):=by
  refine qxV (by simpa using hj) ?_ (fun i hi hq=>?_)
  ·rw [qpo hj]
   show (((gt (places b.Ab) j).net==k)&&(gt (places b.Ab) j).drives)=true
   rw [hk,hdr];simp
  ·have hi':i<(places b.Ab).length:=by simpa using hi
   rw [qpo hi'] at hq
   have hq':(((gt (places b.Ab) i).net==k)&&(gt (places b.Ab) i).drives)=true:=hq
   simp only [jf,beq_iff_eq] at hq'
   exact qul hd hi' hj (by rw [hq'.1,hk]) hq'.2 hdr
 unfold qiP
 refine Ev.bind (qie hs) ?_
 rw [←e]
 exact qfX (fin:=(((places b.Ab).map toSp).length:Int)) (Lf:=qcT k ((places b.Ab).map toSp)) (xs:=(places b.Ab).map toSp) (pf:=fun _ (q:Tl05Place)=>some ((q.net==k)&&q.drives)) (fun _ _=>.done)
  (fun n=>by simp only [qcT,ql (je _),cond_false])
  (fun n j x hx=>by
   have hj:=(List.getElem?_eq_some_iff.1 hx).1
   have hj':j<(places b.Ab).length:=by simpa using hj
   simp only [qcT,qk hj,cond_true,qan hx,jd,wS j]
   cases (x.net==k)<;>cases x.drives<;>rfl)
  (fun n=>by congr 1;funext o;cases o<;>rfl)
theorem qrV {b:qg} {i k:Nat} (h:blockB b=true) (hi:i<b.Ab.Aa.length) (hk:k<(gt b.Ab.Aa i).Ak.length):Ev (fun n=>qiV n b.Ab (i:Int) (k:Int)) ((off b.Ab i+k:Nat):Int):=by
 have hd:=qat h
 have hs:=qY hd
 have hl:=qbb hs
 obtain ⟨hj,ej⟩:=qkI hi hk
 have e:ixL (fun q:Tl05Place=>(q.instance_==(i:Int))&&(q.pin==(k:Int))) ((places b.Ab).map toSp)=((off b.Ab i+k:Nat):Int):=by
  refine qxV (by simpa using hj) ?_ (fun m hm hq=>?_)
  ·rw [qpo hj,ej]
   unfold place1 toSp
   simp
  ·have hm':m<(places b.Ab).length:=by simpa using hm
   rw [qpo hm'] at hq
   rcases qlE hm' with ⟨i',k',hi',hk',em,e'⟩|⟨i',hi',em,e'⟩
   ·rw [e'] at hq
    unfold place1 toSp at hq
    simp only [jf,beq_iff_eq] at hq
    obtain rfl:i'=i:=by omega
    obtain rfl:k'=k:=by omega
    exact em
   ·rw [e'] at hq
    unfold place2 toSp at hq
    simp only [jf,beq_iff_eq] at hq
    omega
 unfold qiV
 refine Ev.bind (qie hs) ?_
 rw [←e]
 exact qfX (fin:=(((places b.Ab).map toSp).length:Int)) (Lf:=qdQ (i:Int) (k:Int) ((places b.Ab).map toSp)) (xs:=(places b.Ab).map toSp) (pf:=fun _ (q:Tl05Place)=>some ((q.instance_==(i:Int))&&(q.pin==(k:Int)))) (fun _ _=>.done)
  (fun n=>by simp only [qdQ,ql (je _),cond_false])
  (fun n j x hx=>by
   have hj:=(List.getElem?_eq_some_iff.1 hx).1
   have hj':j<(places b.Ab).length:=by simpa using hj
   simp only [qdQ,qk hj,cond_true,qan hx,jd,wS j]
   cases (x.instance_==(i:Int))<;>cases (x.pin==(k:Int))<;>rfl)
  (fun n=>by congr 1;funext o;cases o<;>rfl)
theorem qtt {n:Nat} {xs:List qu} {f t a c k i:Int} (hx:xs.length≤1000000) (f0:0≤f) (f1:f≤1000000) (t0:0≤t) (t1:t≤1000000) (ha:b01 a) (hc:b01 c):qfn n xs f t a c k i=some (xs++[⟨2*f+a,2*t+c,k,i⟩]):=by
 have ha':0≤a∧a≤1:=by rcases ha with e|e<;>omega
 have hc':0≤c∧c≤1:=by rcases hc with e|e<;>omega
 unfold qfn
 rw [wO (2*f),wO (2*t),wO (2*f+a),wO (2*t+c),qdb (by rw [js];omega)]
 rfl
def fitB (a:qG) (i j:Int):Bool:=bif a.Bf==1 then (bif a.Bp==3 then true else (a.Bp==1)==(i==j)) else bif a.Bf==2 then i==0 else bif a.Bf==3 then i==1 else false
def pcL (a:qG) (f t k i j:Int):List qu:=bif fitB a i j then [⟨2*f+i,2*t+j,1,k⟩] else []
theorem arcStep {arc:qG} {xs:List qu} {f t k i j:Int} {X:List qu × Int} (hx:xs.length≤1000000) (f0:0≤f) (f1:f≤1000000) (t0:0≤t) (t1:t≤1000000) (hi:b01 i) (hj:b01 j)
  (h:Ev (fun n=>qa6 arc f t k i n (xs++pcL arc f t k i j) (j+1)) X):Ev (fun n=>qa6 arc f t k i n xs j) X:=by
 have hj':0≤j∧j≤1:=by rcases hj with e|e<;>omega
 have hp:=fun n=>qtt (n:=n) (k:=1) (i:=k) hx f0 f1 t0 t1 hi hj
 refine Ev.succ ?_
 simp only [qa6,hp,jd,wO (j+1)]
 refine Ev.tt (decide_eq_true hj'.2) ?_
 unfold pcL fitB at h
 cases h1:arc.Bf==1
 ·cases h2:arc.Bf==2
  ·cases h3:arc.Bf==3
   ·rw [h1,h2,h3] at h;simpa using h
   ·rw [h1,h2,h3] at h
    cases h4:i==1
    ·rw [h4] at h;simpa using h
    ·rw [h4] at h;simpa using h
  ·rw [h1,h2] at h
   cases h4:i==0
   ·rw [h4] at h;simpa using h
   ·rw [h4] at h;simpa using h
 ·rw [h1] at h
  cases h2:arc.Bp==3
  ·rw [h2] at h
   cases h4:(arc.Bp==1)==(i==j)
   ·rw [h4] at h;simpa [h4] using h
   ·rw [h4] at h;simpa [h4] using h
  ·rw [h2] at h;simpa using h
theorem qzK {arc:qG} {xs:List qu} {f t k:Int} (hx:xs.length≤900000) (f0:0≤f) (f1:f≤1000000) (t0:0≤t) (t1:t≤1000000) :
  Ev (fun n=>qly n xs arc f t k) (xs++pcL arc f t k 0 0++pcL arc f t k 0 1++pcL arc f t k 1 0++pcL arc f t k 1 1):=by
 have hl:∀ i j,(pcL arc f t k i j).length≤1:=fun i j=>by unfold pcL;cases fitB arc i j<;>simp
 have h00:=hl 0 0
 have h01:=hl 0 1
 have h10:=hl 1 0
 have h11:=hl 1 1
 have row:∀ (i:Int) (ys:List qu),b01 i→ys.length≤900010→Ev (fun n=>qa6 arc f t k i n ys 0) (ys++pcL arc f t k i 0++pcL arc f t k i 1,2):=by
  intro i ys hi hy
  have hli:=hl i 0
  refine arcStep (by omega) f0 f1 t0 t1 hi (.inl rfl) (arcStep (j:=0+1) (by rw [jh];omega) f0 f1 t0 t1 hi (.inr rfl) (Ev.succ ?_))
  simp only [qa6]
  exact Ev.ff rfl .done
 have hL:Ev (fun n=>qeP arc f t k n xs 0) (xs++pcL arc f t k 0 0++pcL arc f t k 0 1++pcL arc f t k 1 0++pcL arc f t k 1 1,2):=by
  refine Ev.succ ?_
  simp only [qeP]
  refine Ev.tt rfl (Ev.bind (row 0 xs (.inl rfl) (by omega)) ?_)
  refine Ev.succ ?_
  simp only [qeP]
  refine Ev.tt rfl (Ev.bind (row 1 _ (.inr rfl) (by simp only [jh];omega)) ?_)
  refine Ev.succ ?_
  simp only [qeP]
  exact Ev.ff rfl .done
 unfold qly
 exact Ev.bind hL .done
theorem qwd {ps:List qaj} {a:qG} (h:arcS ps a=true) (h3:a.Bf≤3) (h1:1≤a.Bf):(a.Bf=1∧(a.Bp=1∨a.Bp=2∨a.Bp=3))∨a.Bf=2∨a.Bf=3:=by
 rcases (by omega:a.Bf=1∨a.Bf=2∨a.Bf=3) with e|e|e
 ·refine .inl ⟨e,?_⟩
  unfold arcS at h
  rw [e] at h
  simp only [beq_self_eq_true,cond_true,jf,qbh] at h
  have:=h.2.2.2.1
  omega
 ·exact .inr (.inl e)
 ·exact .inr (.inr e)
theorem qye {ps:List qaj} {a:qG} {first:Int} {k:Nat} (h:arcS ps a=true) (h3:a.Bf≤3) (h1:1≤a.Bf) :
  pcL a (first+a.Bk) (first+a.To) (k:Int) 0 0++pcL a (first+a.Bk) (first+a.To) (k:Int) 0 1++pcL a (first+a.Bk) (first+a.To) (k:Int) 1 0++pcL a (first+a.Bk) (first+a.To) (k:Int) 1 1=arcLs first k a:=by
 unfold arcLs transL pcL fitB
 rcases qwd h h3 h1 with ⟨e,e2|e2|e2⟩|e|e
 ·rw [e,e2];rfl
 ·rw [e,e2];rfl
 ·rw [e,e2];rfl
 ·rw [e];rfl
 ·rw [e];rfl
theorem qqa {a:qG} {first:Int} {k:Nat} (h:3<a.Bf):arcLs first k a=[]:=by
 unfold arcLs transL
 rw [show (a.Bf==2)=false from beq_eq_false_iff_ne.2 (by omega),show (a.Bf==3)=false from beq_eq_false_iff_ne.2 (by omega),show (a.Bf != 1)=true from bne_iff_ne.2 (by omega)]
 rfl
theorem qim {b:qg} (h:blockB b=true):Ev (fun n=>qfq n b) (linksL b):=by
 have hd:=qat h
 have hs:=qY hd
 have hl:=qbb hs
 have hni:=hs.ni
 have hnn:=hs.nn
 have hwl:=qmu h
 have hd0:(⟨b.Ab.Aa,b.Ab.Ak,b.Ab.Aj⟩:qd)=b.Ab:=rfl
 have e1:Ev (fun n=>qdq b n ([]:List qu) 0) (instLs b b.Ab.Aa.length,(b.Ab.Aa.length:Int)):=by
  refine loopF (Lf:=qdq b) (S:=instLs b) (len:=b.Ab.Aa.length) (fun n=>?_) (fun j hj X hX=>?_)
  ·simp only [qdq,ql (je _),cond_false]
  ·obtain ⟨⟨c0,c1⟩,hnl,hcb⟩:=qhk hd hj
   have ha:=qop hcb
   have hpb:=(qhb (qja hcb)).1
   have hil:=qjh h (show j≤b.Ab.Aa.length by omega)
   have hoff:=qlc (d:=b.Ab) (i:=j)
   have hof:off b.Ab (j+1)≤78:=by
    rw [qg7] at hl
    have:=qvF (d:=b.Ab) (show j+1≤b.Ab.Aa.length by omega)
    omega
   have hcA:cellAt b (j:Int)=gt b.Av.As (gt b.Ab.Aa j).Bt.toNat:=rfl
   simp only [qdq,qk hj,cond_true,qB hj,qdY c0 c1,jd,wS j]
   have hL2:Ev (fun n=>qct b (j:Int) (cellAt b (j:Int)) n (instLs b j) 0) (instLs b (j+1),((cellAt b (j:Int)).Au.length:Int)):=by
    rw [show instLs b (j+1)=instLs b j++cellLs (cellAt b (j:Int)) (off b.Ab j:Int) (cellAt b (j:Int)).Au.length from qky]
    rw [←hcA] at hcb hnl ha hpb
    generalize cellAt b (j:Int)=c at hcb hnl ha hpb ⊢
    have:=loopF (Lf:=qct b (j:Int) c) (S:=fun k=>instLs b j++cellLs c (off b.Ab j:Int) k) (len:=c.Au.length) (fin:=(instLs b j++cellLs c (off b.Ab j:Int) c.Au.length,(c.Au.length:Int))) (fun n=>by simp only [qct,ql (je _),cond_false])
     (fun k hk X hX=>by
      obtain ⟨⟨k1,k5⟩,hf,ht,hA⟩:=qnE hcb hk
      have hcl:(cellLs c (off b.Ab j:Int) k).length≤4*k:=qps fun _ _=>qpJ
      have es:cellLs c (off b.Ab j:Int) (k+1)=cellLs c (off b.Ab j:Int) k++arcLs (off b.Ab j:Int) k (gt c.Au k):=qky
      rw [es] at hX
      simp only [qct,qk hk,cond_true,qB hk,jd,wS k,hd0]
      by_cases h3:(gt c.Au k).Bf≤3
      ·refine Ev.tt (decide_eq_true h3) ?_
       have f1:=qrV h hj (k:=(gt c.Au k).Bk.toNat) (by omega)
       have f2:=qrV h hj (k:=(gt c.Au k).To.toNat) (by omega)
       rw [←qeD hf.1] at f1
       rw [←qeD ht.1] at f2
       refine Ev.bind f1 (Ev.bind f2 (Ev.bind (qzK (by rw [jh];omega) (by omega) (by omega) (by omega) (by omega)) ?_))
       have e3:∀ x:Int,0≤x→((off b.Ab j+x.toNat:Nat):Int)=(off b.Ab j:Int)+x:=fun x hx=>by omega
       rw [e3 _ hf.1,e3 _ ht.1,jq,jq,jq,←jq (pcL _ _ _ _ _ _),←jq (pcL _ _ _ _ _ _++_),qye hA h3 k1,jq]
       exact hX
      ·refine Ev.ff (decide_eq_false h3) ?_
       rw [qqa (by omega),jX] at hX
       exact hX)
    simpa [cellLs,fm] using this
   exact Ev.bind hL2 hX
 have hL4:∀ (i:Nat) (t:List qu),i<b.Ac.length→t.length≤900000→Ev (fun n=>qdh (dvN b.Ab i:Int) (skL b i) n t 0) (t++wlN b i (skL b i).length,((skL b i).length:Int)):=by
  intro i t hi ht
  have hsm:=qhv h (i:=i)
  have hdv:=(qjW hd (k:=i) (by omega)).1
  have:=loopF (Lf:=qdh (dvN b.Ab i:Int) (skL b i)) (S:=fun k=>t++wlN b i k) (len:=(skL b i).length) (fin:=(t++wlN b i (skL b i).length,((skL b i).length:Int))) (fun n=>by simp only [qdh,ql (je _),cond_false])
   (fun k hk X hX=>by
    obtain ⟨y,hy,ey,_⟩:=qpw hk
    have hwn:=qtd (b:=b) (i:=i) (j:=k)
    have p1:=fun n=>qtt (n:=n) (xs:=t++wlN b i k) (f:=(dvN b.Ab i:Int)) (t:=at0 (skL b i) k) (a:=0) (c:=0) (k:=2) (i:=(k:Int)) (by rw [jh];omega) (by omega) (by omega) (by omega) (by omega) (.inl rfl) (.inl rfl)
    have p2:=fun n=>qtt (n:=n) (xs:=t++wlN b i k++[⟨2*(dvN b.Ab i:Int)+0,2*at0 (skL b i) k+0,2,(k:Int)⟩]) (f:=(dvN b.Ab i:Int)) (t:=at0 (skL b i) k) (a:=1) (c:=1) (k:=2) (i:=(k:Int)) (by rw [jh,jh,js];omega) (by omega) (by omega) (by omega) (by omega) (.inr rfl) (.inr rfl)
    simp only [qdh,qk hk,cond_true,qah hk,jd,p1,p2,wS k]
    have es:wlN b i (k+1)=wlN b i k++wl1 (dvN b.Ab i) (at0 (skL b i) k) k:=qky
    rw [es] at hX
    rw [Int.add_zero,Int.add_zero,jq,jq]
    exact hX)
  simpa [wlN,fm] using this
 have e3:Ev (fun n=>qdl b n (instLs b b.Ab.Aa.length) 0) (linksL b,(b.Ab.Ak.length:Int)):=by
  have hil:=qjh h (je _)
  have:=loopF (Lf:=qdl b) (S:=fun j=>instLs b b.Ab.Aa.length++wireLs b j) (len:=b.Ab.Ak.length) (fin:=(linksL b,(b.Ab.Ak.length:Int))) (fun n=>by
    simp only [qdl,ql (je _),cond_false]
    rw [←hwl];rfl)
   (fun j hj X hX=>by
    have hwl2:=qom h (j:=j)
    obtain ⟨d1,d2⟩:=qjW hd hj
    obtain ⟨d3,d4⟩:=qoF.1 d2
    simp only [qdl,qk hj,cond_true,wS j,hd0]
    refine Ev.bind (qtv h d1 d3 d4) (Ev.bind (qnG hs) (Ev.bind (hL4 j _ (by omega) (by rw [jh];omega)) ?_))
    rw [jq,show wireLs b j++wlN b j (skL b j).length=wireLs b (j+1) from qky.symm]
    exact hX)
  simpa [wireLs,fm] using this
 unfold qfq
 exact Ev.bind e1 (Ev.bind e3 .done)
def lvB (br:List Int) (m:Nat):List Bool:=pre (fun k=>!br.any fun y=>y==(k:Int)) m
theorem qoV {br:List Int} {m:Nat}:(lvB br m).length=m:=qn0
theorem qwj {br:List Int} {x:Int} (hl:br.length≤1048576):Ev (fun n=>qlt n br x) (br.any fun y=>y==x):=by
 have hL:Ev (fun n=>qeE br x n 0) (bif br.any (fun y=>y==x) then .ret true else .nxt (br.length:Int)):=by
  have:=qeJ (Lf:=qeE br x) (len:=br.length) (f:=fun j=>!(gt br j==x)) (bad:=true) (fin:=.nxt (br.length:Int)) (Ev.succ (by simp only [qeE,ql (je _),cond_false];exact .done))
   (fun j hj X hX=>Ev.succ (by
    simp only [qeE,qk hj,cond_true,qB hj,jd,wS j]
    cases gt br j==x
    ·exact hX
    ·exact .done))
  rw [qu4]
  refine this.cast ?_
  cases allN (fun j=>!(gt br j==x)) br.length<;>rfl
 unfold qlt
 refine Ev.bind hL ?_
 cases br.any (fun y=>y==x)<;>exact .done
theorem qmp {ls:List qu} {br:List Int} (h1:ls.length≤10000) (h2:br.length≤1048576):Ev (fun n=>qhu n ls br) (lvB br ls.length):=by
 have hL:Ev (fun n=>qdP ls br n ([]:List Bool) 0) (lvB br ls.length,(ls.length:Int)):=by
  refine loopF (Lf:=qdP ls br) (S:=fun j=>lvB br j) (len:=ls.length) (fun n=>?_) (fun j hj X hX=>?_)
  ·simp only [qdP,ql (je _),cond_false]
  ·simp only [qdP,qk hj,cond_true,wS j]
   refine Ev.bind (qwj h2) ?_
   have e:appS (lvB br j) [!br.any fun y=>y==(j:Int)]=some (lvB br (j+1)):=qo1 (f:=fun k:Nat=>!br.any fun y=>y==(k:Int)) (by omega)
   rw [e]
   exact hX
 unfold qhu
 exact Ev.bind hL .done
def brB (br:List Int) (m:Nat):Bool:=(br.all fun x=>inI x 0 ((m:Int)-1))&&incB br
theorem quW {v:Tview} {br:List Int} (h1:v.links.length≤10000) (hb:brB br v.links.length=true):Ev (fun n=>qgO n (some v) br) (some ⟨some v,lvB br v.links.length⟩):=by
 unfold brB at hb
 rw [jf,qi2,qal] at hb
 have hm:mkS (v.links.length:Int) false=some (pre (fun _=>false) v.links.length):=qp4 (by omega)
 generalize hM:v.links.length=M at h1 hb hm ⊢
 have hinc:∀ j i,i<j→j<br.length→gt br i<gt br j:=by
  intro j
  induction j with
  | zero=>intro i hi _;omega
  | succ j ih =>
   intro i hi hj
   have hs:=hb.2
   unfold incB at hs
   rw [qal] at hs
   have hs:=hs (j+1) hj
   unfold stepB at hs
   simp only [Bool.or_eq_true,decide_eq_true_eq,Nat.add_sub_cancel] at hs
   have hs':gt br j<gt br (j+1):=by
    rcases hs with hs|hs
    ·omega
    ·exact hs
   by_cases hij:i=j
   ·rw [hij];exact hs'
   ·have:=ih i (by omega) (by omega);omega
 have hlen:∀ j,j<br.length→(j:Int)≤gt br j:=by
  intro j
  induction j with
  | zero =>
   intro hj
   have:=hb.1 0 hj
   rw [qbh] at this
   omega
  | succ j ih =>
   intro hj
   have:=ih (by omega)
   have:=hinc (j+1) j (by omega) hj
   omega
 have hbl:br.length≤M:=by
  by_cases h0:br.length=0
  ·omega
  ·have h2:=hlen (br.length-1) (by omega)
   have h3:=hb.1 (br.length-1) (by omega)
   rw [qbh] at h3
   omega
 have e1:Ev (fun n=>qbR (pre (fun _=>false) M) n (pre (fun _=>false) M) 0) (pre (fun _=>true) M,(M:Int)):=by
  have:=loopF (Lf:=qbR (pre (fun _=>false) M)) (S:=fun j=>pre (fun k=>decide (k<j)) M) (len:=M) (fin:=(pre (fun _=>true) M,(M:Int))) (fun n=>by
    simp only [qbR,qn0,ql (je _),cond_false]
    rw [qhz (g:=fun _=>true) fun k hk=>decide_eq_true hk])
   (fun j hj X hX=>by
    simp only [qbR,qn0,qk hj,cond_true,qiz (f:=fun k=>decide (k<j)) hj,jd,qo0,wS j]
    have:pre (fun k=>decide (k<j+1)) M=pre (fun k=>if k=j then true else decide (k<j)) M:=qhz fun k _=>by
     by_cases hk:k=j
     ·rw [if_pos hk,hk];simp
     ·rw [if_neg hk,decide_eq_decide];omega
    rw [this] at hX
    exact hX)
  simpa using this
 have e2:Ev (fun n=>qbO br n (pre (fun _=>true) M) 0) (lvB br M,(br.length:Int)):=by
  have:=loopF (Lf:=qbO br) (S:=fun j=>pre (fun k=>!(br.take j).any fun y=>y==(k:Int)) M) (len:=br.length) (fin:=(lvB br M,(br.length:Int))) (fun n=>by
    simp only [qbO,ql (je _),cond_false,jD];rfl)
   (fun j hj X hX=>by
    have hr:=hb.1 j hj
    rw [qbh] at hr
    obtain ⟨a,ha⟩:∃ a:Nat,gt br j=(a:Int):=⟨_,qeD hr.1⟩
    have haM:a<M:=by omega
    simp only [qbO,qk hj,cond_true,qB hj,ha,qiz (f:=fun k=>!(br.take j).any fun y=>y==(k:Int)) haM,jd,qo0,wS j]
    have:pre (fun k=>!(br.take (j+1)).any fun y=>y==(k:Int)) M=pre (fun k=>if k=a then false else !(br.take j).any fun y=>y==(k:Int)) M:=qhz fun k _=>by
     rw [jv hj,List.any_append,←qfx hj,ha]
     by_cases hk:k=a
     ·rw [if_pos hk,hk];simp
     ·rw [if_neg hk]
      have:((a:Int)==(k:Int))=false:=by simp;omega
      simp [this]
    rw [this] at hX
    exact hX)
  simpa using this
 unfold qgO
 simp only [jd,hM,hm]
 exact Ev.bind e1 (Ev.bind e2 .done)
theorem qwX {br:List Int} {m:Nat} (hl:br.length≤1048576) (hm:m≤10000):Ev (fun n=>qiT n br (m:Int)) (brB br m):=by
 have hL:Ev (fun n=>qcb br (m:Int) n 0) (bif allN (fun j=>inI (gt br j) 0 ((m:Int)-1)&&stepB br j) br.length then .nxt (br.length:Int) else .ret false):=by
  refine qeJ (Lf:=qcb br (m:Int)) (len:=br.length) (Ev.succ (by simp only [qcb,ql (je _),cond_false];exact .done)) (fun j hj X hX=>Ev.succ ?_)
  simp only [qcb,qk hj,cond_true,qB hj,jd,qcS,wS j,wO ((m:Int)-1)]
  cases h1:inI (gt br j) 0 ((m:Int)-1)
  ·exact .done
  ·refine Ev.ff rfl ?_
   by_cases h0:j=0
   ·subst h0
    exact Ev.ff rfl hX
   ·refine Ev.tt (decide_eq_true (by omega)) ?_
    rw [show (j:Int)-1=((j-1:Nat):Int) by omega,qN (by omega) (by omega),qB (show j-1<br.length by omega)]
    simp only [jd]
    have es:stepB br j=decide (gt br (j-1)<gt br j):=by
     unfold stepB
     rw [decide_eq_false h0,Bool.false_or]
     rfl
    rw [es]
    by_cases hlt:gt br (j-1)<gt br j
    ·rw [decide_eq_true hlt]
     exact Ev.ff (decide_eq_false (by omega)) hX
    ·rw [decide_eq_false hlt]
     exact Ev.tt (decide_eq_true (by omega)) .done
 unfold qiT
 refine Ev.bind hL ?_
 unfold brB incB
 rw [qi2,←ql4]
 cases allN (fun j=>inI (gt br j) 0 ((m:Int)-1)&&stepB br j) br.length<;>exact .done
theorem quh {v:Tview} {br:List Int} (hl:br.length≤1048576) (hm:v.links.length≤10000):Ev (fun n=>qeO n (some v) br) (brB br v.links.length):=by
 unfold qeO qdd brB
 simp only [jd,wO ((v.links.length:Int)-1)]
 exact Ev.and (qed hl) fun _=>Ev.last (qm0 hl)
theorem qu5 {b:qg} {br:List Int} (hok:ql0 b) (h:blockB b=true) (hl:br.length≤1048576):Ev (fun n=>qhe n b br) (bif brB br (linksL b).length then 0 else 2):=by
 unfold qhe
 refine Ev.bind (qqd hok) (Ev.ff (by rw [h];rfl) (Ev.bind (qim h) (Ev.bind (qwX hl (qgX h)) ?_)))
 cases brB br (linksL b).length<;>exact .done
end Go.Fw
