/- By a program of mine (gen.py): for each function a plain function and the proof that the code computes it. -/
import Derived.Test.YteofoidaapgdkaaGreatDoorW3
open Option renaming bind_some → jd
open Nat renaming le_refl → je, le_of_ble_eq_true → jr, mul_le_mul_right → js, lt_of_lt_of_le → jv, succ_mul → jL, zero_add → Jd, add_zero → Je
open Bool renaming and_eq_true → jf, eq_iff_iff → jk, true_and → jz, not_eq_true' → jG, not_true → jX
open Go.Result renaming andThen_ok → jg
open List renaming length_append → jh, getElem?_eq_getElem → ji, mem_cons_of_mem → jn, getElem_mem → jp, append_assoc → jq, length_singleton → jt, getElem?_append_left → ju, mem_cons_self → jw, length_map → jx, take_succ_eq_append_getElem → jy, getElem?_take → jA, getElem?_append_right → jB, getD_eq_getElem?_getD → jC, getElem?_toArray → jE, take_length → jF, eq_nil_of_length_eq_zero → jI, drop_eq_getElem_cons → jJ, map_append → jK, all_eq_true → jM, not_mem_nil → jN, getElem_of_mem → jO, length_replicate → jP, size_toArray → jQ, mem_append_left → jR, append_nil → jT, mem_of_getElem? → jU, mem_cons → jW, range_succ → Ja, length_take → Jb, ext_getElem → Jc
open Go.Sem renaming run_bind → jj, run_pure → jm
open Int renaming toNat_natCast → jo, tdiv_eq_ediv_of_nonneg → jD, mul_nonneg → jS, mul_assoc → jV, mul_le_mul → jY, le_refl → jZ, add_zero → Jf
open Array renaming getElem?_append_left → jH

namespace Go.Fw
open Go Go.Proofs
open Go.RowKit (Below)
set_option maxRecDepth 100000
set_option maxHeartbeats 1600000
variable {n:Nat} {w:World} {cs1 cs2 cs3 cs4 cs5 cs6 cs7 cs8 cs9:List Value}
def qlB (_:Nat) (a_n:Int):Option qn :=
 (mkS a_n (false:Bool)).bind fun x1 =>
 (mkS a_n ((⟨0,0⟩:qc):qc)).bind fun x2 =>
 (mkS a_n ((⟨0,0⟩:qc):qc)).bind fun x3 =>
 some (⟨x1,x2,x3⟩:qn)
theorem qpJ {a_n:Int}  {r:qn} (hF:qlB n a_n=some r):RetV Tryz.prog 151 [.int .i64 a_n] w r:=by
 refine zV 10 Tryz.func151 rfl fun h=>zSR (qp qa h rfl rfl rfl fun w1 bb1 h=>zNS (rA [] [] h rfl fun w2 h=>M0 21 [0,2,4] (h.pick [] rfl) rfl ?_))
 obtain ⟨x1,hx1,hF⟩:=qd hF
 obtain ⟨x2,hx2,hF⟩:=qd hF
 obtain ⟨x3,hx3,hF⟩:=qd hF
 refine qnw (fun e w'=>∃ (S13:Nat→Prop) (p13:Option Addr) (S14:Nat→Prop) (p14:Option Addr) (S15:Nat→Prop) (p15:Option Addr),e=[(2,.pointer (some ⟨bb1,0,none⟩))]∧SH w w' [Ch.own S13 (x3:List qc) [.slice p13 x3.length x3.length],Ch.own S14 (x2:List qc) [.slice p14 x2.length x2.length],Ch.own S15 (x1:List Bool) [.slice p15 x1.length x1.length],Ch.box bb1 [.slice p15 x1.length x1.length,.slice p14 x2.length x2.length,.slice p13 x3.length x3.length] 57]) 0 (bits 8 255) ?_ ?_
 ·intro K
  refine qqp 1 3 5 rfl rfl rfl (bits 8 23) (bits 8 29) (bits 8 53) (by kernel_rfl) (by kernel_rfl) (by kernel_rfl) (by kernel_rfl) ?_ ?_ ?_
  ·obtain ⟨g13,g14,hx1⟩:=qV hx1
   refine qam qa Bool h rfl rfl rfl rfl rfl rfl rfl rfl rfl g13 g14 hx1 rfl fun w12 S10 p10 h=>Ag (h.pick [] rfl) (At 3 5 31 55 rfl ?_ ?_)
   ·obtain ⟨g15,g16,hx2⟩:=qV hx2
    refine qam qa qc h rfl rfl rfl rfl rfl rfl rfl rfl rfl g15 g16 hx2 rfl fun w13 S11 p11 h=>Ag (h.pick [] rfl) (Ao 5 63 rfl ?_)
    obtain ⟨g17,g18,hx3⟩:=qV hx3
    refine qam qa qc h rfl rfl rfl rfl rfl rfl rfl rfl rfl g17 g18 hx3 rfl fun w14 S12 p12 h=>Ag (h.pick [] rfl) (Aw 6 127 (fun w' hw=>qW qa [0,1,2] [.tmp 4,.tmp 6,.tmp 8] rfl rfl rfl rfl rfl rfl rfl rfl) (h.pick [] rfl) rfl ?_)
    exact Ao 7 255 rfl (zs 3 h rfl fun w15 h=>Ag (h.pick [] rfl) (qft [(2,_)] ⟨rfl,trivial⟩ (K _ _ ⟨_,_,_,_,_,_,rfl,h⟩)))
   obtain ⟨g15,g16,hx3⟩:=qV hx3
   refine qam qa qc h rfl rfl rfl rfl rfl rfl rfl rfl rfl g15 g16 hx3 rfl fun w13 S11 p11 h=>Ag (h.pick [] rfl) (Ao 3 63 rfl ?_)
   obtain ⟨g17,g18,hx2⟩:=qV hx2
   refine qam qa qc h rfl rfl rfl rfl rfl rfl rfl rfl rfl g17 g18 hx2 rfl fun w14 S12 p12 h=>Ag (h.pick [] rfl) (Aw 6 127 (fun w' hw=>qW qa [0,1,2] [.tmp 4,.tmp 6,.tmp 8] rfl rfl rfl rfl rfl rfl rfl rfl) (h.pick [] rfl) rfl ?_)
   refine Ao 7 255 rfl (zs 3 h rfl fun w15 h=>Ag (h.pick [] rfl) ?_)
   replace h:=h.pick [1,0,2,3] rfl
   exact qft [(2,_)] ⟨rfl,trivial⟩ (K _ _ ⟨_,_,_,_,_,_,rfl,h⟩)
  ·obtain ⟨g13,g14,hx2⟩:=qV hx2
   refine qam qa qc h rfl rfl rfl rfl rfl rfl rfl rfl rfl g13 g14 hx2 rfl fun w12 S10 p10 h=>Ag (h.pick [] rfl) (At 1 5 31 61 rfl ?_ ?_)
   ·obtain ⟨g15,g16,hx1⟩:=qV hx1
    refine qam qa Bool h rfl rfl rfl rfl rfl rfl rfl rfl rfl g15 g16 hx1 rfl fun w13 S11 p11 h=>Ag (h.pick [] rfl) (Ao 5 63 rfl ?_)
    obtain ⟨g17,g18,hx3⟩:=qV hx3
    refine qam qa qc h rfl rfl rfl rfl rfl rfl rfl rfl rfl g17 g18 hx3 rfl fun w14 S12 p12 h=>Ag (h.pick [] rfl) (Aw 6 127 (fun w' hw=>qW qa [0,1,2] [.tmp 4,.tmp 6,.tmp 8] rfl rfl rfl rfl rfl rfl rfl rfl) (h.pick [] rfl) rfl ?_)
    refine Ao 7 255 rfl (zs 3 h rfl fun w15 h=>Ag (h.pick [] rfl) ?_)
    replace h:=h.pick [0,2,1,3] rfl
    exact qft [(2,_)] ⟨rfl,trivial⟩ (K _ _ ⟨_,_,_,_,_,_,rfl,h⟩)
   obtain ⟨g15,g16,hx3⟩:=qV hx3
   refine qam qa qc h rfl rfl rfl rfl rfl rfl rfl rfl rfl g15 g16 hx3 rfl fun w13 S11 p11 h=>Ag (h.pick [] rfl) (Ao 1 63 rfl ?_)
   obtain ⟨g17,g18,hx1⟩:=qV hx1
   refine qam qa Bool h rfl rfl rfl rfl rfl rfl rfl rfl rfl g17 g18 hx1 rfl fun w14 S12 p12 h=>Ag (h.pick [] rfl) (Aw 6 127 (fun w' hw=>qW qa [0,1,2] [.tmp 4,.tmp 6,.tmp 8] rfl rfl rfl rfl rfl rfl rfl rfl) (h.pick [] rfl) rfl ?_)
   refine Ao 7 255 rfl (zs 3 h rfl fun w15 h=>Ag (h.pick [] rfl) ?_)
   replace h:=h.pick [1,2,0,3] rfl
   exact qft [(2,_)] ⟨rfl,trivial⟩ (K _ _ ⟨_,_,_,_,_,_,rfl,h⟩)
  obtain ⟨g13,g14,hx3⟩:=qV hx3
  refine qam qa qc h rfl rfl rfl rfl rfl rfl rfl rfl rfl g13 g14 hx3 rfl fun w12 S10 p10 h=>Ag (h.pick [] rfl) (At 1 3 55 61 rfl ?_ ?_)
  ·obtain ⟨g15,g16,hx1⟩:=qV hx1
   refine qam qa Bool h rfl rfl rfl rfl rfl rfl rfl rfl rfl g15 g16 hx1 rfl fun w13 S11 p11 h=>Ag (h.pick [] rfl) (Ao 3 63 rfl ?_)
   obtain ⟨g17,g18,hx2⟩:=qV hx2
   refine qam qa qc h rfl rfl rfl rfl rfl rfl rfl rfl rfl g17 g18 hx2 rfl fun w14 S12 p12 h=>Ag (h.pick [] rfl) (Aw 6 127 (fun w' hw=>qW qa [0,1,2] [.tmp 4,.tmp 6,.tmp 8] rfl rfl rfl rfl rfl rfl rfl rfl) (h.pick [] rfl) rfl ?_)
   refine Ao 7 255 rfl (zs 3 h rfl fun w15 h=>Ag (h.pick [] rfl) ?_)
   replace h:=h.pick [2,0,1,3] rfl
   exact qft [(2,_)] ⟨rfl,trivial⟩ (K _ _ ⟨_,_,_,_,_,_,rfl,h⟩)
  obtain ⟨g15,g16,hx2⟩:=qV hx2
  refine qam qa qc h rfl rfl rfl rfl rfl rfl rfl rfl rfl g15 g16 hx2 rfl fun w13 S11 p11 h=>Ag (h.pick [] rfl) (Ao 1 63 rfl ?_)
  obtain ⟨g17,g18,hx1⟩:=qV hx1
  refine qam qa Bool h rfl rfl rfl rfl rfl rfl rfl rfl rfl g17 g18 hx1 rfl fun w14 S12 p12 h=>Ag (h.pick [] rfl) (Aw 6 127 (fun w' hw=>qW qa [0,1,2] [.tmp 4,.tmp 6,.tmp 8] rfl rfl rfl rfl rfl rfl rfl rfl) (h.pick [] rfl) rfl ?_)
  refine Ao 7 255 rfl (zs 3 h rfl fun w15 h=>Ag (h.pick [] rfl) ?_)
  replace h:=h.pick [2,1,0,3] rfl
  exact qft [(2,_)] ⟨rfl,trivial⟩ (K _ _ ⟨_,_,_,_,_,_,rfl,h⟩)
 rintro e2 w16 ⟨S13,p13,S14,p14,S15,p15,rfl,h⟩
 refine Ad ?_
 obtain rfl:=qb hF
 exact qab qa (ρ:=qn) [GoT.v qn [.slice p15 x1.length x1.length,.slice p14 x2.length x2.length,.slice p13 x3.length x3.length]] h ⟨⟨_,_,_,rfl,rfl,h.box 3 rfl,rfl⟩,trivial⟩ (PV.done h (qaj (qcD (⟨x1,x2,x3⟩:qn) h (qap 2 h rfl) (qap 1 h rfl) (qap 0 h rfl) (by rfl) (by rfl))))
def qkh (_:Nat) (a:qc) (b:qc):Option qc :=
 some (⟨(if b.Am<a.Am then b.Am else a.Am),(if b.Ay > a.Ay then b.Ay else a.Ay)⟩:qc)
theorem qmF {a:qc} {b:qc} (ha1:GoT.R w (old w) a cs1) (ha2:GoT.R w (old w) b cs2) {r:qc} (hF:qkh n a b=some r):RetV Tryz.prog 198 [GoT.v qc cs1,GoT.v qc cs2] w r:=by
 obtain rfl:=qx ha1
 obtain rfl:=qx ha2
 refine zV 16 Tryz.func198 rfl fun h=>zSR (qv h rfl rfl fun w1 bb1 h=>qv h rfl rfl fun w2 bb2 h=>qp qa h rfl rfl rfl fun w3 bb3 h=>X4 13 2 1 2 1 h rfl (r_v (qW qa [0,1] [.tmp 9,.tmp 14] rfl rfl rfl rfl rfl rfl rfl rfl) rfl (zs 0 h rfl fun w4 h=>qc6 ?_)))
 obtain rfl:=qb hF
 exact qab qa (ρ:=qc) [GoT.v qc [.int .i64 (if b.Am<a.Am then b.Am else a.Am),.int .i64 (if b.Ay > a.Ay then b.Ay else a.Ay)]] h ⟨⟨_,_,_,rfl,rfl,h.box 0 rfl,rfl⟩,trivial⟩ (PV.done h (qaj (qz (S:=fun _=>False) (qA (⟨(if b.Am<a.Am then b.Am else a.Am),(if b.Ay > a.Ay then b.Ay else a.Ay)⟩:qc)))))
def qg6 (n:Nat) (b:qg) (x:qu):Option Int :=
 (qce n (⟨b.Aa.Ab,b.Aa.Ai,b.Aa.Ah⟩:qf)).bind fun r1 =>
 (idx r1 (W64 (x.To.tdiv 2))).bind fun y1 =>
 some y1.net
theorem qkz {b:qg} {x:qu} (ha1:GoT.R w (old w) b cs1) (ha2:GoT.R w (old w) x cs2) {r:Int} (hF:qg6 n b x=some r):RetV Tryz.prog 219 [GoT.v qg cs1,GoT.v qu cs2] w r:=by
 obtain ⟨p1,k1,p2,k2,p3,k3,p4,k4,p5,k5,rfl,s1,s2,s3,s4,s5⟩:=qI ha1
 obtain rfl:=qa1 ha2
 refine zV 14 Tryz.func219 rfl fun h=>zSR (qv h rfl rfl fun w1 bb1 h=>qv h rfl rfl fun w2 bb2 h=>X0 3 rfl (rA [] [0,1] h rfl fun w3 h=>M2 59 [0,1,3,4,5] 1 0 (h.pick [0,1] rfl) rfl (Ao 2 63 rfl (zcL h hF (qb7 (qax _ (h.oldS s2) (h.oldS s3) (h.oldS s4))) rfl fun r1 w4 S1 p6 k6 h hF=>Ag (h.pick [1,2] rfl) ?_))))
 obtain ⟨y1,hy1,hF,he1,b1,_,q1,cs3,hp1,hq1,hr2,hc1⟩:=(h.sl 0 rfl).1.ix hF
 obtain rfl:=qbU hr2
 exact Ax 6 127 hp1 hq1 ⟨he1.1,qD he1.2.1 (h.sl 0 rfl).2⟩ (h.pick [1,2] rfl) rfl (M0 255 [7] (h.pick [1,2] rfl) rfl (Ao 8 511 rfl (zc 2 hc1 rfl (G0 1023 [9] (h.pick [1,2] rfl) rfl (Ad (ri h hF rfl))))))
def qmm (_:Nat) (list:(List Int)):Option (List Int) :=
 (appS ([]:List Int) list).bind fun x1 =>
 some x1
theorem qqk {list:(List Int)} (ha1:GoT.R w (old w) list cs1) {r:(List Int)} (hF:qmm n list=some r):RetV Tryz.prog 307 [GoT.v (List Int) cs1] w r:=by
 obtain ⟨p1,k1,rfl,s1⟩:=ha1
 refine zV 6 Tryz.func307 rfl fun h=>X0 6 rfl (qU qa [] _ ([]:List Int) h rfl rfl rfl rfl rfl rfl rfl rfl rfl trivial rfl fun w1 p2 S1 h=>zp1 rfl ?_)
 obtain ⟨x1,hx1,hF⟩:=qd hF
 obtain ⟨g1,hx1⟩:=qaF hx1
 refine qc3 qa 0 h rfl (h.oldS s1) rfl rfl rfl rfl rfl rfl rfl rfl rfl rfl g1 hx1 rfl fun w2 p3 k2 S2 h=>X0 2 rfl ?_
 obtain rfl:=qb hF
 exact rO 0 h rfl ⟨rfl,trivial⟩
def qln (_:Nat) (l:qr) (d:qf) (p:Tl05Place):Option Int :=
 bif decide (p.instance_<0) then some 0 else
 (idx d.Ab p.instance_).bind fun y1 =>
 (idx l.Ap y1.Bp).bind fun y2 =>
 (idx y2.Au p.pin).bind fun y3 =>
 some y3.Bo
theorem qqO {l:qr} {d:qf} {p:Tl05Place} (ha1:GoT.R w (old w) l cs1) (ha2:GoT.R w (old w) d cs2) (ha3:GoT.R w (old w) p cs3) {r:Int} (hF:qln n l d p=some r):RetV Tryz.prog 308 [GoT.v qr cs1,GoT.v qf cs2,GoT.v Tl05Place cs3] w r:=by
 obtain ⟨p1,k1,rfl,s1⟩:=qbG ha1
 obtain ⟨p2,k2,p3,k3,p4,k4,rfl,s2,s3,s4⟩:=qaA ha2
 obtain rfl:=qbU ha3
 refine zV 27 Tryz.func308 rfl fun h=>zSR (qv h rfl rfl fun w1 bb1 h=>qv h rfl rfl fun w2 bb2 h=>qv h rfl rfl fun w3 bb3 h=>X1 9 0 h rfl (qh rfl hF ?_ ?_))<;>intro hF
 ·exact X0 4 rfl (ri h hF rfl)
 refine zKS (rD (Y1 2 2 h rfl ?_))
 refine Y1 2 1 h rfl ?_
 refine Y1 2 0 h rfl ?_
 obtain ⟨y1,hy1,hF,he1,b1,_,q1,cs4,hp1,hq1,hr1,hc2⟩:=s2.ix hF
 obtain ⟨p5,k5,rfl,s5⟩:=qO hr1
 refine zdxe hp1 hq1 he1 rfl (zd1 rfl (zdc 1 (hc2.below h.below) rfl ?_))
 obtain ⟨y2,hy2,hF,he2,b2,_,q2,cs5,hp2,hq2,hr2,hc3⟩:=s1.ix hF
 obtain ⟨p6,k6,p7,k7,p8,k8,rfl,s6,s7,s8⟩:=qae hr2
 refine zdxe hp2 hq2 he2 rfl (zd1 rfl (zdc 2 (hc3.below h.below) rfl (Y1 2 0 h rfl ?_)))
 obtain ⟨y3,hy3,hF,he3,b3,_,q3,cs6,hp3,hq3,hr3,hc4⟩:=s6.ix hF
 obtain rfl:=qaX hr3
 exact zdxe hp3 hq3 he3 rfl (zd1 rfl (zdc 2 (hc4.below h.below) rfl (zd1 rfl (dN h fun w4 h=>ri h hF rfl))))
def qdf (y1:qE):Nat→(List Int)→Int→Option ((List Int) × Int)
 | 0,_,_=>none
 | n+1,x2,i2 =>
  bif decide (i2 > 0) then
   (idx y1.Ak i2).bind fun y7 =>
   (idx x2 y7).bind fun y8 =>
   (idx x2 i2).bind fun y9 =>
   (idx x2 y7).bind fun _ =>
   qdf y1 n (setS x2 y7 (W64 (y8+y9))) (W64 (i2-1))
  else
   some (x2,i2)
def qdd (a_0:qg) (y1:qE) (r2:(List Tl05Place)) (r3:(List Int)):Nat→(List Int)→Int→Option ((List Int) × Int)
 | 0,_,_=>none
 | n+1,x1,i1 =>
  bif decide (i1<(r3.length:Int)) then
   (idx y1.Bh i1).bind fun y2 =>
   (idx x1 y2).bind fun y3 =>
   (idx r3 i1).bind fun y4 =>
   (idx r2 y4).bind fun y5 =>
   (qln n (⟨a_0.Ar.Ap⟩:qr) (⟨a_0.Aa.Ab,a_0.Aa.Ai,a_0.Aa.Ah⟩:qf) y5).bind fun r4 =>
   (idx x1 y2).bind fun _ =>
   qdd a_0 y1 r2 r3 n (setS x1 y2 (W64 (y3+r4))) (W64 (i1+1))
  else
   some (x1,i1)
def qhT (n:Nat) (a_0:qg) (a_1:Int):Option (List Int) :=
 (idx a_0.Ac a_1).bind fun y1 =>
 (qmm n y1.Bo).bind fun r1 =>
 (qce n (⟨a_0.Aa.Ab,a_0.Aa.Ai,a_0.Aa.Ah⟩:qf)).bind fun r2 =>
 (qgE n (⟨a_0.Aa.Ab,a_0.Aa.Ai,a_0.Aa.Ah⟩:qf) a_1).bind fun r3 =>
 (qdd a_0 y1 r2 r3 n r1 0).bind fun o=>match o with
 | (x1,_) =>
  (qdf y1 n x1 (W64 ((r1.length:Int)-1))).bind fun o=>match o with
  | (x2,_) =>
   some x2
theorem ql1 {a_0:qg} {a_1:Int} (ha1:GoT.R w (old w) a_0 cs1) {r:(List Int)} (hF:qhT n a_0 a_1=some r):RetV Tryz.prog 279 [GoT.v qg cs1,.int .i64 a_1] w r:=by
 obtain ⟨p1,k1,p2,k2,p3,k3,p4,k4,p5,k5,rfl,s1,s2,s3,s4,s5⟩:=qI ha1
 refine zV 76 Tryz.func279 rfl fun h=>zSR (qv h rfl rfl fun w1 bb1 h=>X1 7 0 h rfl ?_)
 obtain ⟨y1,hy1,hF,he1,b1,_,q1,cs2,hp1,hq1,hr1,hc1⟩:=s5.ix hF
 obtain ⟨p6,k6,p7,k7,p8,k8,p9,k9,rfl,s6,s7,s8,s9⟩:=qaN hr1
 refine zxe hp1 hq1 he1 rfl (zc 0 (hc1.below h.below) rfl (qp qa h rfl rfl rfl fun w2 bb2 h=>zs 0 h rfl fun w3 h=>X1 5 0 h rfl (zcL h hF (qqk ⟨_,_,rfl,(h.oldS s8)⟩) rfl fun r1 w4 S1 p10 k10 h hF=>X1 6 2 h rfl (zcL h hF (qb7 (qax _ (h.oldS s2) (h.oldS s3) (h.oldS s4))) rfl fun r2 w5 S2 p11 k11 h hF=>X1 7 3 h rfl (zcL h hF (qi7 (qax _ (h.oldS s2) (h.oldS s3) (h.oldS s4))) rfl fun r3 w6 S3 p12 k12 h hF=>X0 7 rfl ?_)))))
 obtain ⟨o1,hF,hK1⟩:=qd hF
 refine qm (rL (fun m e w'=>∃ (x1:(List Int)) (i1:Int),qdd a_0 y1 r2 r3 m x1 i1=some o1∧e=[(2,.pointer (some ⟨bb1,0,none⟩)),(5,.pointer (some ⟨bb2,0,none⟩)),(6,.slice p10 r1.length k10),(7,.slice p11 r2.length k11),(8,.slice p12 r3.length k12),(9,.int .i64 i1)]∧SH w w' [Ch.own S3 (r3:List Int) [.slice p12 r3.length k12],Ch.own S2 (r2:List Tl05Place) [.slice p11 r2.length k11],Ch.own S1 (x1:List Int) [.slice p10 r1.length k10],Ch.box bb2 (qgO y1 p6 p7 p8 p9 k6 k7 k8 k9) 210,Ch.box bb1 (qZ a_0 p1 p2 p3 p4 p5 k1 k2 k3 k4 k5) 53]) n ⟨_,_,hF,rfl,h⟩ rfl ?_)
 rintro m1 e1 w7 ⟨x1,i1,hF,rfl,h⟩
 rcases m1 with _|m1
 ·cases hF
 refine X0 8 rfl (qh rfl hF ?_ ?_)<;>intro hF
 ·refine zKSB (rA [22] [0,1,2,3,4] h rfl fun w8 h=>M1 15 [0,1,2,3] 3 (h.pick [0,1,2,3,4] rfl) rfl ?_)
  obtain ⟨y2,hy2,hF,he2,b2,_,q2,cs3,hp2,hq2,rfl,hc3⟩:=s9.ix hF
  refine Ae 4 31 hp2 hq2 he2 (h.pick [0,1,2,3,4] rfl) rfl (Al 5 63 0 hc3 (h.pick [0,1,2,3,4] rfl) rfl ?_)
  obtain ⟨y3,hy3,hF,he3,b3,_,q3,cs4,hp3,hq3,rfl,hc4⟩:=(h.sl 2 rfl).1.ix hF
  refine Ax 6 127 hp3 hq3 ⟨he3.1,qD he3.2.1 (h.sl 2 rfl).2⟩ (h.pick [0,1,2,3,4] rfl) rfl (Aw 7 255 (fun w' hw=>qjE qa (qcd (w1:=w) (S1:=fun _=>False) hw 2 rfl hy3 hp3 hq3 rfl) (j:=0) rfl rfl rfl) (h.pick [0,1,2,3,4] rfl) rfl ?_)
  refine M2 32767 [8,9,10,11,12,13,14] 4 4 (h.pick [0,1,2,3,4] rfl) rfl ?_
  obtain ⟨y4,hy4,hF,he4,b4,_,q4,cs5,hp4,hq4,rfl,hc5⟩:=(h.sl 0 rfl).1.ix hF
  refine Ax 15 65535 hp4 hq4 ⟨he4.1,qD he4.2.1 (h.sl 0 rfl).2⟩ (h.pick [0,1,2,3,4] rfl) rfl (Aw 16 131071 (fun w' hw=>qjE qa (qcd (w1:=w) (S1:=fun _=>False) hw 0 rfl hy4 hp4 hq4 rfl) (j:=0) rfl rfl rfl) (h.pick [0,1,2,3,4] rfl) rfl ?_)
  obtain ⟨y5,hy5,hF,he5,b5,_,q5,cs6,hp5,hq5,hr8,hc6⟩:=(h.sl 1 rfl).1.ix hF
  obtain rfl:=qbU hr8
  refine Ax 17 262143 hp5 hq5 ⟨he5.1,qD he5.2.1 (h.sl 1 rfl).2⟩ (h.pick [0,1,2,3,4] rfl) rfl (Aw 18 524287 (fun w' hw=>qjE qa (qcd hw 1 rfl hy5 hp5 hq5 (qfn (w:=w) (S:=fun _=>False) y5)) (j:=0) rfl rfl rfl) (h.pick [0,1,2,3,4] rfl) rfl ?_)
  refine Ao 19 1048575 rfl (zcI h hF (qqO (qd7 _ (h.oldS s1)) (qax _ (h.oldS s2) (h.oldS s3) (h.oldS s4)) (qfn y5)) rfl fun r4 w9 h hF=>G0 2097151 [20] (h.pick [0,1,2,3,4] rfl) rfl ?_)
  obtain ⟨y6,hy6,hF,he6,b6,_,q6,cs7,hp6,hq6,rfl,hc7⟩:=(h.sl 2 rfl).1.ix hF
  exact Ax 21 4194303 hp6 hq6 ⟨he6.1,qD he6.2.1 (h.sl 2 rfl).2⟩ (h.pick [0,1,2,3,4] rfl) rfl (Ao 22 8388607 rfl (qau qa 2 0 (W64 (y3+r4)) h rfl hy6 hp6 hq6 rfl hc7 rfl rfl rfl rfl rfl rfl rfl fun w10 h=>qbI (fun hs=>absurd (hs 22 (by decide)) (by decide)) (Ad (X0 6 rfl (rK ⟨_,_,hF,rfl,h⟩ rfl)))))
 refine qq rfl ?_
 obtain rfl:=qb hF;replace hF:=hK1
 refine X0 8 rfl ?_
 obtain ⟨o2,hF,hK2⟩:=qd hF
 refine qm ?_
 replace h:=h.pick [2,3] rfl
 refine rL (fun m e w'=>∃ (x2:(List Int)) (i2:Int),qdf y1 m x2 i2=some o2∧e=[(5,.pointer (some ⟨bb2,0,none⟩)),(6,.slice p10 r1.length k10),(10,.int .i64 i2)]∧SH w w' [Ch.own S1 (x2:List Int) [.slice p10 r1.length k10],Ch.box bb2 (qgO y1 p6 p7 p8 p9 k6 k7 k8 k9) 210]) n ⟨_,_,hF,rfl,h⟩ rfl ?_
 rintro m2 e2 w11 ⟨x2,i2,hF,rfl,h⟩
 rcases m2 with _|m2
 ·cases hF
 refine X0 6 rfl (qh rfl hF ?_ ?_)<;>intro hF
 ·refine zKSB (rA [14] [0,1] h rfl fun w12 h=>M1 15 [0,1,2,3] 1 (h.pick [0,1] rfl) rfl ?_)
  obtain ⟨y7,hy7,hF,he7,b7,_,q7,cs8,hp7,hq7,rfl,hc9⟩:=s6.ix hF
  refine Ae 4 31 hp7 hq7 he7 (h.pick [0,1] rfl) rfl (Al 5 63 0 hc9 (h.pick [0,1] rfl) rfl ?_)
  obtain ⟨y8,hy8,hF,he8,b8,_,q8,cs9,hp8,hq8,rfl,hc10⟩:=(h.sl 0 rfl).1.ix hF
  refine Ax 6 127 hp8 hq8 ⟨he8.1,qD he8.2.1 (h.sl 0 rfl).2⟩ (h.pick [0,1] rfl) rfl (Aw 7 255 (fun w' hw=>qjE qa (qcd (w1:=w) (S1:=fun _=>False) hw 0 rfl hy8 hp8 hq8 rfl) (j:=0) rfl rfl rfl) (h.pick [0,1] rfl) rfl ?_)
  refine M0 1023 [8,9] (h.pick [0,1] rfl) rfl ?_
  obtain ⟨y9,hy9,hF,he9,b9,_,q9,cs10,hp9,hq9,rfl,hc11⟩:=(h.sl 0 rfl).1.ix hF
  refine Ax 10 2047 hp9 hq9 ⟨he9.1,qD he9.2.1 (h.sl 0 rfl).2⟩ (h.pick [0,1] rfl) rfl (Aw 11 4095 (fun w' hw=>qjE qa (qcd (w1:=w) (S1:=fun _=>False) hw 0 rfl hy9 hp9 hq9 rfl) (j:=0) rfl rfl rfl) (h.pick [0,1] rfl) rfl ?_)
  refine M0 8191 [12] (h.pick [0,1] rfl) rfl ?_
  obtain ⟨y10,hy10,hF,he10,b10,_,q10,cs11,hp10,hq10,rfl,hc12⟩:=(h.sl 0 rfl).1.ix hF
  exact Ax 13 16383 hp10 hq10 ⟨he10.1,qD he10.2.1 (h.sl 0 rfl).2⟩ (h.pick [0,1] rfl) rfl (Ao 14 32767 rfl (qau qa 0 0 (W64 (y8+y9)) h rfl hy10 hp10 hq10 rfl hc12 rfl rfl rfl rfl rfl rfl rfl fun w13 h=>qbI (fun hs=>absurd (hs 14 (by decide)) (by decide)) (Ad (X0 6 rfl (rK ⟨_,_,hF,rfl,h⟩ rfl)))))
 refine qq rfl ?_
 obtain rfl:=qb hF;replace hF:=hK2
 refine X0 5 rfl ?_
 obtain rfl:=qb hF
 exact rO 0 h rfl ⟨rfl,trivial⟩
def qjA (n:Nat) (b:qg) (x:qu):Option (qG × Int) :=
 (qce n (⟨b.Aa.Ab,b.Aa.Ai,b.Aa.Ah⟩:qf)).bind fun r1 =>
 (idx r1 (W64 (x.To.tdiv 2))).bind fun y1 =>
 (idx b.Aa.Ab y1.instance_).bind fun y2 =>
 (idx b.Ar.Ap y2.Bp).bind fun y3 =>
 (idx y3.As x.Bu).bind fun y4 =>
 (qhT n b y1.net).bind fun r2 =>
 (idx r2 0).bind fun y5 =>
 some (y4,y5)
theorem qmO {A:Nat→Prop} (hA:∀ b,A b→old w b) {b:qg} {x:qu} (ha1:GoT.R w A b cs1) (ha2:GoT.R w A x cs2) {r:(qG × Int)} (hF:qjA n b x=some r):RetG Tryz.prog 236 [GoT.v qg cs1,GoT.v qu cs2] w A r:=by
 obtain ⟨p1,k1,p2,k2,p3,k3,p4,k4,p5,k5,rfl,s1,s2,s3,s4,s5⟩:=qI ha1
 obtain rfl:=qa1 ha2
 have hg:=Rg.start hA
 refine qpP Tryz.func236 rfl (m:=39) rfl rfl (fun h=>?_)
 refine zSR (qv h rfl rfl fun w1 bb1 h=>qv h rfl rfl fun w2 bb2 h=>qp qa h rfl rfl rfl fun w3 bb3 h=>X0 3 rfl ?_)
 obtain ⟨r1,hr1,hF⟩:=qd hF
 obtain ⟨y1,hy1,hF⟩:=qd hF
 refine qba (fun e w'=>∃ (bb8:Nat),e=[(2,.pointer (some ⟨bb1,0,none⟩)),(3,.pointer (some ⟨bb2,0,none⟩)),(4,.pointer (some ⟨bb3,0,none⟩)),(6,.pointer (some ⟨bb8,0,none⟩))]∧SH w w' [Ch.box bb8 (qlj y1) 261,Ch.box bb3 [.int .i64 0,.int .i64 0,.int .i64 0,.int .i64 0,.slice none 0 0,.slice none 0 0] 254,Ch.box bb2 (qjs x) 187,Ch.box bb1 (qZ b p1 p2 p3 p4 p5 k1 k2 k3 k4 k5) 53]) ?_ ?_
 ·refine rA [9] [1,2] h rfl fun w7 h=>M2 59 [0,1,3,4,5] 1 0 (h.pick [1,2] rfl) rfl (At 2 8 63 315 rfl ?_ ?_)
  ·refine qa2 r1 h (cB 171 rfl) (qb7 (qax _ (h.oldS (s2.mono hg.old)) (h.oldS (s3.mono hg.old)) (h.oldS (s4.mono hg.old))) hr1) rfl rfl rfl rfl fun w16 S4 p9 k9 h=>Ag (h.pick [2,3] rfl) ?_
   have he4:=qcI hy1
   obtain ⟨b4,o_4,q4,cs6,hp4,hq4,-,hr5,hc4⟩:=(h.sl 0 rfl).1.at hy1
   obtain rfl:=qbU hr5
   refine Ax 6 127 hp4 hq4 ⟨he4.1,qD he4.2.1 (h.sl 0 rfl).2⟩ (h.pick [2,3] rfl) rfl (At 7 8 255 383 rfl ?_ ?_)
   ·refine r_v (qjE qa (qcd h 0 rfl hy1 hp4 hq4 (qfn (w:=w) (S:=fun _=>False) y1)) (j:=0) rfl rfl rfl) rfl (Ag (h.pick [2,3] rfl) (Ao 8 511 rfl (qp qa h rfl rfl rfl fun w17 bb9 h=>Ag (h.pick [3,4] rfl) (Ao 9 1023 rfl (zs 0 h rfl fun w18 h=>qbI (fun hs=>absurd (hs 9 (by decide)) (by decide)) (Ad ?_))))))
    replace h:=h.pick [0,2,3,4] rfl
    exact rG ⟨_,rfl,h⟩ rfl
   refine qp qa h rfl rfl rfl fun w19 bb10 h=>Ag (h.pick [3,4] rfl) (Ao 7 511 rfl (r_v (qjE qa (qcd h 1 rfl hy1 hp4 hq4 (qfn (w:=w) (S:=fun _=>False) y1)) (j:=0) rfl rfl rfl) rfl (Ag (h.pick [3,4] rfl) (Ao 9 1023 rfl (zs 0 h rfl fun w20 h=>qbI (fun hs=>absurd (hs 9 (by decide)) (by decide)) (Ad ?_))))))
   replace h:=h.pick [0,2,3,4] rfl
   exact rG ⟨_,rfl,h⟩ rfl
  refine qp qa h rfl rfl rfl fun w21 bb11 h=>Ag (h.pick [2,3] rfl) (Ao 2 319 rfl (qa2 r1 h (cB 171 rfl) (qb7 (qax _ (h.oldS (s2.mono hg.old)) (h.oldS (s3.mono hg.old)) (h.oldS (s4.mono hg.old))) hr1) rfl rfl rfl rfl fun w22 S5 p10 k10 h=>Ag (h.pick [3,4] rfl) ?_))
  have he5:=qcI hy1
  obtain ⟨b5,o_5,q5,cs7,hp5,hq5,-,hr6,hc5⟩:=(h.sl 0 rfl).1.at hy1
  obtain rfl:=qbU hr6
  refine Ax 6 383 hp5 hq5 ⟨he5.1,qD he5.2.1 (h.sl 0 rfl).2⟩ (h.pick [3,4] rfl) rfl (Ao 7 511 rfl (r_v (qjE qa (qcd h 0 rfl hy1 hp5 hq5 (qfn (w:=w) (S:=fun _=>False) y1)) (j:=0) rfl rfl rfl) rfl (Ag (h.pick [3,4] rfl) (Ao 9 1023 rfl (zs 1 h rfl fun w23 h=>qbI (fun hs=>absurd (hs 9 (by decide)) (by decide)) (Ad ?_))))))
  replace h:=h.pick [1,2,3,4] rfl
  exact rG ⟨_,rfl,h⟩ rfl
 rintro e1 w24 ⟨bb8,rfl,h⟩
 refine qc0 (rA [] [0,2,3] h rfl fun w25 h=>M3 255 [0,1,2,3,4,5,6,7] 2 2 0 (h.pick [0,2,3] rfl) rfl ?_)
 obtain ⟨y2,hy2,hF,he6,b6,_,q6,cs8,hp6,hq6,hr7,hc6⟩:=s2.ix hF
 obtain ⟨p11,k11,rfl,s6⟩:=qO hr7
 refine Ae 8 511 hp6 hq6 he6 (h.pick [0,2,3] rfl) rfl (M0 1023 [9] (h.pick [0,2,3] rfl) rfl (Al 10 2047 1 hc6 (h.pick [0,2,3] rfl) rfl ?_))
 obtain ⟨y3,hy3,hF,he7,b7,_,q7,cs9,hp7,hq7,hr8,hc7⟩:=s1.ix hF
 obtain ⟨p12,k12,p13,k13,p14,k14,rfl,s7,s8,s9⟩:=qae hr8
 refine Ae 11 4095 hp7 hq7 he7 (h.pick [0,2,3] rfl) rfl (M0 8191 [12] (h.pick [0,2,3] rfl) rfl (Al 13 16383 3 hc7 (h.pick [0,2,3] rfl) rfl (M1 65535 [14,15] 1 (h.pick [0,2,3] rfl) rfl ?_)))
 obtain ⟨y4,hy4,hF,he8,b8,_,q8,cs10,hp8,hq8,hr9,hc8⟩:=s8.ix hF
 obtain ⟨p15,k15,p16,k16,rfl,s10,s11⟩:=qai hr9
 refine Ae 16 131071 hp8 hq8 he8 (h.pick [0,2,3] rfl) rfl (Al 17 262143 0 hc8 (h.pick [0,2,3] rfl) rfl (M2 2097151 [18,19,20] 2 0 (h.pick [0,2,3] rfl) rfl (Ao 21 4194303 rfl (zcL h hF (ql1 (h.old (GoT.mono ha1 hg.old))) rfl fun r2 w26 S6 p17 k17 h hF=>Ag (h.pick [1,3,4] rfl) ?_))))
 obtain ⟨y5,hy5,hF,he9,b9,_,q9,cs11,hp9,hq9,rfl,hc9⟩:=(h.sl 0 rfl).1.ix hF
 refine Ax 22 8388607 hp9 hq9 ⟨he9.1,qD he9.2.1 (h.sl 0 rfl).2⟩ (h.pick [1,3,4] rfl) rfl (qnw (fun e w'=>e=[(4,.pointer (some ⟨bb3,0,none⟩)),(5,.int .i64 y5)]∧SH w w' [Ch.box bb8 (qlj y1) 261,Ch.box bb3 (qhb y4 p15 p16 k15 k16) 254,Ch.box bb2 (qjs x) 187,Ch.box bb1 (qZ b p1 p2 p3 p4 p5 k1 k2 k3 k4 k5) 53]) 0 (bits 26 67108863) ?_ ?_)
 ·intro K
  refine At 23 24 16777215 25165823 rfl ?_ ?_
  ·refine r_v (qjE qa (qcd (w1:=w) (S1:=fun _=>False) h 0 rfl hy5 hp9 hq9 rfl) (j:=0) rfl rfl rfl) rfl (Ag (h.pick [1,3,4] rfl) (Ao 24 33554431 rfl (zs 2 h rfl fun w30 h=>G0 67108863 [25] (h.pick [1,3,4] rfl) rfl ?_)))
   replace h:=h.pick [1,2,3,4] rfl
   exact qft [(4,_),(5,_)] ⟨rfl,rfl,trivial⟩ (K _ _ ⟨rfl,h⟩)
  refine zs 2 h rfl fun w30 h=>Ag (h.pick [1,3,4] rfl) (Ao 23 33554431 rfl (r_v (qjE qa (qcd (w1:=w) (S1:=fun _=>False) h 0 rfl hy5 hp9 hq9 rfl) (j:=0) rfl rfl rfl) rfl (G0 67108863 [25] (h.pick [1,3,4] rfl) rfl ?_)))
  replace h:=h.pick [1,2,3,4] rfl
  exact qft [(4,_),(5,_)] ⟨rfl,rfl,trivial⟩ (K _ _ ⟨rfl,h⟩)
 rintro e3 w31 ⟨rfl,h⟩
 refine Ad ?_
 obtain rfl:=qb hF
 have hv1:GoRs.Rs (ρ:=(qG × Int)) h.wc (reg A w h.wc) (y4,y5) [GoT.v qG (qhb y4 p15 p16 k15 k16),GoT.v Int [.int .i64 y5]]:=⟨_,_,rfl,(hg.outR h (qfR y4 (hg.inS h s10) (hg.inS h s11))),⟨_,rfl,rfl⟩⟩
 exact qxr qa (ρ:=(qG × Int)) (r:=(y4,y5)) [GoT.v qG (qhb y4 p15 p16 k15 k16),GoT.v Int [.int .i64 y5]] h ⟨⟨_,_,_,rfl,rfl,h.box 1 rfl,rfl⟩,rfl,trivial⟩ hv1
def qcp (_:Nat) (a:Int) (b:Int) (mode:Int):Option Int :=
 (quoS a b).bind fun y1 =>
 (remS a b).bind fun y2 =>
 (
  bif decide (y2<0) then some (mode==0) else
  some false).bind fun b1 =>
 bif b1 then some (W64 (y1-1)) else
 bif decide (y2 > 0) then
  bif (mode==1) then some (W64 (y1+1)) else
  some y1
 else
  some y1
theorem qhh {a:Int} {b:Int} {mode:Int}  {r:Int} (hF:qcp n a b mode=some r):RetV Tryz.prog 239 [.int .i64 a,.int .i64 b,.int .i64 mode] w r:=by
 refine zV 32 Tryz.func239 rfl fun h=>X0 8 rfl ?_
 obtain ⟨y1,hx1,hF⟩:=qd hF
 obtain ⟨g1,hx1⟩:=qrY hx1
 refine r_v (qyE g1 rfl rfl) rfl ?_
 rw [hx1]
 refine X0 6 rfl ?_
 obtain ⟨y2,hx2,hF⟩:=qd hF
 obtain ⟨g2,hx2⟩:=qrP hx2
 refine r_v (qyD g2 rfl rfl) rfl ?_
 rw [hx2]
 refine X0 4 rfl ?_
 obtain ⟨KF1,hKF1,o1,hF,hK1⟩:=bindE hF
 refine qba (fun e w'=>∃ (b1:Bool),KF1 b1=some r∧e=[(2,.int .i64 mode),(7,.int .i64 y1),(8,.int .i64 y2),(20,.bool b1)]∧SH w w' []) ?_ ?_
 ·refine X0 4 rfl (qk (t:=17) hF rfl ?_ ?_)<;>intro hF
  ·refine X0 6 rfl ?_
   obtain rfl:=qb hF
   exact rG ⟨_,hK1,rfl,h⟩ rfl
  refine X0 4 rfl ?_
  obtain rfl:=qb hF
  exact rG ⟨_,hK1,rfl,h⟩ rfl
 rintro e1 w1 ⟨b1,hF,rfl,h⟩
 subst hKF1
 refine qh rfl hF ?_ ?_<;>intro hF
 ·exact X0 6 rfl (ri h hF rfl)
 refine X0 7 rfl (qk (t:=25) hF rfl ?_ ?_)<;>intro hF
 ·refine X0 6 rfl (qh rfl hF ?_ ?_)<;>intro hF
  ·exact X0 6 rfl (ri h hF rfl)
  exact X0 6 rfl (ri h hF rfl)
 exact X0 4 rfl (qcj rfl rfl (X0 6 rfl (ri h hF rfl)))
def qbB (axis:(List Int)) (x:Int) (y1:Int) (y2:Int):Nat→Int→Option (Flow (Int × Int × Int) Int)
 | 0,_=>none
 | n+1,i1 =>
  bif decide (i1 ≥ 0) then
   (idx axis i1).bind fun y3 =>
   bif ((if y2<(if y1 > x then y1 else x) then y2 else (if y1 > x then y1 else x))==y3) then some (.ret (i1,1,0)) else
   (idx axis i1).bind fun y4 =>
   bif decide ((if y2<(if y1 > x then y1 else x) then y2 else (if y1 > x then y1 else x)) > y4) then
    (idx axis (W64 (i1+1))).bind fun y5 =>
    (idx axis i1).bind fun y6 =>
    some (.ret (i1,W64 (y5-(if y2<(if y1 > x then y1 else x) then y2 else (if y1 > x then y1 else x))),W64 ((if y2<(if y1 > x then y1 else x) then y2 else (if y1 > x then y1 else x))-y6)))
   else
    qbB axis x y1 y2 n (W64 (i1-1))
  else
   some (.nxt i1)
def qeX (n:Nat) (axis:(List Int)) (x:Int):Option (Int × Int × Int) :=
 (idx axis 0).bind fun y1 =>
 (idx axis (W64 ((axis.length:Int)-1))).bind fun y2 =>
 (qbB axis x y1 y2 n (W64 ((axis.length:Int)-1))).bind fun o=>match o with
 | .ret r=>some r
 | .nxt _ =>
  some (0,1,0)
theorem qkP {axis:(List Int)} {x:Int} (ha1:GoT.R w (old w) axis cs1) {r:(Int × Int × Int)} (hF:qeX n axis x=some r):RetV Tryz.prog 280 [GoT.v (List Int) cs1,.int .i64 x] w r:=by
 obtain ⟨p1,k1,rfl,s1⟩:=ha1
 refine zV 56 Tryz.func280 rfl fun h=>X0 16 rfl ?_
 obtain ⟨y1,hy1,hF,he1,b1,_,q1,cs2,hp1,hq1,rfl,hc1⟩:=s1.ix hF
 refine zxe hp1 hq1 he1 rfl (zc 0 (hc1.below h.below) rfl (X0 9 rfl ?_))
 obtain ⟨y2,hy2,hF,he2,b2,_,q2,cs3,hp2,hq2,rfl,hc2⟩:=s1.ix hF
 refine zxe hp2 hq2 he2 rfl (zc 0 (hc2.below h.below) rfl (X0 10 rfl ?_))
 obtain ⟨o1,hF,hK1⟩:=qd hF
 refine qm (rL (fun m e w'=>∃ (i1:Int),qbB axis x y1 y2 m i1=some o1∧e=[(0,.slice p1 axis.length k1),(1,.int .i64 (if y2<(if y1 > x then y1 else x) then y2 else (if y1 > x then y1 else x))),(8,.int .i64 i1)]∧SH w w' []) n ⟨_,hF,rfl,h⟩ rfl ?_)
 rintro m1 e1 w1 ⟨i1,hF,rfl,h⟩
 rcases m1 with _|m1
 ·cases hF
 refine X0 6 rfl (qh rfl hF ?_ ?_)<;>intro hF
 ·refine X0 9 rfl ?_
  obtain ⟨y3,hy3,hF,he3,b3,_,q3,cs4,hp3,hq3,rfl,hc4⟩:=s1.ix hF
  refine zxe hp3 hq3 he3 rfl (zc 0 (hc4.below h.below) rfl (X0 2 rfl (qh rfl hF ?_ ?_)))<;>intro hF
  ·refine X0 7 rfl ?_
   obtain rfl:=qb hF;replace hF:=hK1
   obtain rfl:=qb hF
   exact qab qa (ρ:=(Int × Int × Int)) [GoT.v Int [.int .i64 i1],GoT.v Int [.int .i64 1],GoT.v Int [.int .i64 0]] h ⟨rfl,rfl,rfl,trivial⟩ (PV.done h (qao h (qz (S:=fun _=>False) rfl) (qao h (qz (S:=fun _=>False) rfl) (qaj (qz (S:=fun _=>False) rfl)) (by rfl)) (by rfl)))
  refine X0 6 rfl ?_
  obtain ⟨y4,hy4,hF,he4,b4,_,q4,cs5,hp4,hq4,rfl,hc6⟩:=s1.ix hF
  refine zxe hp4 hq4 he4 rfl (zc 0 (hc6.below h.below) rfl (X0 2 rfl (qh rfl hF ?_ ?_)))<;>intro hF
  ·refine qc0 (rD (zd4 rfl ?_))
   obtain ⟨y5,hy5,hF,he5,b5,_,q5,cs6,hp5,hq5,rfl,hc8⟩:=s1.ix hF
   refine zdxe hp5 hq5 he5 rfl (zdc 0 (hc8.below h.below) rfl (zd5 rfl ?_))
   obtain ⟨y6,hy6,hF,he6,b6,_,q6,cs7,hp6,hq6,rfl,hc9⟩:=s1.ix hF
   refine zdxe hp6 hq6 he6 rfl (zdc 0 (hc9.below h.below) rfl (zd4 rfl (dN h fun w2 h=>?_)))
   obtain rfl:=qb hF;replace hF:=hK1
   obtain rfl:=qb hF
   exact qab qa (ρ:=(Int × Int × Int)) [GoT.v Int [.int .i64 i1],GoT.v Int [.int .i64 (W64 (y5-(if y2<(if y1 > x then y1 else x) then y2 else (if y1 > x then y1 else x))))],GoT.v Int [.int .i64 (W64 ((if y2<(if y1 > x then y1 else x) then y2 else (if y1 > x then y1 else x))-y6))]] h ⟨rfl,rfl,rfl,trivial⟩ (PV.done h (qao h (qz (S:=fun _=>False) rfl) (qao h (qz (S:=fun _=>False) rfl) (qaj (qz (S:=fun _=>False) rfl)) (by rfl)) (by rfl)))
  exact X0 7 rfl (rK ⟨_,hF,rfl,h⟩ rfl)
 refine qq rfl ?_
 obtain rfl:=qb hF;replace hF:=hK1
 refine X0 6 rfl ?_
 obtain rfl:=qb hF
 exact qab qa (ρ:=(Int × Int × Int)) [GoT.v Int [.int .i64 0],GoT.v Int [.int .i64 1],GoT.v Int [.int .i64 0]] h ⟨rfl,rfl,rfl,trivial⟩ (PV.done h (qao h (qz (S:=fun _=>False) rfl) (qao h (qz (S:=fun _=>False) rfl) (qaj (qz (S:=fun _=>False) rfl)) (by rfl)) (by rfl)))
def qck (a_0:qt) (r2:Int) (r3:Int) (r4:Int) (r6:Int) (r7:Int) (r8:Int) (i2:Int):Nat→Int→Int→Option (Int × Int)
 | 0,_,_=>none
 | n+1,i3,i4 =>
  bif decide (i4<2) then
   (
    bif (i2==1) then some r4 else
    some r3).bind fun i5 =>
   (
    bif (i4==0) then some (W64 (i5*r7)) else
    some (W64 (i5*r8))).bind fun i6 =>
   bif decide (i6 > 0) then
    (idx a_0.Ba (W64 ((W64 ((W64 ((W64 (r2+i2))*(a_0.Bb.length:Int)))+r6))+i4))).bind fun y1 =>
    qck a_0 r2 r3 r4 r6 r7 r8 i2 n (W64 (i3+(W64 (i6*y1)))) (W64 (i4+1))
   else
    qck a_0 r2 r3 r4 r6 r7 r8 i2 n i3 (W64 (i4+1))
  else
   some (i3,i4)
def qdP (a_0:qt) (r2:Int) (r3:Int) (r4:Int) (r6:Int) (r7:Int) (r8:Int):Nat→Int→Int→Option (Int × Int)
 | 0,_,_=>none
 | n+1,i1,i2 =>
  bif decide (i2<2) then
   (qck a_0 r2 r3 r4 r6 r7 r8 i2 n i1 0).bind fun o=>match o with
   | (i3,_) =>
    qdP a_0 r2 r3 r4 r6 r7 r8 n i3 (W64 (i2+1))
  else
   some (i1,i2)
def qho (n:Nat) (a_0:qt) (a_1:Int) (a_2:Int) (a_3:Int):Option Int :=
 (qeX n a_0.Bi a_1).bind fun o=>match o with
  | (r2,r3,r4) =>
   (qeX n a_0.Bb a_2).bind fun o=>match o with
    | (r6,r7,r8) =>
     (qdP a_0 r2 r3 r4 r6 r7 r8 n 0 0).bind fun o=>match o with
     | (i1,_) =>
      (qcp n i1 (W64 ((W64 (r3+r4))*(W64 (r7+r8)))) a_3).bind fun r9 =>
      some r9
theorem qmB {a_0:qt} {a_1:Int} {a_2:Int} {a_3:Int} (ha1:GoT.R w (old w) a_0 cs1) {r:Int} (hF:qho n a_0 a_1 a_2 a_3=some r):RetV Tryz.prog 237 [GoT.v qt cs1,.int .i64 a_1,.int .i64 a_2,.int .i64 a_3] w r:=by
 obtain ⟨p1,k1,p2,k2,p3,k3,rfl,s1,s2,s3⟩:=qaG ha1
 refine zV 88 Tryz.func237 rfl fun h=>zSR (qv h rfl rfl fun w1 bb1 h=>X1 7 0 h rfl ?_)
 obtain ⟨r1,hr1,hF⟩:=qd hF
 obtain ⟨r2,r3,r4⟩:=r1
 refine qaP (r2,r3,r4) h (cB 280 rfl) (qkP ⟨_,_,rfl,(h.oldS s1)⟩ hr1) rfl rfl rfl rfl fun w2 S1 us1 hv1 hr2=>?_
 obtain ⟨S2,us2,rfl,hv2,hr3⟩:=hv1.consI hr2
 obtain ⟨S3,us3,rfl,hv3,hr4⟩:=hv2.consI hr3
 obtain ⟨rfl,h⟩:=hv3.lastI hr4
 refine X1 13 0 h rfl ?_
 obtain ⟨r5,hr6,hF⟩:=qd hF
 obtain ⟨r6,r7,r8⟩:=r5
 refine qaP (r6,r7,r8) h (cB 280 rfl) (qkP ⟨_,_,rfl,(h.oldS s2)⟩ hr6) rfl rfl rfl rfl fun w3 S5 us4 hv5 hr7=>?_
 obtain ⟨S6,us5,rfl,hv6,hr8⟩:=hv5.consI hr7
 obtain ⟨S7,us6,rfl,hv7,hr9⟩:=hv6.consI hr8
 obtain ⟨rfl,h⟩:=hv7.lastI hr9
 refine X1 24 0 h rfl ?_
 obtain ⟨o1,hF,hK1⟩:=qd hF
 refine qm (rL (fun m e w'=>∃ (i1:Int) (i2:Int),qdP a_0 r2 r3 r4 r6 r7 r8 m i1 i2=some o1∧e=[(3,.int .i64 a_3),(4,.pointer (some ⟨bb1,0,none⟩)),(9,.int .i64 r2),(10,.int .i64 r3),(11,.int .i64 r4),(12,.int .i64 r6),(13,.int .i64 r7),(14,.int .i64 r8),(15,.int .i64 (a_0.Bb.length:Int)),(16,.int .i64 i1),(17,.int .i64 i2)]∧SH w w' [Ch.box bb1 (qhj a_0 p1 p2 p3 k1 k2 k3) 329]) n ⟨_,_,hF,rfl,h⟩ rfl ?_)
 rintro m1 e1 w4 ⟨i1,i2,hF,rfl,h⟩
 rcases m1 with _|m1
 ·cases hF
 refine X0 6 rfl (qh rfl hF ?_ ?_)<;>intro hF
 ·refine X0 7 rfl ?_
  obtain ⟨o2,hF,hK2⟩:=qd hF
  refine qm (rL (fun m e w'=>∃ (i3:Int) (i4:Int),qck a_0 r2 r3 r4 r6 r7 r8 i2 m i3 i4=some o2∧e=[(3,.int .i64 a_3),(4,.pointer (some ⟨bb1,0,none⟩)),(9,.int .i64 r2),(10,.int .i64 r3),(11,.int .i64 r4),(12,.int .i64 r6),(13,.int .i64 r7),(14,.int .i64 r8),(15,.int .i64 (a_0.Bb.length:Int)),(16,.int .i64 i3),(17,.int .i64 i2),(18,.int .i64 i4)]∧SH w w' [Ch.box bb1 (qhj a_0 p1 p2 p3 k1 k2 k3) 329]) m1 ⟨_,_,hF,rfl,h⟩ rfl ?_)
  rintro m2 e2 w5 ⟨i3,i4,hF,rfl,h⟩
  rcases m2 with _|m2
  ·cases hF
  refine X0 6 rfl (qh rfl hF ?_ ?_)<;>intro hF
  ·refine X0 14 rfl ?_
   obtain ⟨KF2,hKF2,o4,hF,hK4⟩:=bindE hF
   refine qba (fun e w'=>∃ (i5:Int),KF2 i5=some o2∧e=[(3,.int .i64 a_3),(4,.pointer (some ⟨bb1,0,none⟩)),(9,.int .i64 r2),(10,.int .i64 r3),(11,.int .i64 r4),(12,.int .i64 r6),(13,.int .i64 r7),(14,.int .i64 r8),(15,.int .i64 (a_0.Bb.length:Int)),(16,.int .i64 i3),(17,.int .i64 i2),(18,.int .i64 i4),(19,.int .i64 i5)]∧SH w w' [Ch.box bb1 (qhj a_0 p1 p2 p3 k1 k2 k3) 329]) ?_ ?_
   ·refine qh rfl hF ?_ ?_<;>intro hF
    ·refine X0 4 rfl ?_
     obtain rfl:=qb hF
     exact rG ⟨_,hK4,rfl,h⟩ rfl
    refine qhE ?_
    obtain rfl:=qb hF
    exact rG ⟨_,hK4,rfl,h⟩ rfl
   rintro e4 w7 ⟨i5,hF,rfl,h⟩
   subst hKF2
   refine X0 6 rfl ?_
   obtain ⟨KF1,hKF1,o3,hF,hK3⟩:=bindE hF
   refine qba (fun e w'=>∃ (i6:Int),KF1 i6=some o2∧e=[(3,.int .i64 a_3),(4,.pointer (some ⟨bb1,0,none⟩)),(9,.int .i64 r2),(10,.int .i64 r3),(11,.int .i64 r4),(12,.int .i64 r6),(13,.int .i64 r7),(14,.int .i64 r8),(15,.int .i64 (a_0.Bb.length:Int)),(16,.int .i64 i3),(17,.int .i64 i2),(18,.int .i64 i4),(19,.int .i64 i6)]∧SH w w' [Ch.box bb1 (qhj a_0 p1 p2 p3 k1 k2 k3) 329]) ?_ ?_
   ·refine qh rfl hF ?_ ?_<;>intro hF
    ·refine X0 6 rfl ?_
     obtain rfl:=qb hF
     exact rG ⟨_,hK3,rfl,h⟩ rfl
    refine X0 6 rfl ?_
    obtain rfl:=qb hF
    exact rG ⟨_,hK3,rfl,h⟩ rfl
   rintro e3 w6 ⟨i6,hF,rfl,h⟩
   subst hKF1
   refine X0 5 rfl (qh rfl hF ?_ ?_)<;>intro hF
   ·refine X1 14 0 h rfl ?_
    obtain ⟨y1,hy1,hF,he1,b1,_,q1,cs2,hp1,hq1,rfl,hc4⟩:=s3.ix hF
    exact zxe hp1 hq1 he1 rfl (zc 0 (hc4.below h.below) rfl (X0 10 rfl (rK ⟨_,_,hF,rfl,h⟩ rfl)))
   exact X0 7 rfl (rK ⟨_,_,hF,rfl,h⟩ rfl)
  refine qq rfl ?_
  obtain rfl:=qb hF;replace hF:=hK2
  exact X0 6 rfl (rK ⟨_,_,hF,rfl,h⟩ rfl)
 refine qq rfl ?_
 obtain rfl:=qb hF;replace hF:=hK1
 exact X0 11 rfl (zcI h hF qhh rfl fun r9 w8 h hF=>X0 2 rfl (ri h hF rfl))
def qdD (y1:qE) (r1:(List Int)):Nat→(List Int)→Int→Option ((List Int) × Int)
 | 0,_,_=>none
 | n+1,x1,i1 =>
  bif decide (i1<(r1.length:Int)) then
   (idx y1.Ak i1).bind fun y2 =>
   (idx x1 y2).bind fun y3 =>
   (idx y1.Bs i1).bind fun y4 =>
   (idx r1 i1).bind fun y5 =>
   (appS x1 ([W64 (y3+(W64 (y4*y5)))]:List Int)).bind fun x2 =>
   qdD y1 r1 n x2 (W64 (i1+1))
  else
   some (x1,i1)
def qg9 (n:Nat) (b:qg) (net:Int):Option (List Int) :=
 (idx b.Ac net).bind fun y1 =>
 (qhT n b net).bind fun r1 =>
 (qdD y1 r1 n ([0]:List Int) 1).bind fun o=>match o with
 | (x1,_) =>
  some x1
theorem qlx {b:qg} {net:Int} (ha1:GoT.R w (old w) b cs1) {r:(List Int)} (hF:qg9 n b net=some r):RetV Tryz.prog 281 [GoT.v qg cs1,.int .i64 net] w r:=by
 obtain ⟨p1,k1,p2,k2,p3,k3,p4,k4,p5,k5,rfl,s1,s2,s3,s4,s5⟩:=qI ha1
 refine zV 47 Tryz.func281 rfl fun h=>zSR (qv h rfl rfl fun w1 bb1 h=>X1 7 0 h rfl ?_)
 obtain ⟨y1,hy1,hF,he1,b1,_,q1,cs2,hp1,hq1,hr1,hc1⟩:=s5.ix hF
 obtain ⟨p6,k6,p7,k7,p8,k8,p9,k9,rfl,s6,s7,s8,s9⟩:=qaN hr1
 refine zxe hp1 hq1 he1 rfl (zc 0 (hc1.below h.below) rfl (qp qa h rfl rfl rfl fun w2 bb2 h=>zs 0 h rfl fun w3 h=>X1 5 1 h rfl (zcL h hF (ql1 (h.old ha1)) rfl fun r1 w4 S1 p10 k10 h hF=>X0 4 rfl (qU qa [.const (.int .i64 (0))] _ ([0]:List Int) h rfl rfl rfl rfl rfl rfl rfl rfl rfl ⟨rfl,trivial⟩ rfl fun w5 p11 S2 h=>X0 7 rfl ?_))))
 obtain ⟨o1,hF,hK1⟩:=qd hF
 refine qm ?_
 replace h:=h.pick [0,1,2] rfl
 refine rL (fun m e w'=>∃ (S3:Nat→Prop) (p12:Option Addr) (ln1:Nat) (k11:Nat) (x1:(List Int)) (i1:Int),qdD y1 r1 m x1 i1=some o1∧e=[(5,.pointer (some ⟨bb2,0,none⟩)),(6,.slice p10 r1.length k10),(7,.slice p12 ln1 k11),(8,.int .i64 i1)]∧SH w w' [Ch.own S3 (x1:List Int) [.slice p12 ln1 k11],Ch.own S1 (r1:List Int) [.slice p10 r1.length k10],Ch.box bb2 (qgO y1 p6 p7 p8 p9 k6 k7 k8 k9) 210]) n ⟨_,_,_,_,_,_,hF,rfl,h⟩ rfl ?_
 rintro m1 e1 w6 ⟨S3,p12,ln1,k11,x1,i1,hF,rfl,h⟩
 obtain rfl:=(h.sl 0 rfl).2
 rcases m1 with _|m1
 ·cases hF
 refine X0 8 rfl (qh rfl hF ?_ ?_)<;>intro hF
 ·refine zKSB (rA [] [1,2] h rfl fun w7 h=>M1 31 [0,1,2,3,4] 1 (h.pick [1,2] rfl) rfl ?_)
  obtain ⟨y2,hy2,hF,he2,b2,_,q2,cs3,hp2,hq2,rfl,hc3⟩:=s6.ix hF
  refine Ae 5 63 hp2 hq2 he2 (h.pick [1,2] rfl) rfl (Al 6 127 0 hc3 (h.pick [1,2] rfl) rfl ?_)
  obtain ⟨y3,hy3,hF,he3,b3,_,q3,cs4,hp3,hq3,rfl,hc4⟩:=(h.sl 0 rfl).1.ix hF
  refine Ax 7 255 hp3 hq3 ⟨he3.1,qD he3.2.1 (h.sl 0 rfl).2⟩ (h.pick [1,2] rfl) rfl (M1 3839 [9,10,11] 1 (h.pick [1,2] rfl) rfl ?_)
  obtain ⟨y4,hy4,hF,he4,b4,_,q4,cs5,hp4,hq4,rfl,hc5⟩:=s7.ix hF
  refine Ae 12 7935 hp4 hq4 he4 (h.pick [1,2] rfl) rfl (Al 13 16127 0 hc5 (h.pick [1,2] rfl) rfl (M0 65279 [14,15] (h.pick [1,2] rfl) rfl ?_))
  obtain ⟨y5,hy5,hF,he5,b5,_,q5,cs6,hp5,hq5,rfl,hc6⟩:=(h.sl 1 rfl).1.ix hF
  refine Ax 16 130815 hp5 hq5 ⟨he5.1,qD he5.2.1 (h.sl 1 rfl).2⟩ (h.pick [1,2] rfl) rfl (Aw 17 261887 (fun w' hw=>qjE qa (qcd (w1:=w) (S1:=fun _=>False) hw 0 rfl hy5 hp5 hq5 rfl) (j:=0) rfl rfl rfl) (h.pick [1,2] rfl) rfl ?_)
  refine M0 524031 [18] (h.pick [1,2] rfl) rfl (Ao 8 524287 rfl (zc 0 hc4 rfl (G0 1048575 [19] (h.pick [1,2] rfl) rfl (Ao 20 2097151 rfl (qU qa [.tmp 43] _ ([W64 (y3+(W64 (y4*y5)))]:List Int) h rfl rfl rfl rfl rfl rfl rfl rfl rfl ⟨rfl,trivial⟩ rfl fun w8 p13 S4 h=>Ag (h.pick [2,3] rfl) (Ao 21 4194303 rfl ?_))))))
  obtain ⟨x2,hx1,hF⟩:=qd hF
  obtain ⟨g1,hx1⟩:=qaF hx1
  refine qc3 qa 1 h rfl (h.sl 0 rfl).1 (h.sl 0 rfl).2 rfl rfl rfl rfl rfl rfl rfl rfl rfl g1 hx1 rfl fun w9 p14 k12 S5 h=>G0 8388607 [22] (h.pick [2,3] rfl) rfl (Ad (X0 6 rfl ?_))
  replace h:=h.pick [1,2,3] rfl
  exact rK ⟨_,_,_,_,_,_,hF,rfl,h⟩ rfl
 refine qq rfl ?_
 obtain rfl:=qb hF;replace hF:=hK1
 refine X0 5 rfl ?_
 obtain rfl:=qb hF
 exact rO 0 h rfl ⟨rfl,trivial⟩
def qbJ (b:qg) (net:Int) (mode:Int) (r1:(List Int)):Nat→(List Int)→Int→Option ((List Int) × Int)
 | 0,_,_=>none
 | n+1,x1,i1 =>
  (idx b.Ac net).bind fun y1 =>
  bif decide (i1<(y1.Bh.length:Int)) then
   (idx b.Ac net).bind fun y2 =>
   (idx y2.Bh i1).bind fun y3 =>
   (idx r1 y3).bind fun y4 =>
   (qcp n y4 1000 mode).bind fun r2 =>
   (appS x1 ([r2]:List Int)).bind fun x2 =>
   qbJ b net mode r1 n x2 (W64 (i1+1))
  else
   some (x1,i1)
def qfZ (n:Nat) (b:qg) (net:Int) (mode:Int):Option (List Int) :=
 (qg9 n b net).bind fun r1 =>
 (qbJ b net mode r1 n ([]:List Int) 0).bind fun o=>match o with
 | (x1,_) =>
  some x1
theorem qmJ {b:qg} {net:Int} {mode:Int} (ha1:GoT.R w (old w) b cs1) {r:(List Int)} (hF:qfZ n b net mode=some r):RetV Tryz.prog 238 [GoT.v qg cs1,.int .i64 net,.int .i64 mode] w r:=by
 obtain ⟨p1,k1,p2,k2,p3,k3,p4,k4,p5,k5,rfl,s1,s2,s3,s4,s5⟩:=qI ha1
 refine zV 43 Tryz.func238 rfl fun h=>zSR (qv h rfl rfl fun w1 bb1 h=>X1 6 0 h rfl (zcL h hF (qlx (h.old ha1)) rfl fun r1 w2 S1 p6 k6 h hF=>X0 4 rfl (qU qa [] _ ([]:List Int) h rfl rfl rfl rfl rfl rfl rfl rfl rfl trivial rfl fun w3 p7 S2 h=>X0 7 rfl ?_)))
 obtain ⟨o1,hF,hK1⟩:=qd hF
 refine qm (rL (fun m e w'=>∃ (S3:Nat→Prop) (p8:Option Addr) (ln1:Nat) (k7:Nat) (x1:(List Int)) (i1:Int),qbJ b net mode r1 m x1 i1=some o1∧e=[(1,.int .i64 net),(2,.int .i64 mode),(3,.pointer (some ⟨bb1,0,none⟩)),(7,.slice p6 r1.length k6),(8,.slice p8 ln1 k7),(9,.int .i64 i1)]∧SH w w' [Ch.own S3 (x1:List Int) [.slice p8 ln1 k7],Ch.own S1 (r1:List Int) [.slice p6 r1.length k6],Ch.box bb1 (qZ b p1 p2 p3 p4 p5 k1 k2 k3 k4 k5) 53]) n ⟨_,_,_,_,_,_,hF,rfl,h⟩ rfl ?_)
 rintro m1 e1 w4 ⟨S3,p8,ln1,k7,x1,i1,hF,rfl,h⟩
 obtain rfl:=(h.sl 0 rfl).2
 rcases m1 with _|m1
 ·cases hF
 refine X1 7 2 h rfl ?_
 obtain ⟨y1,hy1,hF,he1,b1,_,q1,cs2,hp1,hq1,hr2,hc1⟩:=s5.ix hF
 obtain ⟨p9,k8,p10,k9,p11,k10,p12,k11,rfl,s6,s7,s8,s9⟩:=qaN hr2
 refine zxe hp1 hq1 he1 rfl (zp1 rfl (zc 3 (hc1.below h.below) rfl (X0 3 rfl (qh rfl hF ?_ ?_))))<;>intro hF
 ·refine X1 9 2 h rfl ?_
  obtain ⟨y2,hy2,hF,he2,b2,_,q2,cs3,hp2,hq2,hr3,hc3⟩:=s5.ix hF
  obtain ⟨p13,k12,p14,k13,p15,k14,p16,k15,rfl,s10,s11,s12,s13⟩:=qaN hr3
  refine zxe hp2 hq2 he2 rfl (zp1 rfl (zc 3 (hc3.below h.below) rfl (zp1 rfl ?_)))
  obtain ⟨y3,hy3,hF,he3,b3,_,q3,cs4,hp3,hq3,rfl,hc4⟩:=s13.ix hF
  refine zxe hp3 hq3 he3 rfl (zc 0 (hc4.below h.below) rfl ?_)
  obtain ⟨y4,hy4,hF,he4,b4,_,q4,cs5,hp4,hq4,rfl,hc5⟩:=(h.sl 1 rfl).1.ix hF
  refine zx hp4 hq4 ⟨he4.1,qD he4.2.1 (h.sl 1 rfl).2⟩ rfl (zc 0 hc5 rfl (zp1 rfl (zcI h hF qhh rfl fun r2 w5 h hF=>qU qa [.tmp 39] _ ([r2]:List Int) h rfl rfl rfl rfl rfl rfl rfl rfl rfl ⟨rfl,trivial⟩ rfl fun w6 p17 S4 h=>?_)))
  obtain ⟨x2,hx1,hF⟩:=qd hF
  obtain ⟨g1,hx1⟩:=qaF hx1
  refine qc3 qa 1 h rfl (h.sl 0 rfl).1 (h.sl 0 rfl).2 rfl rfl rfl rfl rfl rfl rfl rfl rfl g1 hx1 rfl fun w7 p18 k16 S5 h=>X0 8 rfl ?_
  replace h:=h.pick [1,2,3] rfl
  exact rK ⟨_,_,_,_,_,_,hF,rfl,h⟩ rfl
 refine qq rfl ?_
 obtain rfl:=qb hF;replace hF:=hK1
 refine X0 5 rfl ?_
 obtain rfl:=qb hF
 exact rO 0 h rfl ⟨rfl,trivial⟩
def qg8 (_:Nat) (c:qy) (kind:Int) (mode:Int):Option Int :=
 bif (kind==1) then
  bif (mode==0) then some c.Bc else
  some c.Bf
 else
  bif (mode==0) then some c.Bd else
  some c.Bg
theorem qle {c:qy} {kind:Int} {mode:Int} (ha1:GoT.R w (old w) c cs1) {r:Int} (hF:qg8 n c kind mode=some r):RetV Tryz.prog 240 [GoT.v qy cs1,.int .i64 kind,.int .i64 mode] w r:=by
 obtain rfl:=qah ha1
 refine zV 21 Tryz.func240 rfl fun h=>zSR (qv h rfl rfl fun w1 bb1 h=>X0 8 rfl (qh rfl hF ?_ ?_))<;>intro hF
 ·refine X0 6 rfl (qh rfl hF ?_ ?_)<;>intro hF
  ·exact X1 6 0 h rfl (ri h hF rfl)
  exact X1 7 0 h rfl (ri h hF rfl)
 refine X0 7 rfl (qh rfl hF ?_ ?_)<;>intro hF
 ·exact X1 6 0 h rfl (ri h hF rfl)
 exact X1 7 0 h rfl (ri h hF rfl)
def qdq (n:Nat) (b:qg) (c:qy) (x:qu) (slew:Int) (mode:Int):Option Int :=
 bif (x.Av==1) then
  (qjA n b x).bind fun o=>match o with
   | (r2,r3) =>
    (idx r2.Bj (x.To.tmod 2)).bind fun y1 =>
    (qho n y1 slew r3 mode).bind fun r4 =>
    (qg8 n c x.Av mode).bind fun r5 =>
    (qcp n (W64 (r4*r5)) 1000 mode).bind fun r6 =>
    some r6
 else
  (qg6 n b x).bind fun r7 =>
  (qfZ n b r7 mode).bind fun r8 =>
  (idx r8 x.Bu).bind fun y2 =>
  (qg8 n c x.Av mode).bind fun r9 =>
  (qcp n (W64 (y2*r9)) 1000 mode).bind fun r10 =>
  some r10
theorem qdc {b:qg} {c:qy} {x:qu} {slew:Int} {mode:Int} (ha1:GoT.R w (old w) b cs1) (ha2:GoT.R w (old w) c cs2) (ha3:GoT.R w (old w) x cs3) {r:Int} (hF:qdq n b c x slew mode=some r):RetV Tryz.prog 173 [GoT.v qg cs1,GoT.v qy cs2,GoT.v qu cs3,.int .i64 slew,.int .i64 mode] w r:=by
 obtain ⟨p1,k1,p2,k2,p3,k3,p4,k4,p5,k5,rfl,s1,s2,s3,s4,s5⟩:=qI ha1
 obtain rfl:=qah ha2
 obtain rfl:=qa1 ha3
 refine zV 53 Tryz.func173 rfl fun h=>zSR (qv h rfl rfl fun w1 bb1 h=>qv h rfl rfl fun w2 bb2 h=>qv h rfl rfl fun w3 bb3 h=>X1 13 0 h rfl (qh rfl hF ?_ ?_))<;>intro hF
 ·refine X2 4 2 0 h rfl ?_
  have hg1:Rg (old w) w (old w) w:=.start (fun _ h=>h)
  obtain ⟨r1,hr1,hF⟩:=qd hF
  obtain ⟨r2,r3⟩:=r1
  refine qqy (r2,r3) hg1 h (cB 236 rfl) (qmO (hg1.regOld h) (hg1.inR h ha1) (hg1.inR h ha3) hr1) rfl rfl rfl rfl fun w4 us1 B1 hg2 hu1 hz1 hv1=>?_
  have hL1:=h.ext hu1.below
  have hc2:=Up.box 1 h hu1 rfl
  have s6:=Up.R hg1 h hu1 ha2
  have ha4:=Up.boxP (x:=c) hg1 1 h hu1 rfl (hg1.inR h ha2)
  have hc3:=Up.box 0 h hu1 rfl
  have s7:=Up.R hg1 h hu1 ha3
  have ha5:=Up.boxP (x:=x) hg1 0 h hu1 rfl (hg1.inR h ha3)
  have hb1:=h.below.trans (hu1.below.mono h.below.size)
  replace h:=hz1
  obtain ⟨cs4,us2,rfl,hr2,hv2⟩:=qvj hv1
  have ha6:=hr2
  obtain ⟨p6,k6,p7,k7,rfl,s8,s9⟩:=qai hr2
  obtain ⟨cs5,rfl,hr3⟩:=qsu hv2
  obtain rfl:=hr3
  refine zp3 rfl (qp qa h rfl rfl rfl fun w5 bb4 h=>zs 0 h rfl fun w6 h=>X1 6 0 h rfl (zc 1 (hc3.below h.below) rfl (zp1 rfl ?_)))
  obtain ⟨y1,hy1,hF,he1,b1,_,q1,cs6,hp1,hq1,hr4,hc4⟩:=s8.ix hF
  obtain ⟨p8,k8,p9,k9,p10,k10,rfl,s10,s11,s12⟩:=qaG hr4
  refine zxe hp1 hq1 he1 rfl (zc 0 (hc4.below h.below) rfl (zp3 rfl (zcI h hF (qmB (qfq y1 (h.oldS (s10.mono hg2.old)) (h.oldS (s11.mono hg2.old)) (h.oldS (s12.mono hg2.old)))) rfl fun r4 w7 h hF=>X0 5 rfl (zc 0 (hc2.below h.below) rfl (zp1 rfl (zc 2 (hc3.below h.below) rfl (zp1 rfl (zcI h hF (qle (h.old (GoT.mono s6 hg2.old))) rfl fun r5 w8 h hF=>zp2 rfl (zcI h hF qhh rfl fun r6 w9 h hF=>X0 2 rfl ?_)))))))))
  replace h:=h.unbase hg2.below ⟨fun _ h=>h,trivial⟩
  exact ri h hF rfl
 refine rA [] [0,2] h rfl fun w10 h=>M4 215 [0,1,2,4,6,7] 1 1 0 0 (h.pick [0,2] rfl) rfl (Ao 3 223 rfl (zcI h hF (qkz (h.old ha1) (h.old ha3)) rfl fun r7 w11 h hF=>Ag (h.pick [0,2] rfl) (Ao 5 255 rfl (zcL h hF (qmJ (h.old ha1)) rfl fun r8 w12 S1 p11 k11 h hF=>Ag (h.pick [1,3] rfl) ?_))))
 obtain ⟨y2,hy2,hF,he2,b2,_,q2,cs7,hp2,hq2,rfl,hc5⟩:=(h.sl 0 rfl).1.ix hF
 exact Ax 8 511 hp2 hq2 ⟨he2.1,qD he2.2.1 (h.sl 0 rfl).2⟩ (h.pick [1,3] rfl) rfl (Ao 9 1023 rfl (zc 0 hc5 rfl (G0 2047 [10] (h.pick [1,3] rfl) rfl (Ad (X2 7 2 1 h rfl (zcI h hF (qle (h.old ha2)) rfl fun r9 w13 h hF=>zp2 rfl (zcI h hF qhh rfl fun r10 w14 h hF=>X0 2 rfl (ri h hF rfl))))))))
def qd0 (a_n:Int):Nat→Int→Int→Option (Int × Int)
 | 0,_,_=>none
 | n+1,i1,i2 =>
  bif decide (i1<i2) then
   bif decide ((W64 ((W64 ((W64 ((W64 (i1+i2))+1)).tdiv 2))*(W64 ((W64 ((W64 (i1+i2))+1)).tdiv 2))))≤a_n) then qd0 a_n n (W64 ((W64 ((W64 (i1+i2))+1)).tdiv 2)) i2 else
   qd0 a_n n i1 (W64 ((W64 ((W64 ((W64 (i1+i2))+1)).tdiv 2))-1))
  else
   some (i1,i2)
def qiG (n:Nat) (a_n:Int) (mode:Int):Option Int :=
 (qd0 a_n n 0 2000000000).bind fun o=>match o with
 | (i1,_) =>
  bif (mode==1) then
   bif decide ((W64 (i1*i1))<a_n) then some (W64 (i1+1)) else
   some i1
  else
   some i1
theorem qqa {a_n:Int} {mode:Int}  {r:Int} (hF:qiG n a_n mode=some r):RetV Tryz.prog 314 [.int .i64 a_n,.int .i64 mode] w r:=by
 refine zV 36 Tryz.func314 rfl fun h=>X0 10 rfl ?_
 obtain ⟨o1,hF,hK1⟩:=qd hF
 refine qm (rL (fun m e w'=>∃ (i1:Int) (i2:Int),qd0 a_n m i1 i2=some o1∧e=[(0,.int .i64 a_n),(1,.int .i64 mode),(5,.int .i64 i1),(6,.int .i64 i2)]∧SH w w' []) n ⟨_,_,hF,rfl,h⟩ rfl ?_)
 rintro m1 e1 w1 ⟨i1,i2,hF,rfl,h⟩
 rcases m1 with _|m1
 ·cases hF
 refine X0 7 rfl (qh rfl hF ?_ ?_)<;>intro hF
 ·refine X0 19 rfl (qh rfl hF ?_ ?_)<;>intro hF
  ·exact X0 5 rfl (rK ⟨_,_,hF,rfl,h⟩ rfl)
  exact X0 6 rfl (rK ⟨_,_,hF,rfl,h⟩ rfl)
 refine qq rfl ?_
 obtain rfl:=qb hF;replace hF:=hK1
 refine X0 6 rfl (qk (t:=26) hF rfl ?_ ?_)<;>intro hF
 ·refine X0 12 rfl (qh rfl hF ?_ ?_)<;>intro hF
  ·exact X0 10 rfl (ri h hF rfl)
  exact X0 6 rfl (ri h hF rfl)
 exact X0 7 rfl (qcj rfl rfl (X0 6 rfl (ri h hF rfl)))
def qmo (n:Nat) (b:qg) (net:Int) (sink:Int) (slew:Int) (mode:Int):Option Int :=
 (idx b.Ac net).bind fun y1 =>
 (idx y1.Bh sink).bind fun y2 =>
 (qg9 n b net).bind fun r1 =>
 (idx r1 y2).bind fun y3 =>
 (qiG n (W64 ((W64 ((W64 (1000000*slew))*slew))+(W64 ((W64 (4*y3))*y3)))) mode).bind fun r2 =>
 (qcp n r2 1000 mode).bind fun r3 =>
 some r3
theorem qpY {b:qg} {net:Int} {sink:Int} {slew:Int} {mode:Int} (ha1:GoT.R w (old w) b cs1) {r:Int} (hF:qmo n b net sink slew mode=some r):RetV Tryz.prog 296 [GoT.v qg cs1,.int .i64 net,.int .i64 sink,.int .i64 slew,.int .i64 mode] w r:=by
 obtain ⟨p1,k1,p2,k2,p3,k3,p4,k4,p5,k5,rfl,s1,s2,s3,s4,s5⟩:=qI ha1
 refine zV 39 Tryz.func296 rfl fun h=>zSR (qv h rfl rfl fun w1 bb1 h=>X0 3 rfl (rA [] [0] h rfl fun w2 h=>M2 59 [0,1,3,4,5] 0 0 (h.pick [0] rfl) rfl ?_))
 obtain ⟨y1,hy1,hF,he1,b1,_,q1,cs2,hp1,hq1,hr1,hc1⟩:=s5.ix hF
 obtain ⟨p6,k6,p7,k7,p8,k8,p9,k9,rfl,s6,s7,s8,s9⟩:=qaN hr1
 refine Ae 6 123 hp1 hq1 he1 (h.pick [0] rfl) rfl (M0 251 [7] (h.pick [0] rfl) rfl (Al 8 507 3 hc1 (h.pick [0] rfl) rfl (M0 1019 [9] (h.pick [0] rfl) rfl ?_)))
 obtain ⟨y2,hy2,hF,he2,b2,_,q2,cs3,hp2,hq2,rfl,hc2⟩:=s9.ix hF
 refine Ae 10 2043 hp2 hq2 he2 (h.pick [0] rfl) rfl (Al 11 4091 0 hc2 (h.pick [0] rfl) rfl (Ao 2 4095 rfl (zcL h hF (qlx (h.old ha1)) rfl fun r1 w3 S1 p10 k10 h hF=>Ag (h.pick [1] rfl) ?_)))
 obtain ⟨y3,hy3,hF,he3,b3,_,q3,cs4,hp3,hq3,rfl,hc3⟩:=(h.sl 0 rfl).1.ix hF
 exact Ax 12 8191 hp3 hq3 ⟨he3.1,qD he3.2.1 (h.sl 0 rfl).2⟩ (h.pick [1] rfl) rfl (Ao 13 16383 rfl (zc 0 hc3 rfl (G0 32767 [14] (h.pick [1] rfl) rfl (Ad (X0 12 rfl (zcI h hF qqa rfl fun r2 w4 h hF=>zp1 rfl (zcI h hF qhh rfl fun r3 w5 h hF=>X0 2 rfl (ri h hF rfl))))))))
def qeg (n:Nat) (b:qg) (x:qu) (slew:Int) (mode:Int):Option Int :=
 bif (x.Av==1) then
  (qjA n b x).bind fun o=>match o with
   | (r2,r3) =>
    (idx r2.Aq (x.To.tmod 2)).bind fun y1 =>
    (qho n y1 slew r3 mode).bind fun r4 =>
    some r4
 else
  (qg6 n b x).bind fun r5 =>
  (qmo n b r5 x.Bu slew mode).bind fun r6 =>
  some (if r6<1000000 then r6 else 1000000)
theorem qdW {b:qg} {x:qu} {slew:Int} {mode:Int} (ha1:GoT.R w (old w) b cs1) (ha2:GoT.R w (old w) x cs2) {r:Int} (hF:qeg n b x slew mode=some r):RetV Tryz.prog 259 [GoT.v qg cs1,GoT.v qu cs2,.int .i64 slew,.int .i64 mode] w r:=by
 obtain ⟨p1,k1,p2,k2,p3,k3,p4,k4,p5,k5,rfl,s1,s2,s3,s4,s5⟩:=qI ha1
 obtain rfl:=qa1 ha2
 refine zV 41 Tryz.func259 rfl fun h=>zSR (qv h rfl rfl fun w1 bb1 h=>qv h rfl rfl fun w2 bb2 h=>X1 9 0 h rfl (qh rfl hF ?_ ?_))<;>intro hF
 ·refine X2 4 1 0 h rfl ?_
  have hg1:Rg (old w) w (old w) w:=.start (fun _ h=>h)
  obtain ⟨r1,hr1,hF⟩:=qd hF
  obtain ⟨r2,r3⟩:=r1
  refine qqy (r2,r3) hg1 h (cB 236 rfl) (qmO (hg1.regOld h) (hg1.inR h ha1) (hg1.inR h ha2) hr1) rfl rfl rfl rfl fun w3 us1 B1 hg2 hu1 hz1 hv1=>?_
  have hL1:=h.ext hu1.below
  have hc2:=Up.box 0 h hu1 rfl
  have s6:=Up.R hg1 h hu1 ha2
  have ha3:=Up.boxP (x:=x) hg1 0 h hu1 rfl (hg1.inR h ha2)
  have hb1:=h.below.trans (hu1.below.mono h.below.size)
  replace h:=hz1
  obtain ⟨cs3,us2,rfl,hr2,hv2⟩:=qvj hv1
  have ha4:=hr2
  obtain ⟨p6,k6,p7,k7,rfl,s7,s8⟩:=qai hr2
  obtain ⟨cs4,rfl,hr3⟩:=qsu hv2
  obtain rfl:=hr3
  refine zp3 rfl (qp qa h rfl rfl rfl fun w4 bb3 h=>zs 0 h rfl fun w5 h=>X1 7 0 h rfl (zc 1 (hc2.below h.below) rfl (zp1 rfl ?_)))
  obtain ⟨y1,hy1,hF,he1,b1,_,q1,cs5,hp1,hq1,hr4,hc3⟩:=s8.ix hF
  obtain ⟨p8,k8,p9,k9,p10,k10,rfl,s9,s10,s11⟩:=qaG hr4
  refine zxe hp1 hq1 he1 rfl (zc 0 (hc3.below h.below) rfl (zp3 rfl (zcI h hF (qmB (qfq y1 (h.oldS (s9.mono hg2.old)) (h.oldS (s10.mono hg2.old)) (h.oldS (s11.mono hg2.old)))) rfl fun r4 w6 h hF=>X0 2 rfl ?_)))
  replace h:=h.unbase hg2.below ⟨fun _ h=>h,trivial⟩
  exact ri h hF rfl
 refine zKS (rD (Y1 1 1 h rfl ?_))
 refine Y1 1 1 h rfl ?_
 refine Y1 1 0 h rfl ?_
 obtain ⟨r5,hr6,hF⟩:=qd hF
 refine qbm r5 (vsI _) (cB 219 rfl) (fun _ hb=>qkz ((h.ext hb).old ha1) ((h.ext hb).old ha2) hr6) rfl rfl rfl rfl (Y1 2 0 h rfl ?_)
 refine zd2 rfl ?_
 obtain ⟨r6,hr7,hF⟩:=qd hF
 exact qbm r6 (vsI _) (cB 296 rfl) (fun _ hb=>qpY ((h.ext hb).old ha1) hr7) rfl rfl rfl rfl (zd2 rfl (dN h fun w7 h=>ri h hF rfl))
def qhL (n:Nat) (a_0:qg) (a_1:qy) (a_2:qu) (a_3:qc):Option (qc × qc) :=
 (qdq n a_0 a_1 a_2 a_3.Am 0).bind fun r1 =>
 (qdq n a_0 a_1 a_2 a_3.Am 1).bind fun r2 =>
 (qeg n a_0 a_2 a_3.Am 0).bind fun r3 =>
 (qeg n a_0 a_2 a_3.Am 1).bind fun r4 =>
 (qdq n a_0 a_1 a_2 a_3.Ay 0).bind fun r5 =>
 (qdq n a_0 a_1 a_2 a_3.Ay 1).bind fun r6 =>
 (qeg n a_0 a_2 a_3.Ay 0).bind fun r7 =>
 (qeg n a_0 a_2 a_3.Ay 1).bind fun r8 =>
 some ((⟨(if r5<r1 then r5 else r1),(if r6 > r2 then r6 else r2)⟩:qc),(⟨(if r7<r3 then r7 else r3),(if r8 > r4 then r8 else r4)⟩:qc))
theorem qfL {a_0:qg} {a_1:qy} {a_2:qu} {a_3:qc} (ha1:GoT.R w (old w) a_0 cs1) (ha2:GoT.R w (old w) a_1 cs2) (ha3:GoT.R w (old w) a_2 cs3) (ha4:GoT.R w (old w) a_3 cs4) {r:(qc × qc)} (hF:qhL n a_0 a_1 a_2 a_3=some r):RetV Tryz.prog 218 [GoT.v qg cs1,GoT.v qy cs2,GoT.v qu cs3,GoT.v qc cs4] w r:=by
 obtain ⟨p1,k1,p2,k2,p3,k3,p4,k4,p5,k5,rfl,s1,s2,s3,s4,s5⟩:=qI ha1
 obtain rfl:=qah ha2
 obtain rfl:=qa1 ha3
 obtain rfl:=qx ha4
 refine zV 76 Tryz.func218 rfl fun h=>zSR (qv h rfl rfl fun w1 bb1 h=>qv h rfl rfl fun w2 bb2 h=>qv h rfl rfl fun w3 bb3 h=>qv h rfl rfl fun w4 bb4 h=>qp qa h rfl rfl rfl fun w5 bb5 h=>qp qa h rfl rfl rfl fun w6 bb6 h=>zNS ?_)
 obtain ⟨r1,hr1,hF⟩:=qd hF
 obtain ⟨r2,hr2,hF⟩:=qd hF
 refine qba (fun e w'=>∃ (bb11:Nat),e=[(4,.pointer (some ⟨bb1,0,none⟩)),(5,.pointer (some ⟨bb2,0,none⟩)),(6,.pointer (some ⟨bb3,0,none⟩)),(7,.pointer (some ⟨bb4,0,none⟩)),(8,.pointer (some ⟨bb5,0,none⟩)),(9,.pointer (some ⟨bb6,0,none⟩)),(10,.pointer (some ⟨bb11,0,none⟩))]∧SH w w' [Ch.box bb11 [.int .i64 r1,.int .i64 r2] 138,Ch.box bb6 [.int .i64 0,.int .i64 0] 138,Ch.box bb5 [.int .i64 0,.int .i64 0] 138,Ch.box bb4 (qgP a_3) 138,Ch.box bb3 (qjs a_2) 187,Ch.box bb2 (qaq a_1) 77,Ch.box bb1 (qZ a_0 p1 p2 p3 p4 p5 k1 k2 k3 k4 k5) 53]) ?_ ?_
 ·refine rA [14] [2,3,4,5] h rfl fun w11 h=>M4 31 [0,1,2,3,4] 3 2 1 0 (h.pick [2,3,4,5] rfl) rfl (M4 2015 [6,7,8,9,10] 3 2 1 0 (h.pick [2,3,4,5] rfl) rfl (At 5 13 2047 10207 rfl ?_ ?_))
  ·refine qcl r1 h (cB 173 rfl) (qdc (h.old ha1) (h.old ha2) (h.old ha3) hr1) rfl rfl rfl rfl fun w23 h=>Ag (h.pick [2,3,4,5] rfl) (At 11 13 4095 10239 rfl ?_ ?_)
   ·refine qcl r2 h (cB 173 rfl) (qdc (h.old ha1) (h.old ha2) (h.old ha3) hr2) rfl rfl rfl rfl fun w24 h=>Ag (h.pick [2,3,4,5] rfl) (Aw 12 8191 (fun w' hw=>qW qa [0,1] [.tmp 17,.tmp 23] rfl rfl rfl rfl rfl rfl rfl rfl) (h.pick [2,3,4,5] rfl) rfl ?_)
    exact Ao 13 16383 rfl (qp qa h rfl rfl rfl fun w25 bb12 h=>Ag (h.pick [3,4,5,6] rfl) (Ao 14 32767 rfl (zs 0 h rfl fun w26 h=>qbI (fun hs=>absurd (hs 14 (by decide)) (by decide)) (Ad (rG ⟨_,rfl,h⟩ rfl)))))
   refine qp qa h rfl rfl rfl fun w27 bb13 h=>Ag (h.pick [3,4,5,6] rfl) (Ao 11 12287 rfl (qcl r2 h (cB 173 rfl) (qdc (h.old ha1) (h.old ha2) (h.old ha3) hr2) rfl rfl rfl rfl fun w28 h=>Ag (h.pick [3,4,5,6] rfl) (Aw 12 16383 (fun w' hw=>qW qa [0,1] [.tmp 17,.tmp 23] rfl rfl rfl rfl rfl rfl rfl rfl) (h.pick [3,4,5,6] rfl) rfl ?_)))
   exact Ao 14 32767 rfl (zs 0 h rfl fun w29 h=>qbI (fun hs=>absurd (hs 14 (by decide)) (by decide)) (Ad (rG ⟨_,rfl,h⟩ rfl)))
  refine qp qa h rfl rfl rfl fun w30 bb14 h=>Ag (h.pick [3,4,5,6] rfl) (Ao 5 10239 rfl (qcl r1 h (cB 173 rfl) (qdc (h.old ha1) (h.old ha2) (h.old ha3) hr1) rfl rfl rfl rfl fun w31 h=>Ag (h.pick [3,4,5,6] rfl) (Ao 11 12287 rfl (qcl r2 h (cB 173 rfl) (qdc (h.old ha1) (h.old ha2) (h.old ha3) hr2) rfl rfl rfl rfl fun w32 h=>Ag (h.pick [3,4,5,6] rfl) (Aw 12 16383 (fun w' hw=>qW qa [0,1] [.tmp 17,.tmp 23] rfl rfl rfl rfl rfl rfl rfl rfl) (h.pick [3,4,5,6] rfl) rfl ?_)))))
  exact Ao 14 32767 rfl (zs 0 h rfl fun w33 h=>qbI (fun hs=>absurd (hs 14 (by decide)) (by decide)) (Ad (rG ⟨_,rfl,h⟩ rfl)))
 rintro e1 w34 ⟨bb11,rfl,h⟩
 refine qc0 ?_
 obtain ⟨r3,hr3,hF⟩:=qd hF
 obtain ⟨r4,hr4,hF⟩:=qd hF
 refine qba (fun e w'=>∃ (bb19:Nat),e=[(4,.pointer (some ⟨bb1,0,none⟩)),(5,.pointer (some ⟨bb2,0,none⟩)),(6,.pointer (some ⟨bb3,0,none⟩)),(7,.pointer (some ⟨bb4,0,none⟩)),(8,.pointer (some ⟨bb5,0,none⟩)),(9,.pointer (some ⟨bb6,0,none⟩)),(10,.pointer (some ⟨bb11,0,none⟩)),(11,.pointer (some ⟨bb19,0,none⟩))]∧SH w w' [Ch.box bb19 [.int .i64 r3,.int .i64 r4] 138,Ch.box bb11 [.int .i64 r1,.int .i64 r2] 138,Ch.box bb6 [.int .i64 0,.int .i64 0] 138,Ch.box bb5 [.int .i64 0,.int .i64 0] 138,Ch.box bb4 (qgP a_3) 138,Ch.box bb3 (qjs a_2) 187,Ch.box bb2 (qaq a_1) 77,Ch.box bb1 (qZ a_0 p1 p2 p3 p4 p5 k1 k2 k3 k4 k5) 53]) ?_ ?_
 ·refine rA [12] [3,4,6] h rfl fun w39 h=>M4 47 [0,1,2,3,5] 2 1 0 2 (h.pick [3,4,6] rfl) rfl (M2 495 [6,7,8] 1 0 (h.pick [3,4,6] rfl) rfl (At 4 11 511 2543 rfl ?_ ?_))
  ·refine qcl r3 h (cB 259 rfl) (qdW (h.old ha1) (h.old ha3) hr3) rfl rfl rfl rfl fun w51 h=>Ag (h.pick [3,4,6] rfl) (At 9 11 1023 2559 rfl ?_ ?_)
   ·refine qcl r4 h (cB 259 rfl) (qdW (h.old ha1) (h.old ha3) hr4) rfl rfl rfl rfl fun w52 h=>Ag (h.pick [3,4,6] rfl) (Aw 10 2047 (fun w' hw=>qW qa [0,1] [.tmp 29,.tmp 34] rfl rfl rfl rfl rfl rfl rfl rfl) (h.pick [3,4,6] rfl) rfl ?_)
    exact Ao 11 4095 rfl (qp qa h rfl rfl rfl fun w53 bb20 h=>Ag (h.pick [4,5,7] rfl) (Ao 12 8191 rfl (zs 0 h rfl fun w54 h=>qbI (fun hs=>absurd (hs 12 (by decide)) (by decide)) (Ad (rG ⟨_,rfl,h⟩ rfl)))))
   refine qp qa h rfl rfl rfl fun w55 bb21 h=>Ag (h.pick [4,5,7] rfl) (Ao 9 3071 rfl (qcl r4 h (cB 259 rfl) (qdW (h.old ha1) (h.old ha3) hr4) rfl rfl rfl rfl fun w56 h=>Ag (h.pick [4,5,7] rfl) (Aw 10 4095 (fun w' hw=>qW qa [0,1] [.tmp 29,.tmp 34] rfl rfl rfl rfl rfl rfl rfl rfl) (h.pick [4,5,7] rfl) rfl ?_)))
   exact Ao 12 8191 rfl (zs 0 h rfl fun w57 h=>qbI (fun hs=>absurd (hs 12 (by decide)) (by decide)) (Ad (rG ⟨_,rfl,h⟩ rfl)))
  refine qp qa h rfl rfl rfl fun w58 bb22 h=>Ag (h.pick [4,5,7] rfl) (Ao 4 2559 rfl (qcl r3 h (cB 259 rfl) (qdW (h.old ha1) (h.old ha3) hr3) rfl rfl rfl rfl fun w59 h=>Ag (h.pick [4,5,7] rfl) (Ao 9 3071 rfl (qcl r4 h (cB 259 rfl) (qdW (h.old ha1) (h.old ha3) hr4) rfl rfl rfl rfl fun w60 h=>Ag (h.pick [4,5,7] rfl) (Aw 10 4095 (fun w' hw=>qW qa [0,1] [.tmp 29,.tmp 34] rfl rfl rfl rfl rfl rfl rfl rfl) (h.pick [4,5,7] rfl) rfl ?_)))))
  exact Ao 12 8191 rfl (zs 0 h rfl fun w61 h=>qbI (fun hs=>absurd (hs 12 (by decide)) (by decide)) (Ad (rG ⟨_,rfl,h⟩ rfl)))
 rintro e2 w62 ⟨bb19,rfl,h⟩
 refine qc0 (rA [10] [1,4,5,6,7] h rfl fun w63 h=>M4 63 [0,1,2,3,4,5] 0 4 3 2 (h.pick [1,4,5,6,7] rfl) rfl (M1 127 [6] 1 (h.pick [1,4,5,6,7] rfl) rfl (Ao 7 255 rfl (zcI h hF (qdc (h.old ha1) (h.old ha2) (h.old ha3)) rfl fun r5 w64 h hF=>G0 1023 [8,9] (h.pick [1,4,5,6,7] rfl) rfl (Ao 10 2047 rfl (zs 1 h rfl fun w65 h=>qbI (fun hs=>absurd (hs 10 (by decide)) (by decide)) (Ad (qc0 (rA [10] [1,4,5,6,7] h rfl fun w66 h=>M4 63 [0,1,2,3,4,5] 0 4 3 2 (h.pick [1,4,5,6,7] rfl) rfl (M1 127 [6] 1 (h.pick [1,4,5,6,7] rfl) rfl (Ao 7 255 rfl (zcI h hF (qdc (h.old ha1) (h.old ha2) (h.old ha3)) rfl fun r6 w67 h hF=>G0 1023 [8,9] (h.pick [1,4,5,6,7] rfl) rfl (Ao 10 2047 rfl (zs 1 h rfl fun w68 h=>qbI (fun hs=>absurd (hs 10 (by decide)) (by decide)) (Ad (qc0 (rA [9] [0,4,5,7] h rfl fun w69 h=>M4 63 [0,1,2,3,4,5] 0 3 2 1 (h.pick [0,4,5,7] rfl) rfl (Ao 6 127 rfl (zcI h hF (qdW (h.old ha1) (h.old ha3)) rfl fun r7 w70 h hF=>G0 511 [7,8] (h.pick [0,4,5,7] rfl) rfl (Ao 9 1023 rfl (zs 0 h rfl fun w71 h=>qbI (fun hs=>absurd (hs 9 (by decide)) (by decide)) (Ad (qc0 (rA [9] [0,4,5,7] h rfl fun w72 h=>M4 63 [0,1,2,3,4,5] 0 3 2 1 (h.pick [0,4,5,7] rfl) rfl (Ao 6 127 rfl (zcI h hF (qdW (h.old ha1) (h.old ha3)) rfl fun r8 w73 h hF=>G0 511 [7,8] (h.pick [0,4,5,7] rfl) rfl (Ao 9 1023 rfl (zs 0 h rfl fun w74 h=>qbI (fun hs=>absurd (hs 9 (by decide)) (by decide)) (Ad (qc0 (rA [] [0,1] h rfl fun w75 h=>M2 3 [0,1] 1 0 (h.pick [0,1] rfl) rfl (Ao 2 7 rfl (zs 3 h rfl fun w76 h=>Ag (h.pick [0,1] rfl) (Ao 3 15 rfl (zs 2 h rfl fun w77 h=>Ag (h.pick [0,1] rfl) (Ad ?_))))))))))))))))))))))))))))))))))))
 obtain rfl:=qb hF
 exact qab qa (ρ:=(qc × qc)) [GoT.v qc [.int .i64 (if r5<r1 then r5 else r1),.int .i64 (if r6 > r2 then r6 else r2)],GoT.v qc [.int .i64 (if r7<r3 then r7 else r3),.int .i64 (if r8 > r4 then r8 else r4)]] h ⟨⟨_,_,_,rfl,rfl,h.box 3 rfl,rfl⟩,⟨_,_,_,rfl,rfl,h.box 2 rfl,rfl⟩,trivial⟩ (PV.done h (qao h (qz (S:=fun _=>False) (qA (⟨(if r5<r1 then r5 else r1),(if r6 > r2 then r6 else r2)⟩:qc))) (qaj (qz (S:=fun _=>False) (qA (⟨(if r7<r3 then r7 else r3),(if r8 > r4 then r8 else r4)⟩:qc)))) (by rfl)))
end Go.Fw


namespace Go.Fw
open Go Go.Proofs
open Go.RowKit (Below)
set_option maxRecDepth 100000
set_option maxHeartbeats 1600000
variable {n:Nat} {w:World} {cs1 cs2 cs3 cs4 cs5 cs6 cs7 cs8 cs9:List Value}
def qcZ (a_4:(List qe)) (a_6:Int):Nat→Int→Int→Int→Int→Int→Bool→Int→Option (Int × Int × Int × Int × Int × Bool × Int)
 | 0,_,_,_,_,_,_,_=>none
 | n+1,i1,i2,i3,i4,i5,b1,i6 =>
  bif decide (i6<(a_4.length:Int)) then
   (idx a_4 i6).bind fun y1 =>
   bif (y1.Bm==a_6) then
    (idx a_4 i6).bind fun y2 =>
    qcZ a_4 a_6 n y2.Bm y2.Af.Am y2.Af.Ay y2.Aq.Am y2.Aq.Ay true (W64 (i6+1))
   else
    qcZ a_4 a_6 n i1 i2 i3 i4 i5 b1 (W64 (i6+1))
  else
   some (i1,i2,i3,i4,i5,b1,i6)
def qhF (n:Nat) (v:(Option Tview)):Option qn :=
 (qcX n v).bind fun r1 =>
 (mkS r1 (false:Bool)).bind fun x1 =>
 (mkS r1 ((⟨0,0⟩:qc):qc)).bind fun x2 =>
 (mkS r1 ((⟨0,0⟩:qc):qc)).bind fun x3 =>
 some (⟨x1,x2,x3⟩:qn)
theorem qmj {v:(Option Tview)} (ha1:GoT.R w (old w) v cs1) {r:qn} (hF:qhF n v=some r):RetV Tryz.prog 156 [GoT.v (Option Tview) cs1] w r:=by
 obtain ⟨p1,rfl,s1⟩:=qb0 ha1
 refine zV 13 Tryz.func156 rfl fun h=>zSR (qp qa h rfl rfl rfl fun w1 bb1 h=>X0 4 rfl (zcI h hF (qf1 (h.old s1)) rfl fun r1 w2 h hF=>X0 3 rfl (rA [] [] h rfl fun w3 h=>M0 21 [0,2,4] (h.pick [] rfl) rfl ?_)))
 obtain ⟨x1,hx1,hF⟩:=qd hF
 obtain ⟨x2,hx2,hF⟩:=qd hF
 obtain ⟨x3,hx3,hF⟩:=qd hF
 refine qnw (fun e w'=>∃ (S13:Nat→Prop) (p14:Option Addr) (S14:Nat→Prop) (p15:Option Addr) (S15:Nat→Prop) (p16:Option Addr),e=[(2,.pointer (some ⟨bb1,0,none⟩))]∧SH w w' [Ch.own S13 (x3:List qc) [.slice p14 x3.length x3.length],Ch.own S14 (x2:List qc) [.slice p15 x2.length x2.length],Ch.own S15 (x1:List Bool) [.slice p16 x1.length x1.length],Ch.box bb1 [.slice p16 x1.length x1.length,.slice p15 x2.length x2.length,.slice p14 x3.length x3.length] 57]) 0 (bits 8 255) ?_ ?_
 ·intro K
  refine qqp 1 3 5 rfl rfl rfl (bits 8 23) (bits 8 29) (bits 8 53) (by kernel_rfl) (by kernel_rfl) (by kernel_rfl) (by kernel_rfl) ?_ ?_ ?_
  ·obtain ⟨g13,g14,hx1⟩:=qV hx1
   refine qam qa Bool h rfl rfl rfl rfl rfl rfl rfl rfl rfl g13 g14 hx1 rfl fun w13 S10 p11 h=>Ag (h.pick [] rfl) (At 3 5 31 55 rfl ?_ ?_)
   ·obtain ⟨g15,g16,hx2⟩:=qV hx2
    refine qam qa qc h rfl rfl rfl rfl rfl rfl rfl rfl rfl g15 g16 hx2 rfl fun w14 S11 p12 h=>Ag (h.pick [] rfl) (Ao 5 63 rfl ?_)
    obtain ⟨g17,g18,hx3⟩:=qV hx3
    refine qam qa qc h rfl rfl rfl rfl rfl rfl rfl rfl rfl g17 g18 hx3 rfl fun w15 S12 p13 h=>Ag (h.pick [] rfl) (Aw 6 127 (fun w' hw=>qW qa [0,1,2] [.tmp 7,.tmp 9,.tmp 11] rfl rfl rfl rfl rfl rfl rfl rfl) (h.pick [] rfl) rfl ?_)
    exact Ao 7 255 rfl (zs 3 h rfl fun w16 h=>Ag (h.pick [] rfl) (qft [(2,_)] ⟨rfl,trivial⟩ (K _ _ ⟨_,_,_,_,_,_,rfl,h⟩)))
   obtain ⟨g15,g16,hx3⟩:=qV hx3
   refine qam qa qc h rfl rfl rfl rfl rfl rfl rfl rfl rfl g15 g16 hx3 rfl fun w14 S11 p12 h=>Ag (h.pick [] rfl) (Ao 3 63 rfl ?_)
   obtain ⟨g17,g18,hx2⟩:=qV hx2
   refine qam qa qc h rfl rfl rfl rfl rfl rfl rfl rfl rfl g17 g18 hx2 rfl fun w15 S12 p13 h=>Ag (h.pick [] rfl) (Aw 6 127 (fun w' hw=>qW qa [0,1,2] [.tmp 7,.tmp 9,.tmp 11] rfl rfl rfl rfl rfl rfl rfl rfl) (h.pick [] rfl) rfl ?_)
   refine Ao 7 255 rfl (zs 3 h rfl fun w16 h=>Ag (h.pick [] rfl) ?_)
   replace h:=h.pick [1,0,2,3] rfl
   exact qft [(2,_)] ⟨rfl,trivial⟩ (K _ _ ⟨_,_,_,_,_,_,rfl,h⟩)
  ·obtain ⟨g13,g14,hx2⟩:=qV hx2
   refine qam qa qc h rfl rfl rfl rfl rfl rfl rfl rfl rfl g13 g14 hx2 rfl fun w13 S10 p11 h=>Ag (h.pick [] rfl) (At 1 5 31 61 rfl ?_ ?_)
   ·obtain ⟨g15,g16,hx1⟩:=qV hx1
    refine qam qa Bool h rfl rfl rfl rfl rfl rfl rfl rfl rfl g15 g16 hx1 rfl fun w14 S11 p12 h=>Ag (h.pick [] rfl) (Ao 5 63 rfl ?_)
    obtain ⟨g17,g18,hx3⟩:=qV hx3
    refine qam qa qc h rfl rfl rfl rfl rfl rfl rfl rfl rfl g17 g18 hx3 rfl fun w15 S12 p13 h=>Ag (h.pick [] rfl) (Aw 6 127 (fun w' hw=>qW qa [0,1,2] [.tmp 7,.tmp 9,.tmp 11] rfl rfl rfl rfl rfl rfl rfl rfl) (h.pick [] rfl) rfl ?_)
    refine Ao 7 255 rfl (zs 3 h rfl fun w16 h=>Ag (h.pick [] rfl) ?_)
    replace h:=h.pick [0,2,1,3] rfl
    exact qft [(2,_)] ⟨rfl,trivial⟩ (K _ _ ⟨_,_,_,_,_,_,rfl,h⟩)
   obtain ⟨g15,g16,hx3⟩:=qV hx3
   refine qam qa qc h rfl rfl rfl rfl rfl rfl rfl rfl rfl g15 g16 hx3 rfl fun w14 S11 p12 h=>Ag (h.pick [] rfl) (Ao 1 63 rfl ?_)
   obtain ⟨g17,g18,hx1⟩:=qV hx1
   refine qam qa Bool h rfl rfl rfl rfl rfl rfl rfl rfl rfl g17 g18 hx1 rfl fun w15 S12 p13 h=>Ag (h.pick [] rfl) (Aw 6 127 (fun w' hw=>qW qa [0,1,2] [.tmp 7,.tmp 9,.tmp 11] rfl rfl rfl rfl rfl rfl rfl rfl) (h.pick [] rfl) rfl ?_)
   refine Ao 7 255 rfl (zs 3 h rfl fun w16 h=>Ag (h.pick [] rfl) ?_)
   replace h:=h.pick [1,2,0,3] rfl
   exact qft [(2,_)] ⟨rfl,trivial⟩ (K _ _ ⟨_,_,_,_,_,_,rfl,h⟩)
  obtain ⟨g13,g14,hx3⟩:=qV hx3
  refine qam qa qc h rfl rfl rfl rfl rfl rfl rfl rfl rfl g13 g14 hx3 rfl fun w13 S10 p11 h=>Ag (h.pick [] rfl) (At 1 3 55 61 rfl ?_ ?_)
  ·obtain ⟨g15,g16,hx1⟩:=qV hx1
   refine qam qa Bool h rfl rfl rfl rfl rfl rfl rfl rfl rfl g15 g16 hx1 rfl fun w14 S11 p12 h=>Ag (h.pick [] rfl) (Ao 3 63 rfl ?_)
   obtain ⟨g17,g18,hx2⟩:=qV hx2
   refine qam qa qc h rfl rfl rfl rfl rfl rfl rfl rfl rfl g17 g18 hx2 rfl fun w15 S12 p13 h=>Ag (h.pick [] rfl) (Aw 6 127 (fun w' hw=>qW qa [0,1,2] [.tmp 7,.tmp 9,.tmp 11] rfl rfl rfl rfl rfl rfl rfl rfl) (h.pick [] rfl) rfl ?_)
   refine Ao 7 255 rfl (zs 3 h rfl fun w16 h=>Ag (h.pick [] rfl) ?_)
   replace h:=h.pick [2,0,1,3] rfl
   exact qft [(2,_)] ⟨rfl,trivial⟩ (K _ _ ⟨_,_,_,_,_,_,rfl,h⟩)
  obtain ⟨g15,g16,hx2⟩:=qV hx2
  refine qam qa qc h rfl rfl rfl rfl rfl rfl rfl rfl rfl g15 g16 hx2 rfl fun w14 S11 p12 h=>Ag (h.pick [] rfl) (Ao 1 63 rfl ?_)
  obtain ⟨g17,g18,hx1⟩:=qV hx1
  refine qam qa Bool h rfl rfl rfl rfl rfl rfl rfl rfl rfl g17 g18 hx1 rfl fun w15 S12 p13 h=>Ag (h.pick [] rfl) (Aw 6 127 (fun w' hw=>qW qa [0,1,2] [.tmp 7,.tmp 9,.tmp 11] rfl rfl rfl rfl rfl rfl rfl rfl) (h.pick [] rfl) rfl ?_)
  refine Ao 7 255 rfl (zs 3 h rfl fun w16 h=>Ag (h.pick [] rfl) ?_)
  replace h:=h.pick [2,1,0,3] rfl
  exact qft [(2,_)] ⟨rfl,trivial⟩ (K _ _ ⟨_,_,_,_,_,_,rfl,h⟩)
 rintro e2 w17 ⟨S13,p14,S14,p15,S15,p16,rfl,h⟩
 refine Ad ?_
 obtain rfl:=qb hF
 exact qab qa (ρ:=qn) [GoT.v qn [.slice p16 x1.length x1.length,.slice p15 x2.length x2.length,.slice p14 x3.length x3.length]] h ⟨⟨_,_,_,rfl,rfl,h.box 3 rfl,rfl⟩,trivial⟩ (PV.done h (qaj (qcD (⟨x1,x2,x3⟩:qn) h (qap 2 h rfl) (qap 1 h rfl) (qap 0 h rfl) (by rfl) (by rfl))))
def qjY (_:Nat) (s:qe) (v0:Int):Option Bool :=
 some (s.Bm==v0)
theorem qn2 {s:qe} {v0:Int} (ha1:GoT.R w (old w) s cs1) {p1:Option Addr} (ha2:GoT.R w (old w) (some v0) [.pointer p1]) {r:Bool} (hF:qjY n s v0=some r):RetV Tryz.prog 261 [GoT.v qe cs1,.pointer p1] w r:=by
 obtain rfl:=qX ha1
 obtain ⟨b1,o_1,cs2,rfl,-,hr1,hc1⟩:=PtR.get ha2 rfl
 obtain rfl:=hr1
 exact zV 8 Tryz.func261 rfl fun h=>zSR (qv h rfl rfl fun w1 bb1 h=>X1 6 0 h rfl (zc 0 (hc1.below h.below) rfl (X0 3 rfl (rb h hF rfl))))
def qT (s:(List qe)) (f_0:Int):Nat→Int→Option (Flow Int Int)
 | 0,_=>none
 | n+1,i1 =>
  bif decide (i1<(s.length:Int)) then
   (idx s i1).bind fun y1 =>
   (qjY n y1 f_0).bind fun r1 =>
   bif r1 then some (.ret i1) else
   qT s f_0 n (W64 (i1+1))
  else
   some (.nxt i1)
def qaI (n:Nat) (s:(List qe)) (f_0:Int):Option Int :=
 (qT s f_0 n 0).bind fun o=>match o with
 | .ret r=>some r
 | .nxt _ =>
  some (-1)
theorem qe7 {s:(List qe)} {f_0:Int} (ha1:GoT.R w (old w) s cs1) {p2:Option Addr} (ha2:GoT.R w (old w) (some f_0) [.pointer p2]) {r:Int} (hF:qaI n s f_0=some r):RetV Tryz.prog 260 [GoT.v (List qe) cs1,.func (.func 261) #[] #[.pointer p2]] w r:=by
 obtain ⟨p1,k1,rfl,s1⟩:=ha1
 obtain ⟨b1,o_1,cs2,rfl,-,hr1,hc1⟩:=PtR.get ha2 rfl
 obtain rfl:=hr1
 refine zV 19 Tryz.func260 rfl fun h=>X0 11 rfl ?_
 obtain ⟨o1,hF,hK1⟩:=qd hF
 refine qm (rL (fun m e w'=>∃ (i1:Int),qT s f_0 m i1=some o1∧e=[(0,.slice p1 s.length k1),(1,.func (.func 261) #[] #[.pointer (some ⟨b1,o_1,none⟩)]),(7,.int .i64 (s.length:Int)),(8,.int .i64 i1)]∧SH w w' []) n ⟨_,hF,rfl,h⟩ rfl ?_)
 rintro m1 e1 w1 ⟨i1,hF,rfl,h⟩
 rcases m1 with _|m1
 ·cases hF
 refine X0 5 rfl (qh rfl hF ?_ ?_)<;>intro hF
 ·refine X0 13 rfl ?_
  obtain ⟨y1,hy1,hF,he1,b2,_,q1,cs3,hp1,hq1,hr2,hc3⟩:=s1.ix hF
  obtain rfl:=qX hr2
  refine zxe hp1 hq1 he1 rfl (zc 0 (hc3.below h.below) rfl (zcB h hF (qn2 (qaL y1) (h.old ha2)) rfl fun r1 w2 h hF=>qc6 (qh rfl hF ?_ ?_)))<;>intro hF
  ·refine X0 5 rfl ?_
   obtain rfl:=qb hF;replace hF:=hK1
   exact ri h hF rfl
  exact X0 6 rfl (rK ⟨_,hF,rfl,h⟩ rfl)
 refine qq rfl ?_
 obtain rfl:=qb hF;replace hF:=hK1
 exact X0 4 rfl (ri h hF rfl)
def qjw (n:Nat) (list:(List qe)) (node:Int):Option (qe × Bool) :=
 (qaI n list node).bind fun r1 =>
 bif decide (r1 ≥ 0) then
  (idx list r1).bind fun y1 =>
  some (y1,true)
 else
  some ((⟨0,(⟨0,0⟩:qc),(⟨0,0⟩:qc)⟩:qe),false)
theorem qps {list:(List qe)} {node:Int} (ha1:GoT.R w (old w) list cs1) {r:(qe × Bool)} (hF:qjw n list node=some r):RetV Tryz.prog 221 [GoT.v (List qe) cs1,.int .i64 node] w r:=by
 obtain ⟨p1,k1,rfl,s1⟩:=ha1
 refine zV 17 Tryz.func221 rfl fun h=>zSR (qv h rfl rfl fun w1 bb1 h=>qp qa h rfl rfl rfl fun w2 bb2 h=>X0 7 rfl (zcI h hF (qe7 ⟨_,_,rfl,(h.oldS s1)⟩ (qdu (x:=node) 1 h rfl rfl)) rfl fun r1 w3 h hF=>X0 7 rfl (qh rfl hF ?_ ?_)))<;>intro hF
 ·refine X0 4 rfl ?_
  obtain ⟨y1,hy1,hF,he1,b1,_,q1,cs2,hp1,hq1,hr2,hc2⟩:=s1.ix hF
  obtain rfl:=qX hr2
  refine zxe hp1 hq1 he1 rfl (zc 0 (hc2.below h.below) rfl (zs 0 h rfl fun w4 h=>X0 2 rfl ?_))
  obtain rfl:=qb hF
  exact qab qa (ρ:=(qe × Bool)) [GoT.v qe (qgG y1),GoT.v Bool [.bool true]] h ⟨⟨_,_,_,rfl,rfl,h.box 0 rfl,rfl⟩,rfl,trivial⟩ (PV.done h (qao h (qz (S:=fun _=>False) (qaL y1)) (qaj (qz (S:=fun _=>False) rfl)) (by rfl)))
 refine zKSR (r_v (qW qa [] [] rfl rfl rfl rfl rfl rfl rfl rfl) rfl (zs 0 h rfl fun w5 h=>X0 2 rfl ?_))
 obtain rfl:=qb hF
 exact qab qa (ρ:=(qe × Bool)) [GoT.v qe [.int .i64 0,.int .i64 0,.int .i64 0,.int .i64 0,.int .i64 0],GoT.v Bool [.bool false]] h ⟨⟨_,_,_,rfl,rfl,h.box 0 rfl,rfl⟩,rfl,trivial⟩ (PV.done h (qao h (qz (S:=fun _=>False) (qaL (⟨0,(⟨0,0⟩:qc),(⟨0,0⟩:qc)⟩:qe))) (qaj (qz (S:=fun _=>False) rfl)) (by rfl)))
def qiO (_:Nat) (s:qc) (t:qc):Option qc :=
 some (⟨(if t.Am<s.Am then t.Am else s.Am),(if t.Ay > s.Ay then t.Ay else s.Ay)⟩:qc)
theorem qdF {s:qc} {t:qc} (ha1:GoT.R w (old w) s cs1) (ha2:GoT.R w (old w) t cs2) {r:qc} (hF:qiO n s t=some r):RetV Tryz.prog 262 [GoT.v qc cs1,GoT.v qc cs2] w r:=by
 obtain rfl:=qx ha1
 obtain rfl:=qx ha2
 refine zV 16 Tryz.func262 rfl fun h=>zSR (qv h rfl rfl fun w1 bb1 h=>qv h rfl rfl fun w2 bb2 h=>qp qa h rfl rfl rfl fun w3 bb3 h=>X4 13 2 1 2 1 h rfl (r_v (qW qa [0,1] [.tmp 9,.tmp 14] rfl rfl rfl rfl rfl rfl rfl rfl) rfl (zs 0 h rfl fun w4 h=>qc6 ?_)))
 obtain rfl:=qb hF
 exact qab qa (ρ:=qc) [GoT.v qc [.int .i64 (if t.Am<s.Am then t.Am else s.Am),.int .i64 (if t.Ay > s.Ay then t.Ay else s.Ay)]] h ⟨⟨_,_,_,rfl,rfl,h.box 0 rfl,rfl⟩,trivial⟩ (PV.done h (qaj (qz (S:=fun _=>False) (qA (⟨(if t.Am<s.Am then t.Am else s.Am),(if t.Ay > s.Ay then t.Ay else s.Ay)⟩:qc)))))
def qfQ (n:Nat) (s:qe) (reached:Bool) (arrival:qc) (slew:qc):Option (qe × Bool) :=
 bif (!reached) then some ((⟨s.Bm,(⟨arrival.Am,arrival.Ay⟩:qc),(⟨slew.Am,slew.Ay⟩:qc)⟩:qe),true) else
 (qiO n (⟨s.Af.Am,s.Af.Ay⟩:qc) arrival).bind fun r1 =>
 (qiO n (⟨s.Aq.Am,s.Aq.Ay⟩:qc) slew).bind fun r2 =>
 some ((⟨s.Bm,(⟨r1.Am,r1.Ay⟩:qc),(⟨r2.Am,r2.Ay⟩:qc)⟩:qe),reached)
theorem qjC {n:Nat} {w0 w:World} {F:List Ch} {bb1:Nat} {s:qe} {bb2:Nat} {reached:Bool} {arrival:qc} {slew:qc} (h:SH w0 w (Ch.box bb2 [.bool reached] 4::Ch.box bb1 (qgG s) 140::F)) {r:(qe × Bool)} (hF:qfQ n s reached arrival slew=some r):RetU Tryz.prog 222 [.pointer (some ⟨bb1,0,none⟩),.pointer (some ⟨bb2,0,none⟩),.agg #[.int .i64 arrival.Am,.int .i64 arrival.Ay],.agg #[.int .i64 slew.Am,.int .i64 slew.Ay]] w (fun w'=>SH w0 w' (Ch.box bb2 [.bool r.2] 4::Ch.box bb1 (qgG r.1) 140::F)):=by
 refine qtc Tryz.func222 rfl (m:=40) rfl rfl (zSR (qv h rfl rfl fun w1 bb3 h=>qv h rfl rfl fun w2 bb4 h=>X1 9 2 h rfl (qh rfl hF ?_ ?_)))<;>intro hF
 ·refine qc0 (rA [] [0,1] h rfl fun w3 h=>M2 63 [0,1,2,3,4,5] 1 0 (h.pick [0,1] rfl) rfl (Ao 6 127 rfl (zs 2 h rfl fun w4 h=>G0 511 [7,8] (h.pick [0,1] rfl) rfl (Ao 9 1023 rfl (zs 3 h rfl fun w5 h=>G0 4095 [10,11] (h.pick [0,1] rfl) rfl (Ao 12 8191 rfl (zs 3 h rfl fun w6 h=>Ag (h.pick [0,1] rfl) (Ad ?_))))))))
  obtain rfl:=qb hF
  replace h:=h.pickT 4 [2,3] rfl
  exact qy2 qa h trivial
 refine qhE ?_
 obtain ⟨r1,hr1,hF⟩:=qd hF
 obtain ⟨r2,hr2,hF⟩:=qd hF
 refine qba (fun e w'=>e=[]∧SH w0 w' (Ch.box bb2 [.bool reached] 4::Ch.box bb1 [.int .i64 s.Bm,.int .i64 r1.Am,.int .i64 r1.Ay,.int .i64 r2.Am,.int .i64 r2.Ay] 140::F)) ?_ ?_
 ·refine rA [] [0,1] h rfl fun w11 h=>M2 5983 [0,1,2,3,4,6,8,9,10,12] 1 0 (h.pick [0,1] rfl) rfl (At 5 11 6015 8031 rfl ?_ ?_)
  ·refine zl 3 1 h rfl (Ag (h.pick [0,1] rfl) (At 7 11 6143 8063 rfl ?_ ?_))
   ·refine qee r1 h (cB 262 rfl) (qdF (qA _) (qA arrival) hr1) rfl rfl rfl rfl fun w24 S9 cs9 h=>?_
    obtain rfl:=qx (h.own 0 rfl)
    refine Ag (h.pick [1,2] rfl) (Ao 11 8191 rfl (zl 4 3 h rfl (Ag (h.pick [1,2] rfl) (Ao 13 16383 rfl (qee r2 h (cB 262 rfl) (qdF (qA _) (qA slew) hr2) rfl rfl rfl rfl fun w25 S10 cs10 h=>?_)))))
    obtain rfl:=qx (h.own 0 rfl)
    refine G0 65535 [14,15] (h.pick [2,3] rfl) rfl (Ao 16 131071 rfl (zs 5 h rfl fun w26 h=>G0 524287 [17,18] (h.pick [2,3] rfl) rfl (Ao 19 1048575 rfl (zs 5 h rfl fun w27 h=>Ag (h.pick [2,3] rfl) (Ad ?_)))))
    replace h:=h.pickT 6 [4,5] rfl
    exact rG ⟨rfl,h⟩ rfl
   refine zl 3 3 h rfl (Ag (h.pick [0,1] rfl) (Ao 7 8191 rfl (qee r1 h (cB 262 rfl) (qdF (qA _) (qA arrival) hr1) rfl rfl rfl rfl fun w28 S11 cs11 h=>?_)))
   obtain rfl:=qx (h.own 0 rfl)
   refine Ag (h.pick [1,2] rfl) (Ao 13 16383 rfl (qee r2 h (cB 262 rfl) (qdF (qA _) (qA slew) hr2) rfl rfl rfl rfl fun w29 S12 cs12 h=>?_))
   obtain rfl:=qx (h.own 0 rfl)
   refine G0 65535 [14,15] (h.pick [2,3] rfl) rfl (Ao 16 131071 rfl (zs 5 h rfl fun w30 h=>G0 524287 [17,18] (h.pick [2,3] rfl) rfl (Ao 19 1048575 rfl (zs 5 h rfl fun w31 h=>Ag (h.pick [2,3] rfl) (Ad ?_)))))
   replace h:=h.pickT 6 [4,5] rfl
   exact rG ⟨rfl,h⟩ rfl
  refine zl 3 3 h rfl (Ag (h.pick [0,1] rfl) (Ao 5 8063 rfl (zl 3 1 h rfl (Ag (h.pick [0,1] rfl) (Ao 7 8191 rfl (qee r1 h (cB 262 rfl) (qdF (qA _) (qA arrival) hr1) rfl rfl rfl rfl fun w32 S13 cs13 h=>?_))))))
  obtain rfl:=qx (h.own 0 rfl)
  refine Ag (h.pick [1,2] rfl) (Ao 13 16383 rfl (qee r2 h (cB 262 rfl) (qdF (qA _) (qA slew) hr2) rfl rfl rfl rfl fun w33 S14 cs14 h=>?_))
  obtain rfl:=qx (h.own 0 rfl)
  refine G0 65535 [14,15] (h.pick [2,3] rfl) rfl (Ao 16 131071 rfl (zs 5 h rfl fun w34 h=>G0 524287 [17,18] (h.pick [2,3] rfl) rfl (Ao 19 1048575 rfl (zs 5 h rfl fun w35 h=>Ag (h.pick [2,3] rfl) (Ad ?_)))))
  replace h:=h.pickT 6 [4,5] rfl
  exact rG ⟨rfl,h⟩ rfl
 rintro e1 w36 ⟨rfl,h⟩
 obtain rfl:=qb hF
 exact qyP qa h trivial
def qj1 (_:Nat) (l:qu) (v0:Int):Option Bool :=
 some (l.To==v0)
theorem qod {l:qu} {v0:Int} (ha1:GoT.R w (old w) l cs1) {p1:Option Addr} (ha2:GoT.R w (old w) (some v0) [.pointer p1]) {r:Bool} (hF:qj1 n l v0=some r):RetV Tryz.prog 263 [GoT.v qu cs1,.pointer p1] w r:=by
 obtain rfl:=qa1 ha1
 obtain ⟨b1,o_1,cs2,rfl,-,hr1,hc1⟩:=PtR.get ha2 rfl
 obtain rfl:=hr1
 exact zV 8 Tryz.func263 rfl fun h=>zSR (qv h rfl rfl fun w1 bb1 h=>X1 6 0 h rfl (zc 0 (hc1.below h.below) rfl (X0 3 rfl (rb h hF rfl))))
def qK (is_0:Int) (y1:Tgraph) (y2:Tview):Nat→(List Int)→Int→Option ((List Int) × Int)
 | 0,_,_=>none
 | n+1,x1,i1 =>
  bif decide (i1<(y2.links.length:Int)) then
   (idx y2.links i1).bind fun y3 =>
   (idx y1.live i1).bind fun y4 =>
   bif y4 then
    (qj1 n y3 is_0).bind fun r1 =>
    bif r1 then
     (appS x1 ([i1]:List Int)).bind fun x2 =>
     qK is_0 y1 y2 n x2 (W64 (i1+1))
    else
     qK is_0 y1 y2 n x1 (W64 (i1+1))
   else
    qK is_0 y1 y2 n x1 (W64 (i1+1))
  else
   some (x1,i1)
def qcA (n:Nat) (g:(Option Tgraph)) (is_0:Int):Option (List Int) :=
 (g).bind fun y1 =>
 (y1.view).bind fun y2 =>
 (qK is_0 y1 y2 n ([]:List Int) 0).bind fun o=>match o with
 | (x1,_) =>
  some x1
theorem qhG {g:(Option Tgraph)} {is_0:Int} (ha1:GoT.R w (old w) g cs1) {p2:Option Addr} (ha2:GoT.R w (old w) (some is_0) [.pointer p2]) {r:(List Int)} (hF:qcA n g is_0=some r):RetV Tryz.prog 184 [GoT.v (Option Tgraph) cs1,.func (.func 263) #[] #[.pointer p2]] w r:=by
 obtain ⟨p1,rfl,s1⟩:=qb0 ha1
 obtain ⟨b1,o_1,cs2,rfl,-,hr1,hc1⟩:=PtR.get ha2 rfl
 obtain rfl:=hr1
 refine zV 39 Tryz.func184 rfl fun h=>X0 12 rfl ?_
 obtain ⟨y1,hy1,hF⟩:=qd hF
 obtain ⟨b2,o_2,cs3,rfl,-,hr2,hc2⟩:=PtR.get s1 hy1
 obtain ⟨p3,p4,k1,rfl,s2,s3⟩:=qim hr2
 refine zp2 rfl (zc 0 (hc2.below h.below) rfl ?_)
 obtain ⟨y2,hy2,hF⟩:=qd hF
 obtain ⟨b3,o_3,cs4,rfl,-,hr3,hc3⟩:=PtR.get s2 hy2
 obtain ⟨p5,k2,p6,k3,p7,k4,p8,k5,p9,k6,p10,k7,p11,k8,p12,k9,p13,k10,p14,k11,rfl,s4,s5,s6,s7,s8,s9,s10,s11,s12,s13⟩:=qcE hr3
 refine zp2 rfl (zc 6 (hc3.below h.below) rfl (X0 3 rfl ?_))
 replace h:=h.nil (α:=Int)
 obtain ⟨o1,hF,hK1⟩:=qd hF
 refine qm (rL (fun m e w'=>∃ (S1:Nat→Prop) (p15:Option Addr) (ln1:Nat) (k12:Nat) (x1:(List Int)) (i1:Int),qK is_0 y1 y2 m x1 i1=some o1∧e=[(0,.pointer (some ⟨b2,o_2,none⟩)),(1,.func (.func 263) #[] #[.pointer (some ⟨b1,o_1,none⟩)]),(5,.slice p15 ln1 k12),(14,.slice p11 y2.links.length k8),(15,.int .i64 (y2.links.length:Int)),(16,.int .i64 i1)]∧SH w w' [Ch.own S1 (x1:List Int) [.slice p15 ln1 k12]]) n ⟨_,_,_,_,_,_,hF,rfl,h⟩ rfl ?_)
 rintro m1 e1 w1 ⟨S1,p15,ln1,k12,x1,i1,hF,rfl,h⟩
 obtain rfl:=(h.sl 0 rfl).2
 rcases m1 with _|m1
 ·cases hF
 refine X0 5 rfl (qh rfl hF ?_ ?_)<;>intro hF
 ·refine X0 6 rfl ?_
  obtain ⟨y3,hy3,hF,he1,b4,_,q1,cs5,hp1,hq1,hr4,hc5⟩:=s10.ix hF
  obtain rfl:=qa1 hr4
  refine zxe hp1 hq1 he1 rfl (zc 0 (hc5.below h.below) rfl (qp qa h rfl rfl rfl fun w2 bb1 h=>zp1 rfl (zs 0 h rfl fun w3 h=>X0 6 rfl (zc 1 (hc2.below h.below) rfl (zp1 rfl ?_)))))
  obtain ⟨y4,hy4,hF,he2,b5,_,q2,cs6,hp2,hq2,rfl,hc6⟩:=s3.ix hF
  refine zxe hp2 hq2 he2 rfl (zc 0 (hc6.below h.below) rfl (zp1 rfl (qk (t:=28) hF rfl ?_ ?_)))<;>intro hF
  ·refine X1 5 0 h rfl (zcB h hF (qod (qcc y3) (h.old ha2)) rfl fun r1 w4 h hF=>X0 2 rfl (qh rfl hF ?_ ?_))<;>intro hF
   ·refine X0 3 rfl (qU qa [.tmp 34] _ ([i1]:List Int) h rfl rfl rfl rfl rfl rfl rfl rfl rfl ⟨rfl,trivial⟩ rfl fun w5 p16 S2 h=>?_)
    obtain ⟨x2,hx1,hF⟩:=qd hF
    obtain ⟨g1,hx1⟩:=qaF hx1
    refine qc3 qa 2 h rfl (h.sl 0 rfl).1 (h.sl 0 rfl).2 rfl rfl rfl rfl rfl rfl rfl rfl rfl g1 hx1 rfl fun w6 p17 k13 S3 h=>X0 7 rfl ?_
    replace h:=h.pick [2] rfl
    exact rK ⟨_,_,_,_,_,_,hF,rfl,h⟩ rfl
   refine X0 6 rfl ?_
   replace h:=h.pick [1] rfl
   exact rK ⟨_,_,_,_,_,_,hF,rfl,h⟩ rfl
  refine X0 5 rfl (qcj rfl rfl (X0 6 rfl ?_))
  replace h:=h.pick [1] rfl
  exact rK ⟨_,_,_,_,_,_,hF,rfl,h⟩ rfl
 refine qq rfl ?_
 obtain rfl:=qb hF;replace hF:=hK1
 refine X0 5 rfl ?_
 obtain rfl:=qb hF
 exact rO 0 h rfl ⟨rfl,trivial⟩
def qjx (n:Nat) (g:(Option Tgraph)) (node:Int):Option (List Int) :=
 (qcA n g node).bind fun r1 =>
 some r1
theorem qpz {g:(Option Tgraph)} {node:Int} (ha1:GoT.R w (old w) g cs1) {r:(List Int)} (hF:qjx n g node=some r):RetV Tryz.prog 223 [GoT.v (Option Tgraph) cs1,.int .i64 node] w r:=by
 obtain ⟨p1,rfl,s1⟩:=qb0 ha1
 refine zV 8 Tryz.func223 rfl fun h=>zSR (qv h rfl rfl fun w1 bb1 h=>X0 6 rfl (zcL h hF (qhG (h.old s1) (qdu (x:=node) 0 h rfl rfl)) rfl fun r1 w2 S1 p2 k1 h hF=>X0 2 rfl ?_))
 obtain rfl:=qb hF
 exact rO 0 h rfl ⟨rfl,trivial⟩
def qeZ (_:Nat) (v:(Option Tview)) (l:qu):Option Int :=
 (v).bind fun y1 =>
 (idx y1.places (W64 (l.To.tdiv 2))).bind fun y2 =>
 some y2.net
theorem qia {v:(Option Tview)} {l:qu} (ha1:GoT.R w (old w) v cs1) (ha2:GoT.R w (old w) l cs2) {r:Int} (hF:qeZ n v l=some r):RetV Tryz.prog 264 [GoT.v (Option Tview) cs1,GoT.v qu cs2] w r:=by
 obtain ⟨p1,rfl,s1⟩:=qb0 ha1
 obtain rfl:=qa1 ha2
 refine zV 15 Tryz.func264 rfl fun h=>zSR (qv h rfl rfl fun w1 bb1 h=>X0 3 rfl (rD (zd1 rfl ?_)))
 obtain ⟨y1,hy1,hF⟩:=qd hF
 obtain ⟨b1,o_1,cs3,rfl,-,hr1,hc1⟩:=PtR.get s1 hy1
 obtain ⟨p2,k1,p3,k2,p4,k3,p5,k4,p6,k5,p7,k6,p8,k7,p9,k8,p10,k9,p11,k10,rfl,s2,s3,s4,s5,s6,s7,s8,s9,s10,s11⟩:=qcE hr1
 refine zd2 rfl (zdc 5 (hc1.below h.below) rfl (Y1 2 0 h rfl ?_))
 refine zd1 rfl ?_
 obtain ⟨y2,hy2,hF,he1,b2,_,q1,cs4,hp1,hq1,hr2,hc2⟩:=s7.ix hF
 obtain rfl:=qhk hr2
 exact zdxe hp1 hq1 he1 rfl (zd1 rfl (zdc 2 (hc2.below h.below) rfl (zd1 rfl (dN h fun w2 h=>ri h hF rfl))))
def qgl (_:Nat) (v:(Option Tview)) (l:qu):Option qG :=
 (v).bind fun y1 =>
 (idx y1.places (W64 (l.To.tdiv 2))).bind fun y2 =>
 (idx y1.Bv.Aa.Ab y2.instance_).bind fun y3 =>
 (idx y1.Bv.Ar.Ap y3.Bp).bind fun y4 =>
 (idx y4.As l.Bu).bind fun y5 =>
 some y5
theorem qkR {A:Nat→Prop} (hA:∀ b,A b→old w b) {v:(Option Tview)} {l:qu} (ha1:GoT.R w A v cs1) (ha2:GoT.R w A l cs2) {r:qG} (hF:qgl n v l=some r):RetG Tryz.prog 282 [GoT.v (Option Tview) cs1,GoT.v qu cs2] w A r:=by
 obtain ⟨p1,rfl,s1⟩:=qb0 ha1
 obtain rfl:=qa1 ha2
 have hg:=Rg.start hA
 refine qpP Tryz.func282 rfl (m:=39) rfl rfl (fun h=>?_)
 refine zSR (qv h rfl rfl fun w1 bb1 h=>qp qa h rfl rfl rfl fun w2 bb2 h=>zNS (rA [] [1] h rfl fun w3 h=>M0 1 [0] (h.pick [1] rfl) rfl ?_))
 obtain ⟨y1,hy1,hF⟩:=qd hF
 obtain ⟨b1,o_1,cs3,rfl,-,hr1,hc1⟩:=PtR.get s1 hy1
 obtain ⟨p2,k1,p3,k2,p4,k3,p5,k4,p6,k5,p7,k6,p8,k7,p9,k8,p10,k9,p11,k10,rfl,s2,s3,s4,s5,s6,s7,s8,s9,s10,s11⟩:=qcE hr1
 refine M0 31 [1,2,3,4] (h.pick [1] rfl) rfl (Al 5 63 1 hc1 (h.pick [1] rfl) rfl (M0 511 [6,7,8] (h.pick [1] rfl) rfl (Al 9 1023 5 hc1 (h.pick [1] rfl) rfl (M1 8191 [10,11,12] 0 (h.pick [1] rfl) rfl ?_))))
 obtain ⟨y2,hy2,hF,he1,b2,_,q1,cs4,hp1,hq1,hr2,hc2⟩:=s7.ix hF
 obtain rfl:=qhk hr2
 refine Ae 13 16383 hp1 hq1 he1 (h.pick [1] rfl) rfl (M0 32767 [14] (h.pick [1] rfl) rfl (Al 15 65535 0 hc2 (h.pick [1] rfl) rfl ?_))
 obtain ⟨y3,hy3,hF,he2,b3,_,q2,cs5,hp2,hq2,hr3,hc3⟩:=s3.ix hF
 obtain ⟨p12,k11,rfl,s12⟩:=qO hr3
 refine Ae 16 131071 hp2 hq2 he2 (h.pick [1] rfl) rfl (Al 17 262143 0 hc3 (h.pick [1] rfl) rfl (Ao 18 524287 rfl (qp qa h rfl rfl rfl fun w4 bb3 h=>Ag (h.pick [2] rfl) (Ao 19 1048575 rfl (zs 0 h rfl fun w5 h=>Ag (h.pick [2] rfl) (Ad (qc0 (rA [] [0,2] h rfl fun w6 h=>M0 31 [0,1,2,3,4] (h.pick [0,2] rfl) rfl (Al 5 63 0 hc1 (h.pick [0,2] rfl) rfl (M1 255 [6,7] 0 (h.pick [0,2] rfl) rfl ?_))))))))))
 obtain ⟨y4,hy4,hF,he3,b4,_,q3,cs6,hp3,hq3,hr4,hc4⟩:=s2.ix hF
 obtain ⟨p13,k12,p14,k13,p15,k14,rfl,s13,s14,s15⟩:=qae hr4
 refine Ae 8 511 hp3 hq3 he3 (h.pick [0,2] rfl) rfl (M0 1023 [9] (h.pick [0,2] rfl) rfl (Al 10 2047 3 hc4 (h.pick [0,2] rfl) rfl (M1 8191 [11,12] 1 (h.pick [0,2] rfl) rfl ?_)))
 obtain ⟨y5,hy5,hF,he4,b5,_,q4,cs7,hp4,hq4,hr5,hc5⟩:=s14.ix hF
 obtain ⟨p16,k15,p17,k16,rfl,s16,s17⟩:=qai hr5
 refine Ae 13 16383 hp4 hq4 he4 (h.pick [0,2] rfl) rfl (Al 14 32767 0 hc5 (h.pick [0,2] rfl) rfl (Ao 15 65535 rfl (zs 1 h rfl fun w7 h=>Ag (h.pick [0,2] rfl) (Ad ?_))))
 obtain rfl:=qb hF
 have hv1:GoRs.Rs (ρ:=qG) h.wc (reg A w h.wc) y5 [GoT.v qG (qhb y5 p16 p17 k15 k16)]:=⟨_,rfl,(hg.outR h (qfR y5 (hg.inS h s16) (hg.inS h s17)))⟩
 exact qxr qa (ρ:=qG) (r:=y5) [GoT.v qG (qhb y5 p16 p17 k15 k16)] h ⟨⟨_,_,_,rfl,rfl,h.box 1 rfl,rfl⟩,trivial⟩ hv1
def qfh (_:Nat) (a:Int) (b:Int) (mode:Int):Option Int :=
 (quoS a b).bind fun y1 =>
 (remS a b).bind fun y2 =>
 (
  bif (mode==0) then some (decide (y2<0)) else
  some false).bind fun b1 =>
 bif b1 then some (W64 (y1-1)) else
 bif (mode==1) then
  bif decide (y2 > 0) then some (W64 (y1+1)) else
  some y1
 else
  some y1
theorem qiK {a:Int} {b:Int} {mode:Int}  {r:Int} (hF:qfh n a b mode=some r):RetV Tryz.prog 284 [.int .i64 a,.int .i64 b,.int .i64 mode] w r:=by
 refine zV 34 Tryz.func284 rfl fun h=>X0 5 rfl (rD (zd2 rfl ?_))
 obtain ⟨y1,hx1,hF⟩:=qd hF
 obtain ⟨g1,hx1⟩:=qrY hx1
 refine d_v (fun _ hb=>qyE g1 rfl rfl) rfl ?_
 rw [hx1]
 refine zd2 rfl ?_
 obtain ⟨y2,hx2,hF⟩:=qd hF
 obtain ⟨g2,hx2⟩:=qrP hx2
 refine d_v (fun _ hb=>qyD g2 rfl rfl) rfl ?_
 rw [hx2]
 refine zd2 rfl (dN h fun w1 h=>X0 3 rfl ?_)
 obtain ⟨KF1,hKF1,o1,hF,hK1⟩:=bindE hF
 refine qba (fun e w'=>∃ (b1:Bool),KF1 b1=some r∧e=[(2,.int .i64 mode),(7,.int .i64 y1),(8,.int .i64 y2),(15,.bool b1)]∧SH w w' []) ?_ ?_
 ·refine X0 4 rfl (qk (t:=18) hF rfl ?_ ?_)<;>intro hF
  ·refine X0 7 rfl ?_
   obtain rfl:=qb hF
   exact rG ⟨_,hK1,rfl,h⟩ rfl
  refine X0 5 rfl ?_
  obtain rfl:=qb hF
  exact rG ⟨_,hK1,rfl,h⟩ rfl
 rintro e1 w2 ⟨b1,hF,rfl,h⟩
 subst hKF1
 refine qh rfl hF ?_ ?_<;>intro hF
 ·exact X0 6 rfl (ri h hF rfl)
 refine X0 5 rfl (qk (t:=27) hF rfl ?_ ?_)<;>intro hF
 ·refine X0 7 rfl (qh rfl hF ?_ ?_)<;>intro hF
  ·exact X0 6 rfl (ri h hF rfl)
  exact X0 7 rfl (ri h hF rfl)
 exact X0 5 rfl (qcj rfl rfl (X0 7 rfl (ri h hF rfl)))
def qkL (n:Nat) (x:Int) (y:Int):Option Bool :=
 (qh0 n x).bind fun r1 =>
 bif r1 then
  (qh0 n y).bind fun r2 =>
  bif (!r2) then some true else
  some (decide (x<y))
 else
  some (decide (x<y))
theorem qos {x:Int} {y:Int}  {r:Bool} (hF:qkL n x y=some r):RetV Tryz.prog 337 [.int .i64 x,.int .i64 y] w r:=by
 refine zV 17 Tryz.func337 rfl fun h=>X0 7 rfl (zcB h hF qkD rfl fun r1 w1 h hF=>zp1 rfl (qk (t:=7) hF rfl ?_ ?_))<;>intro hF
 ·refine X0 3 rfl (zcB h hF qkD rfl fun r2 w2 h hF=>X0 4 rfl (qk (t:=12) hF rfl ?_ ?_))<;>intro hF
  ·exact X0 6 rfl (rb h hF rfl)
  exact X0 9 rfl (rb h hF rfl)
 exact X0 14 rfl (rb h hF rfl)
def qgd (_:Nat) (x:Int):Option Bool :=
 some (x != x)
theorem qi0 {x:Int}  {r:Bool} (hF:qgd n x=some r):RetV Tryz.prog 338 [.int .i64 x] w r:=by
 exact zV 6 Tryz.func338 rfl fun h=>X0 11 rfl (rb h hF rfl)
def qaw (x:(List Int)) (target:Int):Nat→Int→Int→Option (Int × Int)
 | 0,_,_=>none
 | n+1,i1,i2 =>
  bif decide (i1<i2) then
   (shrS .u64 (IntKind.wrap .u64 (W64 (i1+i2))) 1).bind fun y1 =>
   (idx x (W64 y1)).bind fun y2 =>
   (qkL n y2 target).bind fun r1 =>
   bif r1 then qaw x target n (W64 ((W64 y1)+1)) i2 else
   qaw x target n i1 (W64 y1)
  else
   some (i1,i2)
def qc4 (n:Nat) (x:(List Int)) (target:Int):Option (Int × Bool) :=
 (qaw x target n 0 (x.length:Int)).bind fun o=>match o with
 | (i1,_) =>
  bif decide (i1<(x.length:Int)) then
   (idx x i1).bind fun y3 =>
   bif (y3==target) then some (i1,true) else
   (idx x i1).bind fun y4 =>
   (qgd n y4).bind fun r2 =>
   bif r2 then
    (qgd n target).bind fun r3 =>
    some (i1,r3)
   else
    some (i1,false)
  else
   some (i1,false)
theorem qjZ {x:(List Int)} {target:Int} (ha1:GoT.R w (old w) x cs1) {r:(Int × Bool)} (hF:qc4 n x target=some r):RetV Tryz.prog 324 [GoT.v (List Int) cs1,.int .i64 target] w r:=by
 obtain ⟨p1,k1,rfl,s1⟩:=ha1
 refine zV 54 Tryz.func324 rfl fun h=>X0 18 rfl ?_
 obtain ⟨o1,hF,hK1⟩:=qd hF
 refine qm (rL (fun m e w'=>∃ (i1:Int) (i2:Int),qaw x target m i1 i2=some o1∧e=[(0,.slice p1 x.length k1),(1,.int .i64 target),(6,.int .i64 (x.length:Int)),(7,.int .i64 i1),(8,.int .i64 i2)]∧SH w w' []) n ⟨_,_,hF,rfl,h⟩ rfl ?_)
 rintro m1 e1 w1 ⟨i1,i2,hF,rfl,h⟩
 rcases m1 with _|m1
 ·cases hF
 refine X0 7 rfl (qh rfl hF ?_ ?_)<;>intro hF
 ·refine X0 8 rfl ?_
  obtain ⟨y1,hx1,hF⟩:=qd hF
  obtain ⟨g1,hx1⟩:=qwg hx1
  refine r_v (qzo g1 rfl rfl) rfl ?_
  rw [hx1]
  refine X0 7 rfl ?_
  obtain ⟨y2,hy1,hF,he1,b1,_,q1,cs2,hp1,hq1,rfl,hc2⟩:=s1.ix hF
  refine zxe hp1 hq1 he1 rfl (zc 0 (hc2.below h.below) rfl (zp1 rfl (zcB h hF qos rfl fun r1 w2 h hF=>qc6 (qh rfl hF ?_ ?_))))<;>intro hF
  ·exact X0 6 rfl (rK ⟨_,_,hF,rfl,h⟩ rfl)
  exact X0 5 rfl (rK ⟨_,_,hF,rfl,h⟩ rfl)
 refine qq rfl ?_
 obtain rfl:=qb hF;replace hF:=hK1
 refine X0 7 rfl (qk (t:=35) hF rfl ?_ ?_)<;>intro hF
 ·refine X0 5 rfl ?_
  obtain ⟨y3,hy2,hF,he2,b2,_,q2,cs3,hp2,hq2,rfl,hc4⟩:=s1.ix hF
  refine zxe hp2 hq2 he2 rfl (X0 1 rfl (zc 0 (hc4.below h.below) rfl (X0 6 rfl (qk (t:=42) hF rfl ?_ ?_))))<;>intro hF
  ·refine X0 15 rfl ?_
   obtain rfl:=qb hF
   exact qab qa (ρ:=(Int × Bool)) [GoT.v Int [.int .i64 i1],GoT.v Bool [.bool true]] h ⟨rfl,rfl,trivial⟩ (PV.done h (qao h (qz (S:=fun _=>False) rfl) (qaj (qz (S:=fun _=>False) rfl)) (by rfl)))
  refine X0 5 rfl ?_
  obtain ⟨y4,hy3,hF,he3,b3,_,q3,cs4,hp3,hq3,rfl,hc5⟩:=s1.ix hF
  refine zxe hp3 hq3 he3 rfl (X0 1 rfl (zc 0 (hc5.below h.below) rfl (X0 1 rfl (zcB h hF qi0 rfl fun r2 w3 h hF=>X0 2 rfl (qk (t:=48) hF rfl ?_ ?_)))))<;>intro hF
  ·refine X0 3 rfl (zcB h hF qi0 rfl fun r3 w4 h hF=>X0 8 rfl ?_)
   obtain rfl:=qb hF
   exact qab qa (ρ:=(Int × Bool)) [GoT.v Int [.int .i64 i1],GoT.v Bool [.bool r3]] h ⟨rfl,rfl,trivial⟩ (PV.done h (qao h (qz (S:=fun _=>False) rfl) (qaj (qz (S:=fun _=>False) rfl)) (by rfl)))
  refine X0 10 rfl ?_
  obtain rfl:=qb hF
  exact qab qa (ρ:=(Int × Bool)) [GoT.v Int [.int .i64 i1],GoT.v Bool [.bool false]] h ⟨rfl,rfl,trivial⟩ (PV.done h (qao h (qz (S:=fun _=>False) rfl) (qaj (qz (S:=fun _=>False) rfl)) (by rfl)))
 refine X0 21 rfl ?_
 obtain rfl:=qb hF
 exact qab qa (ρ:=(Int × Bool)) [GoT.v Int [.int .i64 i1],GoT.v Bool [.bool false]] h ⟨rfl,rfl,trivial⟩ (PV.done h (qao h (qz (S:=fun _=>False) rfl) (qaj (qz (S:=fun _=>False) rfl)) (by rfl)))
def qhl (n:Nat) (axis:(List Int)) (x:Int):Option ((List Tweight) × Int) :=
 (idx axis 0).bind fun y1 =>
 (idx axis (W64 ((axis.length:Int)-1))).bind fun y2 =>
 (qc4 n axis (if y2<(if y1 > x then y1 else x) then y2 else (if y1 > x then y1 else x))).bind fun o=>match o with
  | (r2,r3) =>
   bif r3 then some (([(⟨r2,1⟩:Tweight)]:List Tweight),1) else
   (idx axis r2).bind fun y3 =>
   (idx axis (W64 (r2-1))).bind fun y4 =>
   (idx axis r2).bind fun y5 =>
   (idx axis (W64 (r2-1))).bind fun y6 =>
   some (([(⟨W64 (r2-1),W64 (y3-(if y2<(if y1 > x then y1 else x) then y2 else (if y1 > x then y1 else x)))⟩:Tweight),(⟨r2,W64 ((if y2<(if y1 > x then y1 else x) then y2 else (if y1 > x then y1 else x))-y4)⟩:Tweight)]:List Tweight),W64 (y5-y6))
theorem qmA {axis:(List Int)} {x:Int} (ha1:GoT.R w (old w) axis cs1) {r:((List Tweight) × Int)} (hF:qhl n axis x=some r):RetV Tryz.prog 309 [GoT.v (List Int) cs1,.int .i64 x] w r:=by
 obtain ⟨p1,k1,rfl,s1⟩:=ha1
 refine zV 59 Tryz.func309 rfl fun h=>X0 6 rfl (rD (zd2 rfl ?_))
 obtain ⟨y1,hy1,hF,he1,b1,_,q1,cs2,hp1,hq1,rfl,hc1⟩:=s1.ix hF
 refine zdxe hp1 hq1 he1 rfl (zdc 0 (hc1.below h.below) rfl (zd5 rfl ?_))
 obtain ⟨y2,hy2,hF,he2,b2,_,q2,cs3,hp2,hq2,rfl,hc2⟩:=s1.ix hF
 refine zdxe hp2 hq2 he2 rfl (zdc 0 (hc2.below h.below) rfl (zd2 rfl (dN h fun w1 h=>X0 4 rfl ?_)))
 obtain ⟨r1,hr3,hF⟩:=qd hF
 obtain ⟨r2,r3⟩:=r1
 refine qaP (r2,r3) h (cB 324 rfl) (qjZ ⟨_,_,rfl,(h.oldS s1)⟩ hr3) rfl rfl rfl rfl fun w2 S1 us1 hv1 hr4=>?_
 obtain ⟨S2,us2,rfl,hv2,hr5⟩:=hv1.consI hr4
 obtain ⟨rfl,h⟩:=hv2.lastB hr5
 refine X0 11 rfl (qh rfl hF ?_ ?_)<;>intro hF
 ·refine X0 3 rfl (r_v (qW qa [0,1] [.tmp 27,.const (.int .i64 (1))] rfl rfl rfl rfl rfl rfl rfl rfl) rfl (qU qa [.tmp 28] _ ([(⟨r2,1⟩:Tweight)]:List Tweight) h rfl rfl rfl rfl rfl rfl rfl rfl rfl ⟨(qnm (⟨r2,1⟩:Tweight)),trivial⟩ rfl fun w3 p2 S4 h=>X0 3 rfl ?_))
  obtain rfl:=qb hF
  exact qab qa (ρ:=((List Tweight) × Int)) [GoT.v (List Tweight) [.slice p2 1 1],GoT.v Int [.int .i64 1]] h ⟨rfl,rfl,trivial⟩ (PV.done h (qao h (qap 0 h rfl) (qaj (qz (S:=fun _=>False) rfl)) (by rfl)))
 refine zKS (rA [] [] h rfl fun w4 h=>M0 15 [0,1,2,3] (h.pick [] rfl) rfl ?_)
 obtain ⟨y3,hy3,hF,he3,b3,_,q3,cs4,hp3,hq3,rfl,hc4⟩:=s1.ix hF
 refine Ae 4 31 hp3 hq3 he3 (h.pick [] rfl) rfl (Al 5 63 0 hc4 (h.pick [] rfl) rfl (M0 255 [6,7] (h.pick [] rfl) rfl (Aw 8 511 (fun w' hw=>qW qa [0,1] [.tmp 31,.tmp 37] rfl rfl rfl rfl rfl rfl rfl rfl) (h.pick [] rfl) rfl ?_)))
 refine M0 16383 [9,10,11,12,13] (h.pick [] rfl) rfl ?_
 obtain ⟨y4,hy4,hF,he4,b4,_,q4,cs5,hp4,hq4,rfl,hc5⟩:=s1.ix hF
 refine Ae 14 32767 hp4 hq4 he4 (h.pick [] rfl) rfl (Al 15 65535 0 hc5 (h.pick [] rfl) rfl (M0 131071 [16] (h.pick [] rfl) rfl (Aw 17 262143 (fun w' hw=>qW qa [0,1] [.tmp 39,.tmp 46] rfl rfl rfl rfl rfl rfl rfl rfl) (h.pick [] rfl) rfl ?_)))
 refine M0 1835007 [19,20] (h.pick [] rfl) rfl ?_
 obtain ⟨y5,hy5,hF,he5,b5,_,q5,cs6,hp5,hq5,rfl,hc6⟩:=s1.ix hF
 refine Ae 21 3932159 hp5 hq5 he5 (h.pick [] rfl) rfl (Al 22 8126463 0 hc6 (h.pick [] rfl) rfl (M0 66846719 [23,24,25] (h.pick [] rfl) rfl ?_))
 obtain ⟨y6,hy6,hF,he6,b6,_,q6,cs7,hp6,hq6,rfl,hc7⟩:=s1.ix hF
 refine Ae 26 133955583 hp6 hq6 he6 (h.pick [] rfl) rfl (Al 27 268173311 0 hc7 (h.pick [] rfl) rfl (M0 536608767 [28] (h.pick [] rfl) rfl (Ao 18 536870911 rfl (qU qa [.tmp 38,.tmp 47] _ ([(⟨W64 (r2-1),W64 (y3-(if y2<(if y1 > x then y1 else x) then y2 else (if y1 > x then y1 else x)))⟩:Tweight),(⟨r2,W64 ((if y2<(if y1 > x then y1 else x) then y2 else (if y1 > x then y1 else x))-y4)⟩:Tweight)]:List Tweight) h rfl rfl rfl rfl rfl rfl rfl rfl rfl ⟨(qnm (⟨W64 (r2-1),W64 (y3-(if y2<(if y1 > x then y1 else x) then y2 else (if y1 > x then y1 else x)))⟩:Tweight)),(qnm (⟨r2,W64 ((if y2<(if y1 > x then y1 else x) then y2 else (if y1 > x then y1 else x))-y4)⟩:Tweight)),trivial⟩ rfl fun w5 p3 S5 h=>G0 2147483647 [29,30] (h.pick [] rfl) rfl (Ad ?_)))))
 obtain rfl:=qb hF
 exact qab qa (ρ:=((List Tweight) × Int)) [GoT.v (List Tweight) [.slice p3 2 2],GoT.v Int [.int .i64 (W64 (y5-y6))]] h ⟨rfl,rfl,trivial⟩ (PV.done h (qao h (qap 0 h rfl) (qaj (qz (S:=fun _=>False) rfl)) (by rfl)))
def qa3 (a_0:qt) (r5:(List Tweight)) (y1:Tweight):Nat→Int→Int→Option (Int × Int)
 | 0,_,_=>none
 | n+1,i3,i4 =>
  bif decide (i4<(r5.length:Int)) then
   (idx r5 i4).bind fun y2 =>
   (idx a_0.Ba (W64 ((W64 (y1.index*(a_0.Bb.length:Int)))+y2.index))).bind fun y3 =>
   qa3 a_0 r5 y1 n (W64 (i3+(W64 ((W64 (y3*y1.part))*y2.part)))) (W64 (i4+1))
  else
   some (i3,i4)
def qa7 (a_0:qt) (r2:(List Tweight)) (r5:(List Tweight)):Nat→Int→Int→Option (Int × Int)
 | 0,_,_=>none
 | n+1,i1,i2 =>
  bif decide (i2<(r2.length:Int)) then
   (idx r2 i2).bind fun y1 =>
   (qa3 a_0 r5 y1 n i1 0).bind fun o=>match o with
   | (i3,_) =>
    qa7 a_0 r2 r5 n i3 (W64 (i2+1))
  else
   some (i1,i2)
def qdG (n:Nat) (a_0:qt) (a_1:Int) (a_2:Int) (a_3:Int):Option Int :=
 (qhl n a_0.Bi a_1).bind fun o=>match o with
  | (r2,r3) =>
   (qhl n a_0.Bb a_2).bind fun o=>match o with
    | (r5,r6) =>
     (qa7 a_0 r2 r5 n 0 0).bind fun o=>match o with
     | (i1,_) =>
      (qfh n i1 (W64 (r3*r6)) a_3).bind fun r7 =>
      some r7
theorem qjy {a_0:qt} {a_1:Int} {a_2:Int} {a_3:Int} (ha1:GoT.R w (old w) a_0 cs1) {r:Int} (hF:qdG n a_0 a_1 a_2 a_3=some r):RetV Tryz.prog 283 [GoT.v qt cs1,.int .i64 a_1,.int .i64 a_2,.int .i64 a_3] w r:=by
 obtain ⟨p1,k1,p2,k2,p3,k3,rfl,s1,s2,s3⟩:=qaG ha1
 refine zV 73 Tryz.func283 rfl fun h=>zSR (qv h rfl rfl fun w1 bb1 h=>X1 7 0 h rfl ?_)
 obtain ⟨r1,hr1,hF⟩:=qd hF
 obtain ⟨r2,r3⟩:=r1
 refine qaP (r2,r3) h (cB 309 rfl) (qmA ⟨_,_,rfl,(h.oldS s1)⟩ hr1) rfl rfl rfl rfl fun w2 S1 us1 hv1 hr2=>?_
 obtain ⟨S2,S3,p4,k4,us2,rfl,hv2,hr3⟩:=hv1.consL hr2
 obtain ⟨rfl,h⟩:=hv2.lastI hr3
 refine X1 11 1 h rfl ?_
 obtain ⟨r4,hr5,hF⟩:=qd hF
 obtain ⟨r5,r6⟩:=r4
 refine qaP (r5,r6) h (cB 309 rfl) (qmA ⟨_,_,rfl,(h.oldS s2)⟩ hr5) rfl rfl rfl rfl fun w3 S5 us3 hv4 hr6=>?_
 obtain ⟨S6,S7,p5,k5,us4,rfl,hv5,hr7⟩:=hv4.consL hr6
 obtain ⟨rfl,h⟩:=hv5.lastI hr7
 refine X0 17 rfl ?_
 obtain ⟨o1,hF,hK1⟩:=qd hF
 refine qm (rL (fun m e w'=>∃ (i1:Int) (i2:Int),qa7 a_0 r2 r5 m i1 i2=some o1∧e=[(3,.int .i64 a_3),(4,.pointer (some ⟨bb1,0,none⟩)),(10,.int .i64 r3),(11,.slice p5 r5.length k5),(12,.int .i64 r6),(13,.int .i64 i1),(32,.slice p4 r2.length k4),(33,.int .i64 (r2.length:Int)),(34,.int .i64 i2)]∧SH w w' [Ch.own S6 (r5:List Tweight) [.slice p5 r5.length k5],Ch.own S2 (r2:List Tweight) [.slice p4 r2.length k4],Ch.box bb1 (qhj a_0 p1 p2 p3 k1 k2 k3) 329]) n ⟨_,_,hF,rfl,h⟩ rfl ?_)
 rintro m1 e1 w4 ⟨i1,i2,hF,rfl,h⟩
 rcases m1 with _|m1
 ·cases hF
 refine X0 5 rfl (qh rfl hF ?_ ?_)<;>intro hF
 ·refine zKSBSR ?_
  obtain ⟨y1,hy1,hF,he1,b1,_,q1,cs2,hp1,hq1,hr9,hc2⟩:=(h.sl 1 rfl).1.ix hF
  obtain rfl:=qon hr9
  refine zx hp1 hq1 ⟨he1.1,qD he1.2.1 (h.sl 1 rfl).2⟩ rfl (zc 0 hc2 rfl (qp qa h rfl rfl rfl fun w5 bb2 h=>zs 0 h rfl fun w6 h=>X0 7 rfl ?_))
  obtain ⟨o2,hF,hK2⟩:=qd hF
  refine qm (rL (fun m e w'=>∃ (i3:Int) (i4:Int),qa3 a_0 r5 y1 m i3 i4=some o2∧e=[(3,.int .i64 a_3),(4,.pointer (some ⟨bb1,0,none⟩)),(10,.int .i64 r3),(11,.slice p5 r5.length k5),(12,.int .i64 r6),(13,.int .i64 i3),(15,.pointer (some ⟨bb2,0,none⟩)),(32,.slice p4 r2.length k4),(33,.int .i64 (r2.length:Int)),(34,.int .i64 i2),(38,.slice p5 r5.length k5),(39,.int .i64 (r5.length:Int)),(40,.int .i64 i4)]∧SH w w' [Ch.box bb2 (qpL y1) 397,Ch.own S6 (r5:List Tweight) [.slice p5 r5.length k5],Ch.own S2 (r2:List Tweight) [.slice p4 r2.length k4],Ch.box bb1 (qhj a_0 p1 p2 p3 k1 k2 k3) 329]) m1 ⟨_,_,hF,rfl,h⟩ rfl ?_)
  rintro m2 e2 w7 ⟨i3,i4,hF,rfl,h⟩
  rcases m2 with _|m2
  ·cases hF
  refine X0 5 rfl (qh rfl hF ?_ ?_)<;>intro hF
  ·refine zKSBSR ?_
   obtain ⟨y2,hy2,hF,he2,b2,_,q2,cs3,hp2,hq2,hr10,hc4⟩:=(h.sl 1 rfl).1.ix hF
   obtain rfl:=qon hr10
   refine zx hp2 hq2 ⟨he2.1,qD he2.2.1 (h.sl 1 rfl).2⟩ rfl (zc 0 hc4 rfl (qp qa h rfl rfl rfl fun w8 bb3 h=>zs 0 h rfl fun w9 h=>qc6 (rD (Y1 3 4 h rfl ?_))))
   refine Y1 2 1 h rfl ?_
   refine Y1 2 4 h rfl ?_
   refine Y1 4 0 h rfl ?_
   refine zd1 rfl ?_
   obtain ⟨y3,hy3,hF,he3,b3,_,q3,cs4,hp3,hq3,rfl,hc5⟩:=s3.ix hF
   refine zdxe hp3 hq3 he3 rfl (zdc 0 (hc5.below h.below) rfl (Y1 2 1 h rfl ?_))
   refine Y1 3 0 h rfl ?_
   refine zd3 rfl (dN h fun w10 h=>X0 5 rfl ?_)
   replace h:=h.pick [1,2,3,4] rfl
   exact rK ⟨_,_,hF,rfl,h⟩ rfl
  refine qq rfl ?_
  obtain rfl:=qb hF;replace hF:=hK2
  refine X0 5 rfl ?_
  replace h:=h.pick [1,2,3] rfl
  exact rK ⟨_,_,hF,rfl,h⟩ rfl
 refine qq rfl ?_
 obtain rfl:=qb hF;replace hF:=hK1
 exact X0 7 rfl (zcI h hF qiK rfl fun r7 w11 h hF=>X0 2 rfl (ri h hF rfl))
def qk1 (n:Nat) (t:Int) (thousandths:Int) (mode:Int):Option Int :=
 (qfh n (W64 (t*thousandths)) 1000 mode).bind fun r1 =>
 some r1
theorem qnZ {t:Int} {thousandths:Int} {mode:Int}  {r:Int} (hF:qk1 n t thousandths mode=some r):RetV Tryz.prog 285 [.int .i64 t,.int .i64 thousandths,.int .i64 mode] w r:=by
 exact zV 12 Tryz.func285 rfl fun h=>X0 10 rfl (zcI h hF qiK rfl fun r1 w1 h hF=>X0 2 rfl (ri h hF rfl))
def qeI (_:Nat) (c:qy) (kind:Int) (mode:Int):Option Int :=
 (
  bif (kind==1) then some (mode==0) else
  some false).bind fun b1 =>
 bif b1 then some c.Bc else
 bif (kind==1) then some c.Bf else
 bif (mode==0) then some c.Bd else
 some c.Bg
theorem qi1 {c:qy} {kind:Int} {mode:Int} (ha1:GoT.R w (old w) c cs1) {r:Int} (hF:qeI n c kind mode=some r):RetV Tryz.prog 286 [GoT.v qy cs1,.int .i64 kind,.int .i64 mode] w r:=by
 obtain rfl:=qah ha1
 refine zV 28 Tryz.func286 rfl fun h=>zSR (qv h rfl rfl fun w1 bb1 h=>X0 5 rfl ?_)
 obtain ⟨KF1,hKF1,o1,hF,hK1⟩:=bindE hF
 refine qba (fun e w'=>∃ (b1:Bool),KF1 b1=some r∧e=[(1,.int .i64 kind),(2,.int .i64 mode),(3,.pointer (some ⟨bb1,0,none⟩)),(7,.bool b1)]∧SH w w' [Ch.box bb1 (qaq c) 77]) ?_ ?_
 ·refine X0 4 rfl (qk (t:=10) hF rfl ?_ ?_)<;>intro hF
  ·refine X0 7 rfl ?_
   obtain rfl:=qb hF
   exact rG ⟨_,hK1,rfl,h⟩ rfl
  refine X0 5 rfl ?_
  obtain rfl:=qb hF
  exact rG ⟨_,hK1,rfl,h⟩ rfl
 rintro e1 w2 ⟨b1,hF,rfl,h⟩
 subst hKF1
 refine qh rfl hF ?_ ?_<;>intro hF
 ·exact X1 6 0 h rfl (ri h hF rfl)
 refine X0 6 rfl (qh rfl hF ?_ ?_)<;>intro hF
 ·exact X1 6 0 h rfl (ri h hF rfl)
 refine X0 6 rfl (qh rfl hF ?_ ?_)<;>intro hF
 ·exact X1 6 0 h rfl (ri h hF rfl)
 exact X1 8 0 h rfl (ri h hF rfl)
def qci (n:Nat) (a_0:(Option Tview)) (a_1:qy) (a_2:Int) (a_3:Int) (a_4:Int):Option Int :=
 (a_0).bind fun y1 =>
 (idx y1.links a_2).bind fun y2 =>
 (qeZ n a_0 y2).bind fun r1 =>
 bif (y2.Av==1) then
  (idx y1.loads r1).bind fun y3 =>
  (qgl n a_0 y2).bind fun r2 =>
  (idx r2.Bj (y2.To.tmod 2)).bind fun y4 =>
  (qdG n y4 a_3 y3 a_4).bind fun r3 =>
  (qeI n a_1 y2.Av a_4).bind fun r4 =>
  (qk1 n r3 r4 a_4).bind fun r5 =>
  some r5
 else
  (idx y1.delays r1).bind fun y5 =>
  (idx y5 y2.Bu).bind fun y6 =>
  (qfh n y6 1000 a_4).bind fun r6 =>
  (qeI n a_1 y2.Av a_4).bind fun r7 =>
  (qk1 n r6 r7 a_4).bind fun r8 =>
  some r8
theorem qat {a_0:(Option Tview)} {a_1:qy} {a_2:Int} {a_3:Int} {a_4:Int} (ha1:GoT.R w (old w) a_0 cs1) (ha2:GoT.R w (old w) a_1 cs2) {r:Int} (hF:qci n a_0 a_1 a_2 a_3 a_4=some r):RetV Tryz.prog 249 [GoT.v (Option Tview) cs1,GoT.v qy cs2,.int .i64 a_2,.int .i64 a_3,.int .i64 a_4] w r:=by
 obtain ⟨p1,rfl,s1⟩:=qb0 ha1
 obtain rfl:=qah ha2
 refine zV 67 Tryz.func249 rfl fun h=>zSR (qv h rfl rfl fun w1 bb1 h=>X0 5 rfl ?_)
 obtain ⟨y1,hy1,hF⟩:=qd hF
 obtain ⟨b1,o_1,cs3,rfl,-,hr1,hc1⟩:=PtR.get s1 hy1
 obtain ⟨p2,k1,p3,k2,p4,k3,p5,k4,p6,k5,p7,k6,p8,k7,p9,k8,p10,k9,p11,k10,rfl,s2,s3,s4,s5,s6,s7,s8,s9,s10,s11⟩:=qcE hr1
 refine zp2 rfl (zc 6 (hc1.below h.below) rfl (zp1 rfl ?_))
 obtain ⟨y2,hy2,hF,he1,b2,_,q1,cs4,hp1,hq1,hr2,hc2⟩:=s8.ix hF
 obtain rfl:=qa1 hr2
 refine zxe hp1 hq1 he1 rfl (zc 0 (hc2.below h.below) rfl (qp qa h rfl rfl rfl fun w2 bb2 h=>zs 0 h rfl fun w3 h=>X1 5 0 h rfl (zcI h hF (qia (h.old s1) (qcc y2)) rfl fun r1 w4 h hF=>X1 13 0 h rfl (qh rfl hF ?_ ?_))))<;>intro hF
 ·refine rA [] [0] h rfl fun w5 h=>M2 7795 [0,1,4,5,6,9,10,11,12] 0 0 (h.pick [0] rfl) rfl (Al 13 15987 7 hc1 (h.pick [0] rfl) rfl (M0 32371 [14] (h.pick [0] rfl) rfl ?_))
  obtain ⟨y3,hy3,hF,he2,b3,_,q2,cs5,hp2,hq2,rfl,hc4⟩:=s9.ix hF
  refine Ae 15 65139 hp2 hq2 he2 (h.pick [0] rfl) rfl (Al 16 130675 0 hc4 (h.pick [0] rfl) rfl (M0 261747 [17] (h.pick [0] rfl) rfl (Ao 2 261751 rfl ?_)))
  have hg1:Rg (old w) w (old w) w:=.start (fun _ h=>h)
  obtain ⟨r2,hr5,hF⟩:=qd hF
  refine qqy r2 hg1 h (cB 282 rfl) (qkR (hg1.regOld h) (hg1.inR h s1) (qcc y2) hr5) rfl rfl rfl rfl fun w6 us1 B1 hg2 hu1 hz1 hv1=>?_
  have hL1:=h.ext hu1.below
  have hc5:=Up.box 0 h hu1 rfl
  have ha3:=Up.boxP (x:=y2) hg1 0 h hu1 rfl (qcc y2)
  have hc6:=Up.box 1 h hu1 rfl
  have s12:=Up.R hg1 h hu1 ha2
  have ha4:=Up.boxP (x:=a_1) hg1 1 h hu1 rfl (hg1.inR h ha2)
  have hc7:=Up.C h hu1 hc1
  have s13:=Up.S hg1 h hu1 s2
  have s14:=Up.S hg1 h hu1 s3
  have s15:=Up.S hg1 h hu1 s4
  have s16:=Up.S hg1 h hu1 s5
  have s17:=Up.S hg1 h hu1 s6
  have s18:=Up.S hg1 h hu1 s7
  have s19:=Up.S hg1 h hu1 s8
  have s20:=Up.S hg1 h hu1 s9
  have s21:=Up.S hg1 h hu1 s10
  have s22:=Up.S hg1 h hu1 s11
  have hb1:=h.below.trans (hu1.below.mono h.below.size)
  have hC1:=((h.pick [0] rfl)).ext hu1.below
  replace h:=hz1
  obtain ⟨cs6,rfl,hr6⟩:=qsu hv1
  have ha5:=hr6
  obtain ⟨p12,k11,p13,k12,rfl,s23,s24⟩:=qai hr6
  refine qbI (fun _=>(hC1.ext h.below)) (qj2 3 rfl (bits 20 261759) (by kernel_rfl) (by kernel_rfl) (fun w' hw=>v_p qa rfl w') (hC1.ext h.below) rfl ?_)
  obtain ⟨y4,hy4,hF,he3,b4,_,q3,cs7,hp3,hq3,hr7,hc8⟩:=s23.ix hF
  obtain ⟨p14,k13,p15,k14,p16,k15,rfl,s25,s26,s27⟩:=qaG hr7
  refine qj2 7 rfl (bits 20 261887) (by kernel_rfl) (by kernel_rfl) (fun w' hw=>qwn qa hp3 hq3 ⟨he3.1,he3.2.1⟩ rfl rfl rfl rfl rfl rfl) (hC1.ext h.below) rfl (Ao 8 262143 rfl (zc 0 (hc8.below h.below) rfl (qbI (fun _=>(hC1.ext h.below)) (Ao 18 524287 rfl (zcI h hF (qjy (qfq y4 (h.oldS (s25.mono hg2.old)) (h.oldS (s26.mono hg2.old)) (h.oldS (s27.mono hg2.old)))) rfl fun r3 w7 h hF=>qbI (fun _=>(hC1.ext h.below)) (qj2 19 rfl (bits 20 1048575) (by kernel_rfl) (by kernel_rfl) (fun w' hw=>v_p qa rfl w') (hC1.ext h.below) rfl (Ad (X0 3 rfl (zc 0 (hc6.below h.below) rfl (zp1 rfl (zc 2 (hc5.below h.below) rfl (zp1 rfl (zcI h hF (qi1 (h.old (GoT.mono s12 hg2.old))) rfl fun r4 w8 h hF=>zp1 rfl (zcI h hF qnZ rfl fun r5 w9 h hF=>X0 2 rfl ?_))))))))))))))
  replace h:=h.unbase hg2.below (show NoD [] from trivial)
  exact ri h hF rfl
 refine rD (zd3 rfl (zdc 8 (hc1.below h.below) rfl (zd1 rfl ?_)))
 obtain ⟨y5,hy5,hF,he4,b5,_,q4,cs8,hp4,hq4,hr11,hc9⟩:=s10.ix hF
 obtain ⟨p17,k16,rfl,s28⟩:=hr11
 refine zdxe hp4 hq4 he4 rfl (zdc 0 (hc9.below h.below) rfl (Y1 2 0 h rfl ?_))
 obtain ⟨y6,hy6,hF,he5,b6,_,q5,cs9,hp5,hq5,rfl,hc10⟩:=s28.ix hF
 refine zdxe hp5 hq5 he5 rfl (zdc 0 (hc10.below h.below) rfl (zd1 rfl ?_))
 obtain ⟨r6,hr13,hF⟩:=qd hF
 exact qbm r6 (vsI _) (cB 284 rfl) (fun _ hb=>qiK  hr13) rfl rfl rfl rfl (zd1 rfl (dN h fun w10 h=>X2 7 1 0 h rfl (zcI h hF (qi1 (h.old ha2)) rfl fun r7 w11 h hF=>zp1 rfl (zcI h hF qnZ rfl fun r8 w12 h hF=>X0 2 rfl (ri h hF rfl)))))
def qfX (a_n:Int):Nat→Int→Int→Option (Int × Int)
 | 0,_,_=>none
 | n+1,i1,i2 =>
  bif decide (i1<i2) then
   bif decide ((W64 ((W64 ((W64 ((W64 (i1+i2))+1)).tdiv 2))*(W64 ((W64 ((W64 (i1+i2))+1)).tdiv 2))))≤a_n) then qfX a_n n (W64 ((W64 ((W64 (i1+i2))+1)).tdiv 2)) i2 else
   qfX a_n n i1 (W64 ((W64 ((W64 ((W64 (i1+i2))+1)).tdiv 2))-1))
  else
   some (i1,i2)
def qnE (n:Nat) (a_n:Int):Option Int :=
 (qfX a_n n 0 3000000000).bind fun o=>match o with
 | (i1,_) =>
  some i1
theorem qsG {a_n:Int}  {r:Int} (hF:qnE n a_n=some r):RetV Tryz.prog 315 [.int .i64 a_n] w r:=by
 refine zV 23 Tryz.func315 rfl fun h=>X0 10 rfl ?_
 obtain ⟨o1,hF,hK1⟩:=qd hF
 refine qm (rL (fun m e w'=>∃ (i1:Int) (i2:Int),qfX a_n m i1 i2=some o1∧e=[(0,.int .i64 a_n),(3,.int .i64 i1),(4,.int .i64 i2)]∧SH w w' []) n ⟨_,_,hF,rfl,h⟩ rfl ?_)
 rintro m1 e1 w1 ⟨i1,i2,hF,rfl,h⟩
 rcases m1 with _|m1
 ·cases hF
 refine X0 7 rfl (qh rfl hF ?_ ?_)<;>intro hF
 ·refine X0 19 rfl (qh rfl hF ?_ ?_)<;>intro hF
  ·exact X0 5 rfl (rK ⟨_,_,hF,rfl,h⟩ rfl)
  exact X0 6 rfl (rK ⟨_,_,hF,rfl,h⟩ rfl)
 refine qq rfl ?_
 obtain rfl:=qb hF;replace hF:=hK1
 exact X0 5 rfl (ri h hF rfl)
def qjt (n:Nat) (slew:Int) (delay:Int) (mode:Int):Option Int :=
 (qnE n (W64 ((W64 ((W64 ((W64 (500*slew))*500))*slew))+(W64 (delay*delay))))).bind fun r1 =>
 (
  bif (mode==1) then some (decide ((W64 (r1*r1))<(W64 ((W64 ((W64 ((W64 (500*slew))*500))*slew))+(W64 (delay*delay)))))) else
  some false).bind fun b1 =>
 bif b1 then some (W64 ((W64 (r1.tdiv 500))+1)) else
 (qfh n r1 500 mode).bind fun r2 =>
 some r2
theorem qpr {slew:Int} {delay:Int} {mode:Int}  {r:Int} (hF:qjt n slew delay mode=some r):RetV Tryz.prog 297 [.int .i64 slew,.int .i64 delay,.int .i64 mode] w r:=by
 refine zV 35 Tryz.func297 rfl fun h=>X0 20 rfl (zcI h hF qsG rfl fun r1 w1 h hF=>X0 4 rfl ?_)
 obtain ⟨KF1,hKF1,o1,hF,hK1⟩:=bindE hF
 refine qba (fun e w'=>∃ (b1:Bool),KF1 b1=some r∧e=[(2,.int .i64 mode),(8,.int .i64 r1),(28,.bool b1)]∧SH w w' []) ?_ ?_
 ·refine X0 4 rfl (qk (t:=22) hF rfl ?_ ?_)<;>intro hF
  ·refine X0 12 rfl ?_
   obtain rfl:=qb hF
   exact rG ⟨_,hK1,rfl,h⟩ rfl
  refine X0 7 rfl ?_
  obtain rfl:=qb hF
  exact rG ⟨_,hK1,rfl,h⟩ rfl
 rintro e1 w3 ⟨b1,hF,rfl,h⟩
 subst hKF1
 refine qh rfl hF ?_ ?_<;>intro hF
 ·exact X0 7 rfl (ri h hF rfl)
 exact X0 5 rfl (zcI h hF qiK rfl fun r2 w2 h hF=>X0 2 rfl (ri h hF rfl))
def qbs (n:Nat) (v:(Option Tview)) (link:Int) (slew:Int) (mode:Int):Option Int :=
 (v).bind fun y1 =>
 (idx y1.links link).bind fun y2 =>
 (qeZ n v y2).bind fun r1 =>
 bif (y2.Av==1) then
  (idx y1.loads r1).bind fun y3 =>
  (qgl n v y2).bind fun r2 =>
  (idx r2.Aq (y2.To.tmod 2)).bind fun y4 =>
  (qdG n y4 slew y3 mode).bind fun r3 =>
  some (if 1000000<r3 then 1000000 else r3)
 else
  (idx y1.delays r1).bind fun y5 =>
  (idx y5 y2.Bu).bind fun y6 =>
  (qjt n slew y6 mode).bind fun r4 =>
  some (if 1000000<r4 then 1000000 else r4)
theorem qgN {v:(Option Tview)} {link:Int} {slew:Int} {mode:Int} (ha1:GoT.R w (old w) v cs1) {r:Int} (hF:qbs n v link slew mode=some r):RetV Tryz.prog 265 [GoT.v (Option Tview) cs1,.int .i64 link,.int .i64 slew,.int .i64 mode] w r:=by
 obtain ⟨p1,rfl,s1⟩:=qb0 ha1
 refine zV 59 Tryz.func265 rfl fun h=>X0 7 rfl ?_
 obtain ⟨y1,hy1,hF⟩:=qd hF
 obtain ⟨b1,o_1,cs2,rfl,-,hr1,hc1⟩:=PtR.get s1 hy1
 obtain ⟨p2,k1,p3,k2,p4,k3,p5,k4,p6,k5,p7,k6,p8,k7,p9,k8,p10,k9,p11,k10,rfl,s2,s3,s4,s5,s6,s7,s8,s9,s10,s11⟩:=qcE hr1
 refine zp2 rfl (zc 6 (hc1.below h.below) rfl (zp1 rfl ?_))
 obtain ⟨y2,hy2,hF,he1,b2,_,q1,cs3,hp1,hq1,hr2,hc2⟩:=s8.ix hF
 obtain rfl:=qa1 hr2
 refine zxe hp1 hq1 he1 rfl (zc 0 (hc2.below h.below) rfl (qp qa h rfl rfl rfl fun w1 bb1 h=>zs 0 h rfl fun w2 h=>X1 5 0 h rfl (zcI h hF (qia (h.old s1) (qcc y2)) rfl fun r1 w3 h hF=>X1 9 0 h rfl (qh rfl hF ?_ ?_))))<;>intro hF
 ·refine qc0 (rA [] [0] h rfl fun w4 h=>M2 7795 [0,1,4,5,6,9,10,11,12] 0 0 (h.pick [0] rfl) rfl (Al 13 15987 7 hc1 (h.pick [0] rfl) rfl (M0 32371 [14] (h.pick [0] rfl) rfl ?_)))
  obtain ⟨y3,hy3,hF,he2,b3,_,q2,cs4,hp2,hq2,rfl,hc4⟩:=s9.ix hF
  refine Ae 15 65139 hp2 hq2 he2 (h.pick [0] rfl) rfl (Al 16 130675 0 hc4 (h.pick [0] rfl) rfl (M0 261747 [17] (h.pick [0] rfl) rfl (Ao 2 261751 rfl ?_)))
  have hg1:Rg (old w) w (old w) w:=.start (fun _ h=>h)
  obtain ⟨r2,hr5,hF⟩:=qd hF
  refine qqy r2 hg1 h (cB 282 rfl) (qkR (hg1.regOld h) (hg1.inR h s1) (qcc y2) hr5) rfl rfl rfl rfl fun w5 us1 B1 hg2 hu1 hz1 hv1=>?_
  have hL1:=h.ext hu1.below
  have hc5:=Up.C h hu1 hc1
  have s12:=Up.S hg1 h hu1 s2
  have s13:=Up.S hg1 h hu1 s3
  have s14:=Up.S hg1 h hu1 s4
  have s15:=Up.S hg1 h hu1 s5
  have s16:=Up.S hg1 h hu1 s6
  have s17:=Up.S hg1 h hu1 s7
  have s18:=Up.S hg1 h hu1 s8
  have s19:=Up.S hg1 h hu1 s9
  have s20:=Up.S hg1 h hu1 s10
  have s21:=Up.S hg1 h hu1 s11
  have hb1:=h.below.trans (hu1.below.mono h.below.size)
  have hC1:=((h.pick [0] rfl)).ext hu1.below
  replace h:=hz1
  obtain ⟨cs5,rfl,hr6⟩:=qsu hv1
  have ha2:=hr6
  obtain ⟨p12,k11,p13,k12,rfl,s22,s23⟩:=qai hr6
  refine qbI (fun _=>(hC1.ext h.below)) (qj2 3 rfl (bits 21 261759) (by kernel_rfl) (by kernel_rfl) (fun w' hw=>v_p qa rfl w') (hC1.ext h.below) rfl ?_)
  obtain ⟨y4,hy4,hF,he3,b4,_,q3,cs6,hp3,hq3,hr7,hc6⟩:=s23.ix hF
  obtain ⟨p14,k13,p15,k14,p16,k15,rfl,s24,s25,s26⟩:=qaG hr7
  refine qj2 7 rfl (bits 21 261887) (by kernel_rfl) (by kernel_rfl) (fun w' hw=>qwn qa hp3 hq3 ⟨he3.1,he3.2.1⟩ rfl rfl rfl rfl rfl rfl) (hC1.ext h.below) rfl (Ao 8 262143 rfl (zc 0 (hc6.below h.below) rfl (qbI (fun _=>(hC1.ext h.below)) (Ao 18 524287 rfl (zcI h hF (qjy (qfq y4 (h.oldS (s24.mono hg2.old)) (h.oldS (s25.mono hg2.old)) (h.oldS (s26.mono hg2.old)))) rfl fun r3 w6 h hF=>qbI (fun _=>(hC1.ext h.below)) (qj2 19 rfl (bits 21 1048575) (by kernel_rfl) (by kernel_rfl) (fun w' hw=>v_p qa rfl w') (hC1.ext h.below) rfl (qj2 20 rfl (bits 21 2097151) (by kernel_rfl) (by kernel_rfl) (fun w' hw=>v_p qa rfl w') (hC1.ext h.below) rfl (Ad ?_))))))))
  replace h:=h.unbase hg2.below (show NoD [] from trivial)
  exact ri h hF rfl
 refine zKS (rD (zd4 rfl (zdc 8 (hc1.below h.below) rfl (zd1 rfl ?_))))
 obtain ⟨y5,hy5,hF,he4,b5,_,q4,cs7,hp4,hq4,hr9,hc7⟩:=s10.ix hF
 obtain ⟨p17,k16,rfl,s27⟩:=hr9
 refine zdxe hp4 hq4 he4 rfl (zdc 0 (hc7.below h.below) rfl (Y1 2 0 h rfl ?_))
 obtain ⟨y6,hy6,hF,he5,b6,_,q5,cs8,hp5,hq5,rfl,hc8⟩:=s27.ix hF
 refine zdxe hp5 hq5 he5 rfl (zdc 0 (hc8.below h.below) rfl (zd1 rfl ?_))
 obtain ⟨r4,hr11,hF⟩:=qd hF
 exact qbm r4 (vsI _) (cB 297 rfl) (fun _ hb=>qpr  hr11) rfl rfl rfl rfl (zd2 rfl (dN h fun w7 h=>ri h hF rfl))
end Go.Fw


namespace Go.Fw
open Go Go.Proofs
open Go.RowKit (Below)
set_option maxRecDepth 100000
set_option maxHeartbeats 1600000
variable {n:Nat} {w:World} {cs1 cs2 cs3 cs4 cs5 cs6 cs7 cs8 cs9:List Value}
def qgn (n:Nat) (a_0:(Option Tview)) (a_1:qy) (a_2:Int) (a_3:qc):Option (qc × qc) :=
 (qci n a_0 a_1 a_2 a_3.Am 0).bind fun r1 =>
 (qci n a_0 a_1 a_2 a_3.Ay 0).bind fun r2 =>
 (qci n a_0 a_1 a_2 a_3.Am 1).bind fun r3 =>
 (qci n a_0 a_1 a_2 a_3.Ay 1).bind fun r4 =>
 (a_0).bind fun y1 =>
 (idx y1.links a_2).bind fun y2 =>
 (
  bif decide ((y1.extras.length:Int) > 0) then some (y2.Av==2) else
  some false).bind fun b3 =>
 (
  bif b3 then
   (qeZ n a_0 y2).bind fun r9 =>
   (idx y1.extras r9).bind fun y3 =>
   some (W64 ((if r2<r1 then r2 else r1)-y3),W64 ((if r4 > r3 then r4 else r3)+y3))
  else
   some ((if r2<r1 then r2 else r1),(if r4 > r3 then r4 else r3))).bind fun o=>match o with
  | (i1,i2) =>
   (qbs n a_0 a_2 a_3.Am 0).bind fun r5 =>
   (qbs n a_0 a_2 a_3.Ay 0).bind fun r6 =>
   (qbs n a_0 a_2 a_3.Am 1).bind fun r7 =>
   (qbs n a_0 a_2 a_3.Ay 1).bind fun r8 =>
   some ((⟨i1,i2⟩:qc),(⟨(if r6<r5 then r6 else r5),(if r8 > r7 then r8 else r7)⟩:qc))
theorem qeK {a_0:(Option Tview)} {a_1:qy} {a_2:Int} {a_3:qc} (ha1:GoT.R w (old w) a_0 cs1) (ha2:GoT.R w (old w) a_1 cs2) (ha3:GoT.R w (old w) a_3 cs3) {r:(qc × qc)} (hF:qgn n a_0 a_1 a_2 a_3=some r):RetV Tryz.prog 224 [GoT.v (Option Tview) cs1,GoT.v qy cs2,.int .i64 a_2,GoT.v qc cs3] w r:=by
 obtain ⟨p1,rfl,s1⟩:=qb0 ha1
 obtain rfl:=qah ha2
 obtain rfl:=qx ha3
 refine zV 100 Tryz.func224 rfl fun h=>zSR (qv h rfl rfl fun w1 bb1 h=>qv h rfl rfl fun w2 bb2 h=>qp qa h rfl rfl rfl fun w3 bb3 h=>qp qa h rfl rfl rfl fun w4 bb4 h=>zNS (rD (Y1 2 2 h rfl ?_)))
 refine Y1 2 2 h rfl ?_
 refine zd2 rfl (dN h fun w5 h=>qc0 ?_)
 obtain ⟨r1,hr1,hF⟩:=qd hF
 obtain ⟨r2,hr2,hF⟩:=qd hF
 obtain ⟨r3,hr3,hF⟩:=qd hF
 obtain ⟨r4,hr4,hF⟩:=qd hF
 refine qba (fun e w'=>∃ (bb11:Nat),e=[(0,.pointer p1),(2,.int .i64 a_2),(8,.pointer (some ⟨bb3,0,none⟩)),(9,.pointer (some ⟨bb4,0,none⟩)),(10,.int .i64 a_3.Am),(11,.int .i64 a_3.Ay),(12,.pointer (some ⟨bb11,0,none⟩))]∧SH w w' [Ch.box bb11 [.int .i64 (if r2<r1 then r2 else r1),.int .i64 (if r4 > r3 then r4 else r3)] 138,Ch.box bb4 [.int .i64 0,.int .i64 0] 138,Ch.box bb3 [.int .i64 0,.int .i64 0] 138]) ?_ ?_
 ·refine rA [24] [3] h rfl fun w12 h=>M4 1014255 [0,1,2,3,5,6,7,8,11,12,13,14,16,17,18,19] 0 0 0 0 (h.pick [3] rfl) rfl (At 4 23 1014271 9402863 rfl ?_ ?_)
  ·refine qcl r1 h (cB 249 rfl) (qat (h.old s1) (h.old ha2) hr1) rfl rfl rfl rfl fun w37 h=>Ag (h.pick [3] rfl) (At 9 23 1014783 9402879 rfl ?_ ?_)
   ·refine qcl r2 h (cB 249 rfl) (qat (h.old s1) (h.old ha2) hr2) rfl rfl rfl rfl fun w38 h=>G0 1015807 [10] (h.pick [3] rfl) rfl (At 15 23 1048575 9404415 rfl ?_ ?_)
    ·refine qcl r3 h (cB 249 rfl) (qat (h.old s1) (h.old ha2) hr3) rfl rfl rfl rfl fun w39 h=>Ag (h.pick [3] rfl) (At 20 23 2097151 9437183 rfl ?_ ?_)
     ·refine qcl r4 h (cB 249 rfl) (qat (h.old s1) (h.old ha2) hr4) rfl rfl rfl rfl fun w40 h=>G0 4194303 [21] (h.pick [3] rfl) rfl (Aw 22 8388607 (fun w' hw=>qW qa [0,1] [.tmp 30,.tmp 41] rfl rfl rfl rfl rfl rfl rfl rfl) (h.pick [3] rfl) rfl ?_)
      refine Ao 23 16777215 rfl (qp qa h rfl rfl rfl fun w41 bb12 h=>Ag (h.pick [4] rfl) (Ao 24 33554431 rfl (zs 0 h rfl fun w42 h=>qbI (fun hs=>absurd (hs 24 (by decide)) (by decide)) (Ad ?_))))
      replace h:=h.pick [0,1,2] rfl
      exact rG ⟨_,rfl,h⟩ rfl
     refine qp qa h rfl rfl rfl fun w43 bb13 h=>Ag (h.pick [4] rfl) (Ao 20 10485759 rfl (qcl r4 h (cB 249 rfl) (qat (h.old s1) (h.old ha2) hr4) rfl rfl rfl rfl fun w44 h=>G0 12582911 [21] (h.pick [4] rfl) rfl (Aw 22 16777215 (fun w' hw=>qW qa [0,1] [.tmp 30,.tmp 41] rfl rfl rfl rfl rfl rfl rfl rfl) (h.pick [4] rfl) rfl ?_)))
     refine Ao 24 33554431 rfl (zs 0 h rfl fun w45 h=>qbI (fun hs=>absurd (hs 24 (by decide)) (by decide)) (Ad ?_))
     replace h:=h.pick [0,1,2] rfl
     exact rG ⟨_,rfl,h⟩ rfl
    refine qp qa h rfl rfl rfl fun w46 bb14 h=>Ag (h.pick [4] rfl) (Ao 15 9437183 rfl (qcl r3 h (cB 249 rfl) (qat (h.old s1) (h.old ha2) hr3) rfl rfl rfl rfl fun w47 h=>Ag (h.pick [4] rfl) (Ao 20 10485759 rfl (qcl r4 h (cB 249 rfl) (qat (h.old s1) (h.old ha2) hr4) rfl rfl rfl rfl fun w48 h=>G0 12582911 [21] (h.pick [4] rfl) rfl (Aw 22 16777215 (fun w' hw=>qW qa [0,1] [.tmp 30,.tmp 41] rfl rfl rfl rfl rfl rfl rfl rfl) (h.pick [4] rfl) rfl ?_)))))
    refine Ao 24 33554431 rfl (zs 0 h rfl fun w49 h=>qbI (fun hs=>absurd (hs 24 (by decide)) (by decide)) (Ad ?_))
    replace h:=h.pick [0,1,2] rfl
    exact rG ⟨_,rfl,h⟩ rfl
   refine qp qa h rfl rfl rfl fun w50 bb15 h=>Ag (h.pick [4] rfl) (Ao 9 9403391 rfl (qcl r2 h (cB 249 rfl) (qat (h.old s1) (h.old ha2) hr2) rfl rfl rfl rfl fun w51 h=>G0 9404415 [10] (h.pick [4] rfl) rfl (Ao 15 9437183 rfl (qcl r3 h (cB 249 rfl) (qat (h.old s1) (h.old ha2) hr3) rfl rfl rfl rfl fun w52 h=>Ag (h.pick [4] rfl) (Ao 20 10485759 rfl (qcl r4 h (cB 249 rfl) (qat (h.old s1) (h.old ha2) hr4) rfl rfl rfl rfl fun w53 h=>G0 12582911 [21] (h.pick [4] rfl) rfl (Aw 22 16777215 (fun w' hw=>qW qa [0,1] [.tmp 30,.tmp 41] rfl rfl rfl rfl rfl rfl rfl rfl) (h.pick [4] rfl) rfl ?_)))))))
   refine Ao 24 33554431 rfl (zs 0 h rfl fun w54 h=>qbI (fun hs=>absurd (hs 24 (by decide)) (by decide)) (Ad ?_))
   replace h:=h.pick [0,1,2] rfl
   exact rG ⟨_,rfl,h⟩ rfl
  refine qp qa h rfl rfl rfl fun w55 bb16 h=>Ag (h.pick [4] rfl) (Ao 4 9402879 rfl (qcl r1 h (cB 249 rfl) (qat (h.old s1) (h.old ha2) hr1) rfl rfl rfl rfl fun w56 h=>Ag (h.pick [4] rfl) (Ao 9 9403391 rfl (qcl r2 h (cB 249 rfl) (qat (h.old s1) (h.old ha2) hr2) rfl rfl rfl rfl fun w57 h=>G0 9404415 [10] (h.pick [4] rfl) rfl (Ao 15 9437183 rfl (qcl r3 h (cB 249 rfl) (qat (h.old s1) (h.old ha2) hr3) rfl rfl rfl rfl fun w58 h=>Ag (h.pick [4] rfl) (Ao 20 10485759 rfl (qcl r4 h (cB 249 rfl) (qat (h.old s1) (h.old ha2) hr4) rfl rfl rfl rfl fun w59 h=>G0 12582911 [21] (h.pick [4] rfl) rfl (Aw 22 16777215 (fun w' hw=>qW qa [0,1] [.tmp 30,.tmp 41] rfl rfl rfl rfl rfl rfl rfl rfl) (h.pick [4] rfl) rfl ?_)))))))))
  refine Ao 24 33554431 rfl (zs 0 h rfl fun w60 h=>qbI (fun hs=>absurd (hs 24 (by decide)) (by decide)) (Ad ?_))
  replace h:=h.pick [0,1,2] rfl
  exact rG ⟨_,rfl,h⟩ rfl
 rintro e1 w61 ⟨bb11,rfl,h⟩
 refine X0 4 rfl ?_
 obtain ⟨y1,hy1,hF⟩:=qd hF
 obtain ⟨b1,o_1,cs4,rfl,-,hr5,hc1⟩:=PtR.get s1 hy1
 obtain ⟨p2,k1,p3,k2,p4,k3,p5,k4,p6,k5,p7,k6,p8,k7,p9,k8,p10,k9,p11,k10,rfl,s2,s3,s4,s5,s6,s7,s8,s9,s10,s11⟩:=qcE hr5
 refine zp2 rfl (zc 6 (hc1.below h.below) rfl (zp1 rfl ?_))
 obtain ⟨y2,hy2,hF,he1,b2,_,q1,cs5,hp1,hq1,hr6,hc2⟩:=s8.ix hF
 obtain rfl:=qa1 hr6
 refine zxe hp1 hq1 he1 rfl (zc 0 (hc2.below h.below) rfl (qp qa h rfl rfl rfl fun w62 bb17 h=>zs 0 h rfl fun w63 h=>zNS ?_))
 obtain ⟨KF2,hKF2,o2,hF,hK2⟩:=bindE hF
 refine qba (fun e w'=>∃ (b3:Bool),KF2 b3=some r∧e=[(0,.pointer (some ⟨b1,o_1,none⟩)),(2,.int .i64 a_2),(8,.pointer (some ⟨bb3,0,none⟩)),(9,.pointer (some ⟨bb4,0,none⟩)),(10,.int .i64 a_3.Am),(11,.int .i64 a_3.Ay),(12,.pointer (some ⟨bb11,0,none⟩)),(13,.pointer (some ⟨bb17,0,none⟩)),(60,.bool b3)]∧SH w w' [Ch.box bb17 (qjs y2) 187,Ch.box bb11 [.int .i64 (if r2<r1 then r2 else r1),.int .i64 (if r4 > r3 then r4 else r3)] 138,Ch.box bb4 [.int .i64 0,.int .i64 0] 138,Ch.box bb3 [.int .i64 0,.int .i64 0] 138]) ?_ ?_
 ·refine X0 4 rfl (zc 9 (hc1.below h.below) rfl (zp3 rfl (qk (t:=56) hF rfl ?_ ?_)))<;>intro hF
  ·refine X1 8 0 h rfl ?_
   obtain rfl:=qb hF
   exact rG ⟨_,hK2,rfl,h⟩ rfl
  refine X0 5 rfl ?_
  obtain rfl:=qb hF
  exact rG ⟨_,hK2,rfl,h⟩ rfl
 rintro e3 w76 ⟨b3,hF,rfl,h⟩
 subst hKF2
 obtain ⟨KF1,hKF1,o1,hF,hK1⟩:=bindE hF
 refine qba (fun e w'=>∃ (i1:Int) (i2:Int),KF1 (i1,i2)=some r∧e=[(0,.pointer (some ⟨b1,o_1,none⟩)),(2,.int .i64 a_2),(8,.pointer (some ⟨bb3,0,none⟩)),(9,.pointer (some ⟨bb4,0,none⟩)),(10,.int .i64 a_3.Am),(11,.int .i64 a_3.Ay),(12,.pointer (some ⟨bb11,0,none⟩))]∧SH w w' [Ch.box bb11 [.int .i64 i1,.int .i64 i2] 138,Ch.box bb4 [.int .i64 0,.int .i64 0] 138,Ch.box bb3 [.int .i64 0,.int .i64 0] 138]) ?_ ?_
 ·refine qh rfl hF ?_ ?_<;>intro hF
  ·refine qc0 (rD (zd3 rfl (zdc 9 (hc1.below h.below) rfl (Y1 2 0 h rfl ?_))))
   obtain ⟨r9,hr11,hF⟩:=qd hF
   refine qbm r9 (vsI _) (cB 264 rfl) (fun _ hb=>qia ((h.ext hb).old s1) (qcc y2) hr11) rfl rfl rfl rfl ?_
   obtain ⟨y3,hy3,hF,he2,b4,_,q2,cs6,hp2,hq2,rfl,hc4⟩:=s11.ix hF
   refine zdxe hp2 hq2 he2 rfl (zdc 0 (hc4.below h.below) rfl (zd1 rfl (dN h fun w73 h=>X2 9 1 1 h rfl (r_v (qW qa [0,1] [.tmp 73,.tmp 77] rfl rfl rfl rfl rfl rfl rfl rfl) rfl (zs 1 h rfl fun w74 h=>qc6 ?_)))))
   replace h:=h.pick [1,2,3] rfl
   obtain rfl:=qb hF
   exact rG ⟨_,_,hK1,rfl,h⟩ rfl
  refine qhE ?_
  replace h:=h.pick [1,2,3] rfl
  obtain rfl:=qb hF
  exact rG ⟨_,_,hK1,rfl,h⟩ rfl
 rintro e2 w75 ⟨i1,i2,hF,rfl,h⟩
 subst hKF1
 refine X0 5 rfl (zcI h hF (qgN (h.old s1)) rfl fun r5 w64 h hF=>zp3 rfl (zcI h hF (qgN (h.old s1)) rfl fun r6 w65 h hF=>zp4 rfl (zcI h hF (qgN (h.old s1)) rfl fun r7 w66 h hF=>zp3 rfl (zcI h hF (qgN (h.old s1)) rfl fun r8 w67 h hF=>zp1 rfl (r_v (qW qa [0,1] [.tmp 87,.tmp 96] rfl rfl rfl rfl rfl rfl rfl rfl) rfl (qp qa h rfl rfl rfl fun w68 bb18 h=>zs 0 h rfl fun w69 h=>zNS (rA [] [0,1] h rfl fun w70 h=>M2 3 [0,1] 1 0 (h.pick [0,1] rfl) rfl (Ao 2 7 rfl (zs 3 h rfl fun w71 h=>Ag (h.pick [0,1] rfl) (Ao 3 15 rfl (zs 2 h rfl fun w72 h=>Ag (h.pick [0,1] rfl) (Ad ?_))))))))))))
 obtain rfl:=qb hF
 exact qab qa (ρ:=(qc × qc)) [GoT.v qc [.int .i64 i1,.int .i64 i2],GoT.v qc [.int .i64 (if r6<r5 then r6 else r5),.int .i64 (if r8 > r7 then r8 else r7)]] h ⟨⟨_,_,_,rfl,rfl,h.box 3 rfl,rfl⟩,⟨_,_,_,rfl,rfl,h.box 2 rfl,rfl⟩,trivial⟩ (PV.done h (qao h (qz (S:=fun _=>False) (qA (⟨i1,i2⟩:qc))) (qaj (qz (S:=fun _=>False) (qA (⟨(if r6<r5 then r6 else r5),(if r8 > r7 then r8 else r7)⟩:qc)))) (by rfl)))
def qkH (_:Nat) (s:qc) (t:qc):Option qc :=
 some (⟨W64 (s.Am+t.Am),W64 (s.Ay+t.Ay)⟩:qc)
theorem qoW {s:qc} {t:qc} (ha1:GoT.R w (old w) s cs1) (ha2:GoT.R w (old w) t cs2) {r:qc} (hF:qkH n s t=some r):RetV Tryz.prog 225 [GoT.v qc cs1,GoT.v qc cs2] w r:=by
 obtain rfl:=qx ha1
 obtain rfl:=qx ha2
 refine zV 16 Tryz.func225 rfl fun h=>zSR (qv h rfl rfl fun w1 bb1 h=>qv h rfl rfl fun w2 bb2 h=>qp qa h rfl rfl rfl fun w3 bb3 h=>X4 13 2 1 2 1 h rfl (r_v (qW qa [0,1] [.tmp 9,.tmp 14] rfl rfl rfl rfl rfl rfl rfl rfl) rfl (zs 0 h rfl fun w4 h=>qc6 ?_)))
 obtain rfl:=qb hF
 exact qab qa (ρ:=qc) [GoT.v qc [.int .i64 (W64 (s.Am+t.Am)),.int .i64 (W64 (s.Ay+t.Ay))]] h ⟨⟨_,_,_,rfl,rfl,h.box 0 rfl,rfl⟩,trivial⟩ (PV.done h (qaj (qz (S:=fun _=>False) (qA (⟨W64 (s.Am+t.Am),W64 (s.Ay+t.Ay)⟩:qc)))))
def qbq (a_0:(Option Tgraph)) (a_1:qy) (a_3:qn) (r4:(List Int)):Nat→Bool→Int→Int→Int→Int→Int→Int→Option (Bool × Int × Int × Int × Int × Int × Int)
 | 0,_,_,_,_,_,_,_=>none
 | n+1,b2,i6,i7,i8,i9,i10,i11 =>
  bif decide (i11<(r4.length:Int)) then
   (idx r4 i11).bind fun y1 =>
   (a_0).bind fun y2 =>
   (y2.view).bind fun y3 =>
   (idx y3.links y1).bind fun y4 =>
   (idx a_3.Aj y4.Be).bind fun y5 =>
   bif y5 then
    (idx a_3.Aq y4.Be).bind fun y6 =>
    (qgn n y2.view a_1 y1 y6).bind fun o=>match o with
     | (r6,r7) =>
      (idx a_3.Af y4.Be).bind fun y9 =>
      (qkH n y9 r6).bind fun r10 =>
      (qfQ n (⟨i6,(⟨i7,i8⟩:qc),(⟨i9,i10⟩:qc)⟩:qe) b2 r10 r7).bind fun o=>match o with
       | (x7,x8) =>
        qbq a_0 a_1 a_3 r4 n x8 x7.Bm x7.Af.Am x7.Af.Ay x7.Aq.Am x7.Aq.Ay (W64 (i11+1))
   else
    qbq a_0 a_1 a_3 r4 n b2 i6 i7 i8 i9 i10 (W64 (i11+1))
  else
   some (b2,i6,i7,i8,i9,i10,i11)
def qds (n:Nat) (a_0:(Option Tgraph)) (a_1:qy) (a_2:(List qe)) (a_3:qn) (a_4:Int):Option (Bool × qe) :=
 (qjw n a_2 a_4).bind fun o=>match o with
  | (r2,r3) =>
   (
    bif r3 then
     (qfQ n (⟨a_4,(⟨0,0⟩:qc),(⟨0,0⟩:qc)⟩:qe) false (⟨r2.Af.Am,r2.Af.Ay⟩:qc) (⟨r2.Aq.Am,r2.Aq.Ay⟩:qc)).bind fun o=>match o with
      | (x9,x10) =>
       some (x10,x9.Bm,x9.Af.Am,x9.Af.Ay,x9.Aq.Am,x9.Aq.Ay)
    else
     some (false,a_4,0,0,0,0)).bind fun o=>match o with
    | (b1,i1,i2,i3,i4,i5) =>
     (qjx n a_0 a_4).bind fun r4 =>
     (qbq a_0 a_1 a_3 r4 n b1 i1 i2 i3 i4 i5 0).bind fun o=>match o with
     | (b2,i6,i7,i8,i9,i10,_) =>
      bif (!b2) then some (false,(⟨0,(⟨0,0⟩:qc),(⟨0,0⟩:qc)⟩:qe)) else
      some (true,(⟨i6,(⟨i7,i8⟩:qc),(⟨i9,i10⟩:qc)⟩:qe))
theorem qlX {a_0:(Option Tgraph)} {a_1:qy} {a_2:(List qe)} {a_3:qn} {a_4:Int} (ha1:GoT.R w (old w) a_0 cs1) (ha2:GoT.R w (old w) a_1 cs2) (ha3:GoT.R w (old w) a_2 cs3) (ha4:GoT.R w (old w) a_3 cs4) {r:(Bool × qe)} (hF:qds n a_0 a_1 a_2 a_3 a_4=some r):RetV Tryz.prog 157 [GoT.v (Option Tgraph) cs1,GoT.v qy cs2,GoT.v (List qe) cs3,GoT.v qn cs4,.int .i64 a_4] w r:=by
 obtain ⟨p1,rfl,s1⟩:=qb0 ha1
 obtain rfl:=qah ha2
 obtain ⟨p2,k1,rfl,s2⟩:=ha3
 obtain ⟨p3,k2,p4,k3,p5,k4,rfl,s3,s4,s5⟩:=qad ha4
 refine zV 88 Tryz.func157 rfl fun h=>zSR (qv h rfl rfl fun w1 bb1 h=>qv h rfl rfl fun w2 bb2 h=>zp1 rfl (qp qa h rfl rfl rfl fun w3 bb3 h=>X0 4 rfl (r_v (qW qa [0] [.tmp 21] rfl rfl rfl rfl rfl rfl rfl rfl) rfl (qp qa h rfl rfl rfl fun w4 bb4 h=>zs 0 h rfl fun w5 h=>zNSR (qp qa h rfl rfl rfl fun w6 bb5 h=>zs 0 h rfl fun w7 h=>X0 6 rfl ?_)))))
 obtain ⟨r1,hr1,hF⟩:=qd hF
 obtain ⟨r2,r3⟩:=r1
 refine qaP (r2,r3) h (cB 221 rfl) (qps ⟨_,_,rfl,(h.oldS s2)⟩ hr1) rfl rfl rfl rfl fun w8 S1 us1 hv1 hr2=>?_
 obtain ⟨S2,S3,cs5,us2,rfl,hv2,hr3⟩:=hv1.cons hr2
 obtain rfl:=qX (hv2.sh.own 0 rfl)
 obtain ⟨rfl,h⟩:=hv2.lastB hr3
 refine zp3 rfl (qp qa h rfl rfl rfl fun w9 bb6 h=>zs 0 h rfl fun w10 h=>X0 6 rfl ?_)
 obtain ⟨KF1,hKF1,o5,hF,hK2⟩:=bindE hF
 refine qba (fun e w'=>∃ (b1:Bool) (i1:Int) (i2:Int) (i3:Int) (i4:Int) (i5:Int),KF1 (b1,i1,i2,i3,i4,i5)=some r∧e=[(0,.pointer p1),(4,.int .i64 a_4),(6,.pointer (some ⟨bb1,0,none⟩)),(8,.pointer (some ⟨bb2,0,none⟩)),(11,.pointer (some ⟨bb3,0,none⟩)),(12,.pointer (some ⟨bb4,0,none⟩)),(13,.pointer (some ⟨bb5,0,none⟩))]∧SH w w' [Ch.box bb5 [.bool b1] 4,Ch.box bb4 [.int .i64 i1,.int .i64 i2,.int .i64 i3,.int .i64 i4,.int .i64 i5] 140,Ch.box bb3 [.int .i64 0,.int .i64 0,.int .i64 0,.int .i64 0,.int .i64 0] 140,Ch.box bb2 (qaa a_3 p3 p4 p5 k2 k3 k4) 57,Ch.box bb1 (qaq a_1) 77]) ?_ ?_
 ·refine qh rfl hF ?_ ?_<;>intro hF
  ·refine X2 5 0 0 h rfl ?_
   replace h:=h.pick [2,3,0,1,4,5,6] rfl
   obtain ⟨o6,hr43,hF⟩:=qd hF
   obtain ⟨x9,x10⟩:=o6
   refine qvb (cB 222 rfl) (qjC h hr43) rfl rfl rfl rfl fun w66 h=>?_
   replace h:SH _ _ [Ch.box bb5 [.bool x10] 4,Ch.box bb4 (qgG x9) 140,Ch.box bb6 (qgG r2) 140,Ch.own S2 (r2:qe) (qgG r2),Ch.box bb3 [.int .i64 0,.int .i64 0,.int .i64 0,.int .i64 0,.int .i64 0] 140,Ch.box bb2 (qaa a_3 p3 p4 p5 k2 k3 k4) 57,Ch.box bb1 (qaq a_1) 77]:=h
   refine qc6 ?_
   replace h:=h.pick [0,1,4,5,6] rfl
   obtain rfl:=qb hF
   exact rG ⟨_,_,_,_,_,_,hK2,rfl,h⟩ rfl
  refine qhE ?_
  replace h:=h.pick [2,3,4,5,6] rfl
  obtain rfl:=qb hF
  exact rG ⟨_,_,_,_,_,_,hK2,rfl,h⟩ rfl
 rintro e7 w67 ⟨b1,i1,i2,i3,i4,i5,hF,rfl,h⟩
 subst hKF1
 refine X0 5 rfl (zcL h hF (qpz (h.old s1)) rfl fun r4 w11 S5 p6 k5 h hF=>X0 3 rfl ?_)
 obtain ⟨o1,hF,hK1⟩:=qd hF
 refine qm (rL (fun m e w'=>∃ (b2:Bool) (i6:Int) (i7:Int) (i8:Int) (i9:Int) (i10:Int) (i11:Int),qbq a_0 a_1 a_3 r4 m b2 i6 i7 i8 i9 i10 i11=some o1∧e=[(0,.pointer p1),(6,.pointer (some ⟨bb1,0,none⟩)),(8,.pointer (some ⟨bb2,0,none⟩)),(11,.pointer (some ⟨bb3,0,none⟩)),(12,.pointer (some ⟨bb4,0,none⟩)),(13,.pointer (some ⟨bb5,0,none⟩)),(37,.slice p6 r4.length k5),(38,.int .i64 (r4.length:Int)),(39,.int .i64 i11)]∧SH w w' [Ch.own S5 (r4:List Int) [.slice p6 r4.length k5],Ch.box bb5 [.bool b2] 4,Ch.box bb4 [.int .i64 i6,.int .i64 i7,.int .i64 i8,.int .i64 i9,.int .i64 i10] 140,Ch.box bb3 [.int .i64 0,.int .i64 0,.int .i64 0,.int .i64 0,.int .i64 0] 140,Ch.box bb2 (qaa a_3 p3 p4 p5 k2 k3 k4) 57,Ch.box bb1 (qaq a_1) 77]) n ⟨_,_,_,_,_,_,_,hF,rfl,h⟩ rfl ?_)
 rintro m1 e1 w12 ⟨b2,i6,i7,i8,i9,i10,i11,hF,rfl,h⟩
 rcases m1 with _|m1
 ·cases hF
 refine X0 5 rfl (qh rfl hF ?_ ?_)<;>intro hF
 ·refine zKSBSR ?_
  obtain ⟨y1,hy1,hF,he1,b3,_,q1,cs6,hp1,hq1,rfl,hc2⟩:=(h.sl 0 rfl).1.ix hF
  refine zx hp1 hq1 ⟨he1.1,qD he1.2.1 (h.sl 0 rfl).2⟩ rfl (zc 0 hc2 rfl (X0 5 rfl ?_))
  obtain ⟨y2,hy2,hF⟩:=qd hF
  obtain ⟨b4,o_2,cs7,rfl,-,hr7,hc3⟩:=PtR.get s1 hy2
  obtain ⟨p7,p8,k6,rfl,s6,s7⟩:=qim hr7
  refine zp2 rfl (zc 0 (hc3.below h.below) rfl ?_)
  obtain ⟨y3,hy3,hF⟩:=qd hF
  obtain ⟨b5,o_3,cs8,rfl,-,hr8,hc4⟩:=PtR.get s6 hy3
  obtain ⟨p9,k7,p10,k8,p11,k9,p12,k10,p13,k11,p14,k12,p15,k13,p16,k14,p17,k15,p18,k16,rfl,s8,s9,s10,s11,s12,s13,s14,s15,s16,s17⟩:=qcE hr8
  refine zp2 rfl (zc 6 (hc4.below h.below) rfl (zp1 rfl ?_))
  obtain ⟨y4,hy4,hF,he2,b6,_,q2,cs9,hp2,hq2,hr9,hc5⟩:=s14.ix hF
  obtain rfl:=qa1 hr9
  refine zxe hp2 hq2 he2 rfl (zp1 rfl (zc 0 (hc5.below h.below) rfl (X1 7 4 h rfl ?_)))
  obtain ⟨y5,hy5,hF,he3,b7,_,q3,cs10,hp3,hq3,rfl,hc6⟩:=s3.ix hF
  refine zxe hp3 hq3 he3 rfl (zc 0 (hc6.below h.below) rfl (qc6 (qh rfl hF ?_ ?_)))<;>intro hF
  ·refine qc0 (rA [] [4,5] h rfl fun w13 h=>M0 7 [0,1,2] (h.pick [4,5] rfl) rfl (Al 3 15 0 hc3 (h.pick [4,5] rfl) rfl (M2 511 [4,5,6,7,8] 1 0 (h.pick [4,5] rfl) rfl ?_)))
   obtain ⟨y6,hy6,hF,he4,b8,_,q4,cs11,hp4,hq4,hr11,hc8⟩:=s5.ix hF
   obtain rfl:=qx hr11
   refine Ae 9 1023 hp4 hq4 he4 (h.pick [4,5] rfl) rfl (Al 10 2047 0 hc8 (h.pick [4,5] rfl) rfl ?_)
   obtain ⟨r5,hr12,hF⟩:=qd hF
   obtain ⟨r6,r7⟩:=r5
   refine qnw (fun e w'=>∃ (bb31:Nat) (bb32:Nat),e=[(0,.pointer (some ⟨b4,o_2,none⟩)),(11,.pointer (some ⟨bb3,0,none⟩)),(12,.pointer (some ⟨bb4,0,none⟩)),(13,.pointer (some ⟨bb5,0,none⟩)),(18,.int .i64 y4.Be),(19,.pointer (some ⟨bb32,0,none⟩)),(20,.pointer (some ⟨bb31,0,none⟩)),(37,.slice p6 r4.length k5),(38,.int .i64 (r4.length:Int)),(39,.int .i64 i11),(6,.pointer (some ⟨bb1,0,none⟩)),(8,.pointer (some ⟨bb2,0,none⟩))]∧SH w w' [Ch.box bb31 (qgP r7) 138,Ch.box bb32 (qgP r6) 138,Ch.own S5 (r4:List Int) [.slice p6 r4.length k5],Ch.box bb5 [.bool b2] 4,Ch.box bb4 [.int .i64 i6,.int .i64 i7,.int .i64 i8,.int .i64 i9,.int .i64 i10] 140,Ch.box bb3 [.int .i64 0,.int .i64 0,.int .i64 0,.int .i64 0,.int .i64 0] 140,Ch.box bb2 (qaa a_3 p3 p4 p5 k2 k3 k4) 57,Ch.box bb1 (qaq a_1) 77]) 0 (bits 19 524287) ?_ ?_
   ·intro K
    refine qqp 11 15 16 rfl rfl rfl (bits 19 4095) (bits 19 34815) (bits 19 67583) (by kernel_rfl) (by kernel_rfl) (by kernel_rfl) (by kernel_rfl) ?_ ?_ ?_
    ·refine qaP (r6,r7) h (cB 224 rfl) (qeK (h.old s6) (h.old ha2) (qA y6) hr12) rfl rfl rfl rfl fun w54 S32 us15 hv22 hr37=>?_
     obtain ⟨S33,S34,cs28,us16,rfl,hv23,hr38⟩:=hv22.cons hr37
     obtain rfl:=qx (hv23.sh.own 0 rfl)
     obtain ⟨cs29,rfl,h⟩:=hv23.last hr38
     obtain rfl:=qx (h.own 0 rfl)
     refine G0 32767 [12,13,14] (h.pick [6,7] rfl) rfl (At 15 16 65535 98303 rfl ?_ ?_)
     ·refine qp qa h rfl rfl rfl fun w55 bb29 h=>Ag (h.pick [7,8] rfl) (Ao 16 131071 rfl (qp qa h rfl rfl rfl fun w56 bb30 h=>Ag (h.pick [8,9] rfl) (Ao 17 262143 rfl (zs 1 h rfl fun w57 h=>Ag (h.pick [8,9] rfl) (Ao 18 524287 rfl (zs 0 h rfl fun w58 h=>Ag (h.pick [8,9] rfl) ?_))))))
      replace h:=h.pick [0,1,4,5,6,7,8,9] rfl
      exact qft [(0,_),(11,_),(12,_),(13,_),(18,_),(19,_),(20,_),(37,_),(38,_),(39,_),(6,_),(8,_)] ⟨rfl,rfl,rfl,rfl,rfl,rfl,rfl,rfl,rfl,rfl,rfl,rfl,trivial⟩ (K _ _ ⟨_,_,rfl,h⟩)
     refine qp qa h rfl rfl rfl fun w55 bb29 h=>Ag (h.pick [7,8] rfl) (Ao 15 131071 rfl (qp qa h rfl rfl rfl fun w56 bb30 h=>Ag (h.pick [8,9] rfl) (Ao 17 262143 rfl (zs 0 h rfl fun w57 h=>Ag (h.pick [8,9] rfl) (Ao 18 524287 rfl (zs 1 h rfl fun w58 h=>Ag (h.pick [8,9] rfl) ?_))))))
     replace h:=h.pick [1,0,4,5,6,7,8,9] rfl
     exact qft [(0,_),(11,_),(12,_),(13,_),(18,_),(19,_),(20,_),(37,_),(38,_),(39,_),(6,_),(8,_)] ⟨rfl,rfl,rfl,rfl,rfl,rfl,rfl,rfl,rfl,rfl,rfl,rfl,trivial⟩ (K _ _ ⟨_,_,rfl,h⟩)
    ·refine qp qa h rfl rfl rfl fun w54 bb29 h=>Ag (h.pick [5,6] rfl) (At 11 16 36863 100351 rfl ?_ ?_)
     ·refine qaP (r6,r7) h (cB 224 rfl) (qeK (h.old s6) (h.old ha2) (qA y6) hr12) rfl rfl rfl rfl fun w55 S32 us15 hv22 hr37=>?_
      obtain ⟨S33,S34,cs28,us16,rfl,hv23,hr38⟩:=hv22.cons hr37
      obtain rfl:=qx (hv23.sh.own 0 rfl)
      obtain ⟨cs29,rfl,h⟩:=hv23.last hr38
      obtain rfl:=qx (h.own 0 rfl)
      refine G0 65535 [12,13,14] (h.pick [7,8] rfl) rfl (Ao 16 131071 rfl (qp qa h rfl rfl rfl fun w56 bb30 h=>Ag (h.pick [8,9] rfl) (Ao 17 262143 rfl (zs 3 h rfl fun w57 h=>Ag (h.pick [8,9] rfl) (Ao 18 524287 rfl (zs 0 h rfl fun w58 h=>Ag (h.pick [8,9] rfl) ?_))))))
      replace h:=h.pick [0,3,4,5,6,7,8,9] rfl
      exact qft [(0,_),(11,_),(12,_),(13,_),(18,_),(19,_),(20,_),(37,_),(38,_),(39,_),(6,_),(8,_)] ⟨rfl,rfl,rfl,rfl,rfl,rfl,rfl,rfl,rfl,rfl,rfl,rfl,trivial⟩ (K _ _ ⟨_,_,rfl,h⟩)
     refine qp qa h rfl rfl rfl fun w55 bb30 h=>Ag (h.pick [6,7] rfl) (Ao 11 102399 rfl (qaP (r6,r7) h (cB 224 rfl) (qeK (h.old s6) (h.old ha2) (qA y6) hr12) rfl rfl rfl rfl fun w56 S32 us15 hv22 hr37=>?_))
     obtain ⟨S33,S34,cs28,us16,rfl,hv23,hr38⟩:=hv22.cons hr37
     obtain rfl:=qx (hv23.sh.own 0 rfl)
     obtain ⟨cs29,rfl,h⟩:=hv23.last hr38
     obtain rfl:=qx (h.own 0 rfl)
     refine G0 131071 [12,13,14] (h.pick [8,9] rfl) rfl (Ao 17 262143 rfl (zs 3 h rfl fun w57 h=>Ag (h.pick [8,9] rfl) (Ao 18 524287 rfl (zs 2 h rfl fun w58 h=>Ag (h.pick [8,9] rfl) ?_))))
     replace h:=h.pick [2,3,4,5,6,7,8,9] rfl
     exact qft [(0,_),(11,_),(12,_),(13,_),(18,_),(19,_),(20,_),(37,_),(38,_),(39,_),(6,_),(8,_)] ⟨rfl,rfl,rfl,rfl,rfl,rfl,rfl,rfl,rfl,rfl,rfl,rfl,trivial⟩ (K _ _ ⟨_,_,rfl,h⟩)
    refine qp qa h rfl rfl rfl fun w54 bb29 h=>Ag (h.pick [5,6] rfl) (At 11 15 69631 100351 rfl ?_ ?_)
    ·refine qaP (r6,r7) h (cB 224 rfl) (qeK (h.old s6) (h.old ha2) (qA y6) hr12) rfl rfl rfl rfl fun w55 S32 us15 hv22 hr37=>?_
     obtain ⟨S33,S34,cs28,us16,rfl,hv23,hr38⟩:=hv22.cons hr37
     obtain rfl:=qx (hv23.sh.own 0 rfl)
     obtain ⟨cs29,rfl,h⟩:=hv23.last hr38
     obtain rfl:=qx (h.own 0 rfl)
     refine G0 98303 [12,13,14] (h.pick [7,8] rfl) rfl (Ao 15 131071 rfl (qp qa h rfl rfl rfl fun w56 bb30 h=>Ag (h.pick [8,9] rfl) (Ao 17 262143 rfl (zs 0 h rfl fun w57 h=>Ag (h.pick [8,9] rfl) (Ao 18 524287 rfl (zs 3 h rfl fun w58 h=>Ag (h.pick [8,9] rfl) ?_))))))
     replace h:=h.pick [3,0,4,5,6,7,8,9] rfl
     exact qft [(0,_),(11,_),(12,_),(13,_),(18,_),(19,_),(20,_),(37,_),(38,_),(39,_),(6,_),(8,_)] ⟨rfl,rfl,rfl,rfl,rfl,rfl,rfl,rfl,rfl,rfl,rfl,rfl,trivial⟩ (K _ _ ⟨_,_,rfl,h⟩)
    refine qp qa h rfl rfl rfl fun w55 bb30 h=>Ag (h.pick [6,7] rfl) (Ao 11 102399 rfl (qaP (r6,r7) h (cB 224 rfl) (qeK (h.old s6) (h.old ha2) (qA y6) hr12) rfl rfl rfl rfl fun w56 S32 us15 hv22 hr37=>?_))
    obtain ⟨S33,S34,cs28,us16,rfl,hv23,hr38⟩:=hv22.cons hr37
    obtain rfl:=qx (hv23.sh.own 0 rfl)
    obtain ⟨cs29,rfl,h⟩:=hv23.last hr38
    obtain rfl:=qx (h.own 0 rfl)
    refine G0 131071 [12,13,14] (h.pick [8,9] rfl) rfl (Ao 17 262143 rfl (zs 2 h rfl fun w57 h=>Ag (h.pick [8,9] rfl) (Ao 18 524287 rfl (zs 3 h rfl fun w58 h=>Ag (h.pick [8,9] rfl) ?_))))
    replace h:=h.pick [3,2,4,5,6,7,8,9] rfl
    exact qft [(0,_),(11,_),(12,_),(13,_),(18,_),(19,_),(20,_),(37,_),(38,_),(39,_),(6,_),(8,_)] ⟨rfl,rfl,rfl,rfl,rfl,rfl,rfl,rfl,rfl,rfl,rfl,rfl,trivial⟩ (K _ _ ⟨_,_,rfl,h⟩)
   rintro e6 w59 ⟨bb31,bb32,rfl,h⟩
   refine Ad (rA [] [0,1,6] h rfl fun w60 h=>M1 7 [0,1,2] 2 (h.pick [0,1,6] rfl) rfl ?_)
   obtain ⟨y9,hy9,hF,he7,b10,_,q7,cs30,hp7,hq7,hr40,hc11⟩:=s4.ix hF
   obtain rfl:=qx hr40
   refine Ae 3 15 hp7 hq7 he7 (h.pick [0,1,6] rfl) rfl (Al 4 31 0 hc11 (h.pick [0,1,6] rfl) rfl (M2 191 [5,7] 1 0 (h.pick [0,1,6] rfl) rfl (Ao 6 255 rfl (zcO h hF (qoW (qA y9) (qA r6)) rfl fun r10 w61 S36 cs31 h hF=>?_))))
   obtain rfl:=qx (h.own 0 rfl)
   refine Ag (h.pick [1,2,7] rfl) (Ao 8 511 rfl ?_)
   replace h:=h.pick [4,5,0,1,2,3,6,7,8] rfl
   obtain ⟨o4,hr42,hF⟩:=qd hF
   obtain ⟨x7,x8⟩:=o4
   refine qvb (cB 222 rfl) (qjC h hr42) rfl rfl rfl rfl fun w62 h=>?_
   replace h:SH _ _ [Ch.box bb5 [.bool x8] 4,Ch.box bb4 (qgG x7) 140,Ch.own S36 (r10:qc) (qgP r10),Ch.box bb31 (qgP r7) 138,Ch.box bb32 (qgP r6) 138,Ch.own S5 (r4:List Int) [.slice p6 r4.length k5],Ch.box bb3 [.int .i64 0,.int .i64 0,.int .i64 0,.int .i64 0,.int .i64 0] 140,Ch.box bb2 (qaa a_3 p3 p4 p5 k2 k3 k4) 57,Ch.box bb1 (qaq a_1) 77]:=h
   refine Ag (h.pick [3,4,7] rfl) (Ad (X0 5 rfl ?_))
   replace h:=h.pick [5,0,1,6,7,8] rfl
   exact rK ⟨_,_,_,_,_,_,_,hF,rfl,h⟩ rfl
  exact X0 6 rfl (rK ⟨_,_,_,_,_,_,_,hF,rfl,h⟩ rfl)
 refine qq rfl ?_
 obtain rfl:=qb hF;replace hF:=hK1
 refine X1 6 1 h rfl (qh rfl hF ?_ ?_)<;>intro hF
 ·refine zSR (r_v (qW qa [] [] rfl rfl rfl rfl rfl rfl rfl rfl) rfl (zp1 rfl (zs 3 h rfl fun w63 h=>qc6 ?_)))
  obtain rfl:=qb hF
  exact qab qa (ρ:=(Bool × qe)) [GoT.v Bool [.bool false],GoT.v qe [.int .i64 0,.int .i64 0,.int .i64 0,.int .i64 0,.int .i64 0]] h ⟨rfl,⟨_,_,_,rfl,rfl,h.box 3 rfl,rfl⟩,trivial⟩ (PV.done h (qao h (qz (S:=fun _=>False) rfl) (qaj (qz (S:=fun _=>False) (qaL (⟨0,(⟨0,0⟩:qc),(⟨0,0⟩:qc)⟩:qe)))) (by rfl)))
 refine zKS (rA [] [2] h rfl fun w64 h=>M1 3 [0,1] 0 (h.pick [2] rfl) rfl (Ao 2 7 rfl (zs 3 h rfl fun w65 h=>Ag (h.pick [2] rfl) (Ad ?_))))
 obtain rfl:=qb hF
 exact qab qa (ρ:=(Bool × qe)) [GoT.v Bool [.bool true],GoT.v qe [.int .i64 i6,.int .i64 i7,.int .i64 i8,.int .i64 i9,.int .i64 i10]] h ⟨rfl,⟨_,_,_,rfl,rfl,h.box 3 rfl,rfl⟩,trivial⟩ (PV.done h (qao h (qz (S:=fun _=>False) rfl) (qaj (qz (S:=fun _=>False) (qaL (⟨i6,(⟨i7,i8⟩:qc),(⟨i9,i10⟩:qc)⟩:qe)))) (by rfl)))
def qaV (g:(Option Tgraph)) (c:qy) (sources:(List qe)) (order:(List Int)):Nat→(List qc)→(List qc)→(List Bool)→Int→Option (Flow (qn × Bool) ((List qc) × (List qc) × (List Bool) × Int))
 | 0,_,_,_,_=>none
 | n+1,x1,x2,x3,i1 =>
  bif decide (i1<(order.length:Int)) then
   (idx order i1).bind fun y2 =>
   (qds n g c sources (⟨x3,x2,x1⟩:qn) y2).bind fun o=>match o with
    | (r3,r4) =>
     (
      bif r3 then
       (qgX n (⟨r4.Af.Am,r4.Af.Ay⟩:qc)).bind fun r5 =>
       some (!r5)
      else
       some false).bind fun b3 =>
     bif b3 then some (.ret ((⟨[],[],[]⟩:qn),false)) else
     (idx x3 y2).bind fun _ =>
     (idx x2 y2).bind fun _ =>
     (idx x1 y2).bind fun _ =>
     qaV g c sources order n (setS x1 y2 (⟨r4.Aq.Am,r4.Aq.Ay⟩:qc)) (setS x2 y2 (⟨r4.Af.Am,r4.Af.Ay⟩:qc)) (setS x3 y2 r3) (W64 (i1+1))
  else
   some (.nxt (x1,x2,x3,i1))
def qdr (n:Nat) (g:(Option Tgraph)) (c:qy) (sources:(List qe)) (order:(List Int)):Option (qn × Bool) :=
 (g).bind fun y1 =>
 (qhF n y1.view).bind fun r1 =>
 (qaV g c sources order n r1.Aq r1.Af r1.Aj 0).bind fun o=>match o with
 | .ret r=>some r
 | .nxt (x1,x2,x3,_) =>
  some ((⟨x3,x2,x1⟩:qn),true)
theorem qlQ {g:(Option Tgraph)} {c:qy} {sources:(List qe)} {order:(List Int)} (ha1:GoT.R w (old w) g cs1) (ha2:GoT.R w (old w) c cs2) (ha3:GoT.R w (old w) sources cs3) (ha4:GoT.R w (old w) order cs4) {r:(qn × Bool)} (hF:qdr n g c sources order=some r):RetV Tryz.prog 79 [GoT.v (Option Tgraph) cs1,GoT.v qy cs2,GoT.v (List qe) cs3,GoT.v (List Int) cs4] w r:=by
 obtain ⟨p1,rfl,s1⟩:=qb0 ha1
 obtain rfl:=qah ha2
 obtain ⟨p2,k1,rfl,s2⟩:=ha3
 obtain ⟨p3,k2,rfl,s3⟩:=ha4
 refine zV 62 Tryz.func79 rfl fun h=>zSR (qv h rfl rfl fun w1 bb1 h=>qp qa h rfl rfl rfl fun w2 bb2 h=>X0 5 rfl ?_)
 obtain ⟨y1,hy1,hF⟩:=qd hF
 obtain ⟨b1,o_1,cs5,rfl,-,hr1,hc1⟩:=PtR.get s1 hy1
 obtain ⟨p4,p5,k3,rfl,s4,s5⟩:=qim hr1
 refine zp2 rfl (zc 0 (hc1.below h.below) rfl (zcO h hF (qmj (h.old s4)) rfl fun r1 w3 S1 cs6 h hF=>?_))
 obtain ⟨p6,k4,p7,k5,p8,k6,rfl,-,-,-⟩:=qad (h.own 0 rfl)
 refine qp qa h rfl rfl rfl fun w4 bb3 h=>zs 0 h rfl fun w5 h=>X0 8 rfl ?_
 replace h:=h.pick [1,0,2,3] rfl
 obtain ⟨S2,S3,S4,h⟩:=qaE h
 obtain ⟨o1,hF,hK1⟩:=qd hF
 refine qm (rL (fun m e w'=>∃ (x1:(List qc)) (x2:(List qc)) (x3:(List Bool)) (i1:Int),qaV g c sources order m x1 x2 x3 i1=some o1∧e=[(0,.pointer (some ⟨b1,o_1,none⟩)),(2,.slice p2 sources.length k1),(5,.pointer (some ⟨bb1,0,none⟩)),(8,.pointer (some ⟨bb2,0,none⟩)),(10,.pointer (some ⟨bb3,0,none⟩)),(20,.slice p3 order.length k2),(21,.int .i64 (order.length:Int)),(22,.int .i64 i1)]∧SH w w' [Ch.own S4 (x1:List qc) [.slice p8 r1.Aq.length k6],Ch.own S3 (x2:List qc) [.slice p7 r1.Af.length k5],Ch.own S2 (x3:List Bool) [.slice p6 r1.Aj.length k4],Ch.box bb3 (qaa r1 p6 p7 p8 k4 k5 k6) 57,Ch.box bb2 [.slice none 0 0,.slice none 0 0,.slice none 0 0] 57,Ch.box bb1 (qaq c) 77]) n ⟨_,_,_,_,hF,rfl,h⟩ rfl ?_)
 rintro m1 e1 w6 ⟨x1,x2,x3,i1,hF,rfl,h⟩
 rcases m1 with _|m1
 ·cases hF
 refine X0 5 rfl (qh rfl hF ?_ ?_)<;>intro hF
 ·refine zKSBSR ?_
  obtain ⟨y2,hy2,hF,he1,b2,_,q1,cs7,hp1,hq1,rfl,hc3⟩:=s3.ix hF
  refine zxe hp1 hq1 he1 rfl (zc 0 (hc3.below h.below) rfl (X2 9 5 3 h rfl ?_))
  obtain ⟨r2,hr4,hF⟩:=qd hF
  obtain ⟨r3,r4⟩:=r2
  refine qaP (r3,r4) h (cB 157 rfl) (qlX (h.old s1) (h.old ha2) ⟨_,_,rfl,(h.oldS s2)⟩ ⟨[.slice p6 r1.Aj.length k4],[.slice p7 r1.Af.length k5,.slice p8 r1.Aq.length k6],rfl,(h.own 2 rfl),⟨[.slice p7 r1.Af.length k5],[.slice p8 r1.Aq.length k6],rfl,(h.own 1 rfl),(h.own 0 rfl)⟩⟩ hr4) rfl rfl rfl rfl fun w7 S5 us1 hv1 hr5=>?_
  obtain ⟨S6,us2,rfl,hv2,hr6⟩:=hv1.consB hr5
  obtain ⟨cs8,rfl,h⟩:=hv2.last hr6
  obtain rfl:=qX (h.own 0 rfl)
  refine zp3 rfl (qp qa h rfl rfl rfl fun w8 bb4 h=>zp1 rfl (zs 0 h rfl fun w9 h=>zNSS ?_))
  obtain ⟨KF1,hKF1,o2,hF,hK2⟩:=bindE hF
  refine qba (fun e w'=>∃ (b3:Bool),KF1 b3=some o1∧e=[(0,.pointer (some ⟨b1,o_1,none⟩)),(2,.slice p2 sources.length k1),(5,.pointer (some ⟨bb1,0,none⟩)),(8,.pointer (some ⟨bb2,0,none⟩)),(10,.pointer (some ⟨bb3,0,none⟩)),(12,.int .i64 y2),(13,.bool r3),(14,.pointer (some ⟨bb4,0,none⟩)),(20,.slice p3 order.length k2),(21,.int .i64 (order.length:Int)),(22,.int .i64 i1),(41,.bool b3)]∧SH w w' [Ch.box bb4 (qgG r4) 140,Ch.own S4 (x1:List qc) [.slice p8 r1.Aq.length k6],Ch.own S3 (x2:List qc) [.slice p7 r1.Af.length k5],Ch.own S2 (x3:List Bool) [.slice p6 r1.Aj.length k4],Ch.box bb3 (qaa r1 p6 p7 p8 k4 k5 k6) 57,Ch.box bb2 [.slice none 0 0,.slice none 0 0,.slice none 0 0] 57,Ch.box bb1 (qaq c) 77]) ?_ ?_
  ·refine X0 3 rfl (qk (t:=36) hF rfl ?_ ?_)<;>intro hF
   ·refine X1 5 0 h rfl (zcB h hF (qiW (qA _)) rfl fun r5 w15 h hF=>X0 4 rfl ?_)
    replace h:=h.pick [0,2,3,4,5,6,7] rfl
    obtain rfl:=qb hF
    exact rG ⟨_,hK2,rfl,h⟩ rfl
   refine X0 6 rfl ?_
   replace h:=h.pick [0,2,3,4,5,6,7] rfl
   obtain rfl:=qb hF
   exact rG ⟨_,hK2,rfl,h⟩ rfl
  rintro e2 w16 ⟨b3,hF,rfl,h⟩
  subst hKF1
  refine qh rfl hF ?_ ?_<;>intro hF
  ·refine zSR (r_v (qW qa [] [] rfl rfl rfl rfl rfl rfl rfl rfl) rfl (zs 5 h rfl fun w10 h=>X0 2 rfl ?_))
   obtain rfl:=qb hF;replace hF:=hK1
   obtain rfl:=qb hF
   exact qab qa (ρ:=(qn × Bool)) [GoT.v qn [.slice none 0 0,.slice none 0 0,.slice none 0 0],GoT.v Bool [.bool false]] h ⟨⟨_,_,_,rfl,rfl,h.box 5 rfl,rfl⟩,rfl,trivial⟩ (PV.done h (qao h (qcD (⟨[],[],[]⟩:qn) h qb3 qb3 qb3 (by rfl) (by rfl)) (qaj (qz (S:=fun _=>False) rfl)) (by rfl)))
  refine qhE (rA [] [0,4] h rfl fun w11 h=>M4 8191 [0,1,2,3,4,5,6,7,8,9,10,11,12] 1 1 1 0 (h.pick [0,4] rfl) rfl (M1 16383 [13] 0 (h.pick [0,4] rfl) rfl ?_))
  obtain ⟨y3,hy3,hF,he2,b4,_,q2,cs9,hp2,hq2,rfl,hc5⟩:=(h.sl 3 rfl).1.ix hF
  refine Ax 14 32767 hp2 hq2 ⟨he2.1,qD he2.2.1 (h.sl 3 rfl).2⟩ (h.pick [0,4] rfl) rfl (Ao 15 65535 rfl (qau qa 3 0 r3 h rfl hy3 hp2 hq2 rfl hc5 rfl rfl rfl rfl rfl rfl rfl fun w12 h=>Ag (h.pick [0,4] rfl) ?_))
  obtain ⟨y4,hy4,hF,he3,b5,_,q3,cs10,hp3,hq3,hr9,hc6⟩:=(h.sl 2 rfl).1.ix hF
  obtain rfl:=qx hr9
  refine Ax 16 131071 hp3 hq3 ⟨he3.1,qD he3.2.1 (h.sl 2 rfl).2⟩ (h.pick [0,4] rfl) rfl (Ao 17 262143 rfl (qau qa 2 0 (⟨r4.Af.Am,r4.Af.Ay⟩:qc) h rfl hy4 hp3 hq3 (qA y4) hc6 rfl rfl rfl (qA (⟨r4.Af.Am,r4.Af.Ay⟩:qc)) rfl rfl rfl fun w13 h=>Ag (h.pick [0,4] rfl) ?_))
  obtain ⟨y5,hy5,hF,he4,b6,_,q4,cs11,hp4,hq4,hr10,hc7⟩:=(h.sl 1 rfl).1.ix hF
  obtain rfl:=qx hr10
  refine Ax 18 524287 hp4 hq4 ⟨he4.1,qD he4.2.1 (h.sl 1 rfl).2⟩ (h.pick [0,4] rfl) rfl (Ao 19 1048575 rfl (qau qa 1 0 (⟨r4.Aq.Am,r4.Aq.Ay⟩:qc) h rfl hy5 hp4 hq4 (qA y5) hc7 rfl rfl rfl (qA (⟨r4.Aq.Am,r4.Aq.Ay⟩:qc)) rfl rfl rfl fun w14 h=>Ag (h.pick [0,4] rfl) (Ad (X0 5 rfl ?_))))
  replace h:=h.pick [1,2,3,4,5,6] rfl
  exact rK ⟨_,_,_,_,hF,rfl,h⟩ rfl
 refine qq rfl ?_
 obtain rfl:=qb hF;replace hF:=hK1
 refine X1 3 3 h rfl (zs 4 h rfl fun w17 h=>X0 2 rfl ?_)
 obtain rfl:=qb hF
 exact qab qa (ρ:=(qn × Bool)) [GoT.v qn (qaa r1 p6 p7 p8 k4 k5 k6),GoT.v Bool [.bool true]] h ⟨⟨_,_,_,rfl,rfl,h.box 4 rfl,rfl⟩,rfl,trivial⟩ (PV.done h (qao h (qcD (⟨x3,x2,x1⟩:qn) h (qap 2 h rfl) (qap 1 h rfl) (qap 0 h rfl) (by rfl) (by rfl)) (qaj (qz (S:=fun _=>False) rfl)) (by rfl)))
end Go.Fw


namespace Go.Fw
open Go
set_option maxRecDepth 100000
theorem qsL {n m:Nat} {a b mode:Int}:qfh n a b mode=qcp m a b mode:=by
 unfold qfh qcp
 cases quoS a b with
 | none=>rfl
 | some y1 =>
  cases remS a b with
  | none=>rfl
  | some y2 =>
   simp only [jd]
   generalize decide (y2<0)=p
   generalize decide (y2 > 0)=q
   generalize (mode==0)=m0
   generalize (mode==1)=m1
   cases p<;>cases q<;>cases m0<;>cases m1<;>rfl
theorem qw4 {a b:Int} (hb:0<b):-(if a<0 then -a else a)≤a.tdiv b∧a.tdiv b≤(if a<0 then -a else a):=by
 by_cases h:a<0
 ·rw [if_pos h]
  have e:a.tdiv b=-((-a).tdiv b):=by rw [Int.neg_tdiv,Int.neg_neg]
  rw [e,jD (show 0≤-a by omega)]
  have h1:=Int.ediv_nonneg (show 0≤-a by omega) (show 0≤b by omega)
  have h2:=Int.ediv_le_self (a:=-a) b (by omega)
  omega
 ·rw [if_neg h,jD (by omega)]
  have h1:=Int.ediv_nonneg (show 0≤a by omega) (show 0≤b by omega)
  have h2:=Int.ediv_le_self (a:=a) b (by omega)
  omega
theorem qk4 {n:Nat} {a b mode:Int} (hb:0<b) (h0:-9000000000000000000≤a) (h1:a≤9000000000000000000):qcp n a b mode=some (divI a b mode):=by
 have ht:=qw4 (a:=a) hb
 have hq:-9000000000000000000≤a.tdiv b∧a.tdiv b≤9000000000000000000:=by
  revert ht
  split<;>intro ht<;>omega
 unfold qcp quoS remS divI
 rw [if_neg (by omega),if_neg (by omega)]
 have hw:IntKind.i64.wrap (a.tdiv b)=a.tdiv b:=qJ (by omega) (by omega)
 simp only [hw,jd]
 rw [wO (a.tdiv b-1),wO (a.tdiv b+1)]
 generalize decide (a.tmod b<0)=p
 generalize decide (a.tmod b > 0)=q
 generalize (mode==0)=m0
 generalize (mode==1)=m1
 cases p<;>cases q<;>cases m0<;>cases m1<;>rfl
theorem qsY {a b mode M:Int} (hb:0<b) (h0:0≤a) (h:a≤b*M):0≤divI a b mode∧divI a b mode≤M:=by
 rw [qsK h0 hb]
 have e:=Int.emod_add_mul_ediv a b
 have h1:=Int.emod_nonneg a (show b ≠ 0 by omega)
 have h2:=Int.ediv_nonneg h0 (show 0≤b by omega)
 have h3:a / b≤M:=Int.ediv_le_of_le_mul hb (by rw [Int.mul_comm];exact h)
 split
 ·rename_i hc
  refine ⟨by omega,?_⟩
  have:a / b<M:=by
   refine Int.lt_of_not_ge fun hg=>?_
   have e2:a / b=M:=by omega
   rw [e2] at e
   omega
  omega
 ·exact ⟨h2,h3⟩
structure AxOk (ax:List Int):Prop where
 lo:1≤ax.length
 hi:ax.length≤4
 at_:∀ j,j<ax.length→0≤at0 ax j∧at0 ax j≤100000
 inc:∀ j i,i<j→j<ax.length→at0 ax i<at0 ax j
theorem qtL {ax:List Int} (h:axisB ax=true):AxOk ax:=by
 unfold axisB lenB incB at h
 simp only [jf,decide_eq_true_eq] at h
 obtain ⟨⟨h1,h2⟩,h3,h4⟩:=h
 rw [qg4 (d:=0),qav] at h3
 rw [qav] at h4
 refine ⟨h1,h2,fun j hj=>by have:=h3 j hj;rw [qbt] at this;exact this,fun j=>?_⟩
 induction j with
 | zero=>intro i hi _;omega
 | succ j ih =>
  intro i hi hj
  have hs:=h4 (j+1) hj
  unfold stepB at hs
  simp only [Bool.or_eq_true,decide_eq_true_eq,Nat.add_sub_cancel] at hs
  have hs':at0 ax j<at0 ax (j+1):=by
   rcases hs with hs|hs
   ·omega
   ·exact hs
  by_cases hij:i=j
  ·rw [hij];exact hs'
  ·have:=ih i (by omega) (by omega);omega
theorem least {P:Nat→Prop}:∀ m,P m→∃ p,p≤m∧P p∧∀ k,k<p→¬ P k:=by
 intro m
 induction m using Nat.strongRecOn with
 | ind m ih =>
  intro hm
  by_cases h:∃ k,k<m∧P k
  ·obtain ⟨k,hk,hp⟩:=h
   obtain ⟨p,h1,h2,h3⟩:=ih k hk hp
   exact ⟨p,by omega,h2,h3⟩
  ·exact ⟨m,je _,hm,fun k hk hp=>h ⟨k,hk,hp⟩⟩
structure Wt (ax:List Int) (i:Nat) (a b:Int):Prop where
 il:i<ax.length
 a0:0<a
 a1:a≤100000
 b0:0≤b
 b1:b≤100000
 nx:0<b→i+1<ax.length
 one:b=0→a=1
def wtL (i:Nat) (a b:Int):List Tweight:=if b=0 then [⟨(i:Int),1⟩] else [⟨(i:Int),a⟩,⟨((i+1:Nat):Int),b⟩]
def clampV (ax:List Int) (x:Int):Int:=if at0 ax (ax.length-1)<(if at0 ax 0 > x then at0 ax 0 else x) then at0 ax (ax.length-1) else (if at0 ax 0 > x then at0 ax 0 else x)
theorem qyq {m:Nat} (h:m≤8):shrS .u64 (IntKind.wrap .u64 (W64 (m:Int))) 1=some ((m / 2:Nat):Int):=by
 rcases (by omega:m=0∨m=1∨m=2∨m=3∨m=4∨m=5∨m=6∨m=7∨m=8) with e|e|e|e|e|e|e|e|e<;>rw [e]<;>rfl
theorem qvt {ax:List Int} (h:AxOk ax) {c:Int} {p:Nat} (hp:p<ax.length) (h1:c≤at0 ax p) (h2:∀ k,k<p→at0 ax k<c) :
  Ev (fun n=>qc4 n ax c) ((p:Int),(at0 ax p==c)):=by
 have hhi:=h.hi
 have main:∀ d i j,j-i≤d→i≤p→p≤j→j≤ax.length→Ev (fun n=>qaw ax c n (i:Int) (j:Int)) ((p:Int),(p:Int)):=by
  intro d
  induction d with
  | zero =>
   intro i j hd hi hj hl
   refine Ev.succ ?_
   simp only [qaw,ql (show j≤i by omega),cond_false]
   rw [show i=p by omega,show j=p by omega]
   exact .done
  | succ d ih =>
   intro i j hd hi hj hl
   refine Ev.succ ?_
   by_cases hij:i<j
   ·have hm:(i+j) / 2<ax.length:=by omega
    simp only [qaw,qj hij,cond_true,←Int.natCast_add,qyq (show i+j≤8 by omega),jd,qJ (x:=(((i+j) / 2:Nat):Int)) (by omega) (by omega),qar hm,qkL,qh0,bne_self_eq_false,cond_false,qc9 (show (i+j) / 2<9223372036854775807 by omega)]
    by_cases hc:at0 ax ((i+j) / 2)<c
    ·refine Ev.tt (by simpa using hc) (ih _ _ (by omega) ?_ hj hl)
     refine Nat.lt_of_not_le fun hg=>?_
     by_cases he:p=(i+j) / 2
     ·rw [←he] at hc;omega
     ·have:=h.inc ((i+j) / 2) p (by omega) hm;omega
    ·refine Ev.ff (by simpa using hc) (ih _ _ (by omega) hi ?_ (by omega))
     refine Nat.le_of_not_lt fun hg=>hc (h2 _ hg)
   ·simp only [qaw,ql (show j≤i by omega),cond_false]
    rw [show i=p by omega,show j=p by omega]
    exact .done
 unfold qc4
 refine Ev.bind (main ax.length 0 ax.length (by omega) (by omega) (by omega) (je _)) ?_
 simp only [qj hp,cond_true,qar hp,jd,qgd,bne_self_eq_false,cond_false]
 cases at0 ax p==c<;>exact .done
theorem qq7 {ax:List Int} (h:AxOk ax) (x:Int):∃ i a b,Wt ax i a b∧Ev (fun n=>qeX n ax x) ((i:Int),a,b)∧Ev (fun n=>qhl n ax x) (wtL i a b,a+b):=by
 have hlo:=h.lo
 have hhi:=h.hi
 have hle:at0 ax 0≤at0 ax (ax.length-1):=by
  by_cases h1:ax.length-1=0
  ·rw [h1];exact jZ _
  ·have:=h.inc (ax.length-1) 0 (by omega) (by omega);omega
 obtain ⟨c,hc⟩:∃ c,c=clampV ax x:=⟨_,rfl⟩
 have hcl:at0 ax 0≤c∧c≤at0 ax (ax.length-1):=by
  rw [hc]
  unfold clampV
  split<;>split at *<;>omega
 obtain ⟨p,hp1,hp2,hp3⟩:=least (P:=fun k=>c≤at0 ax k) (ax.length-1) hcl.2
 have hp:p<ax.length:=by omega
 have hp4:∀ k,k<p→at0 ax k<c:=fun k hk=>by have:=hp3 k hk;omega
 have hs:=qvt h hp hp2 hp4
 have hcv:(if at0 ax (ax.length-1)<(if at0 ax 0 > x then at0 ax 0 else x) then at0 ax (ax.length-1) else (if at0 ax 0 > x then at0 ax 0 else x))=c:=hc.symm
 have hlast:W64 ((ax.length:Int)-1)=((ax.length-1:Nat):Int):=by rw [qe6 (by omega)];omega
 have ib:=h.at_ p hp
 have spec:∀ (R:Int × Int × Int),Ev (fun n=>qbB ax x (at0 ax 0) (at0 ax (ax.length-1)) n (p:Int)) (.ret R)→Ev (fun n=>qeX n ax x) R:=by
  intro R hR
  have main:∀ d j,j=p+d→j<ax.length→Ev (fun n=>qbB ax x (at0 ax 0) (at0 ax (ax.length-1)) n (j:Int)) (.ret R):=by
   intro d
   induction d with
   | zero=>intro j hj _;rw [show j=p by omega];exact hR
   | succ d ih =>
    intro j hj hl
    have hgt:=h.inc j p (by omega) hl
    refine Ev.succ ?_
    simp only [qbB,show decide ((j:Int) ≥ 0)=true from decide_eq_true (by omega),cond_true,qar hl,jd,hcv]
    refine Ev.ff (beq_eq_false_iff_ne.2 (by omega)) (Ev.ff (decide_eq_false (by omega)) ?_)
    rw [show (j:Int)-1=((j-1:Nat):Int) by omega,qJ (by omega) (by omega)]
    exact ih (j-1) (by omega) (by omega)
  unfold qeX
  rw [show (0:Int)=((0:Nat):Int) from rfl,qar (show 0<ax.length by omega),hlast,qar (show ax.length-1<ax.length by omega)]
  simp only [jd]
  exact Ev.bind (main (ax.length-1-p) (ax.length-1) (by omega) (by omega)) .done
 by_cases he:at0 ax p=c
 ·refine ⟨p,1,0,⟨hp,by omega,by omega,by omega,by omega,fun h=>absurd h (by omega),fun _=>rfl⟩,spec _ (Ev.succ ?_),?_⟩
  ·simp only [qbB,show decide ((p:Int) ≥ 0)=true from decide_eq_true (by omega),cond_true,qar hp,jd,hcv]
   exact Ev.tt (beq_iff_eq.2 he.symm) .done
  ·unfold qhl
   rw [show (0:Int)=((0:Nat):Int) from rfl,qar (show 0<ax.length by omega),hlast,qar (show ax.length-1<ax.length by omega)]
   simp only [jd,hcv]
   exact Ev.bind hs (Ev.tt (beq_iff_eq.2 he) (Ev.now rfl))
 ·have hp0:0<p:=by
   refine Nat.pos_of_ne_zero fun e=>he ?_
   rw [e] at hp2 ⊢;omega
  have hlt:=hp4 (p-1) (by omega)
  have ib2:=h.at_ (p-1) (by omega)
  have ew:((p:Int)-1)=((p-1:Nat):Int):=by omega
  refine ⟨p-1,at0 ax p-c,c-at0 ax (p-1),⟨by omega,by omega,by omega,by omega,by omega,fun _=>by omega,fun h=>absurd h (by omega)⟩,spec _ (Ev.succ ?_),?_⟩
  ·simp only [qbB,show decide ((p:Int) ≥ 0)=true from decide_eq_true (by omega),cond_true,qar hp,jd,hcv]
   refine Ev.ff (beq_eq_false_iff_ne.2 (by omega)) (Ev.ff (decide_eq_false (by omega)) ?_)
   rw [ew,qJ (x:=((p-1:Nat):Int)) (by omega) (by omega)]
   refine Ev.succ ?_
   simp only [qbB,show decide (((p-1:Nat):Int) ≥ 0)=true from decide_eq_true (by omega),cond_true,qar (show p-1<ax.length by omega),jd,hcv]
   refine Ev.ff (beq_eq_false_iff_ne.2 (by omega)) (Ev.tt (decide_eq_true (by omega)) ?_)
   rw [qc9 (show p-1<9223372036854775807 by omega),show p-1+1=p by omega,qar hp]
   simp only [jd]
   rw [wO (at0 ax p-c),wO (c-at0 ax (p-1))]
   exact .done
  ·unfold qhl
   rw [show (0:Int)=((0:Nat):Int) from rfl,qar (show 0<ax.length by omega),hlast,qar (show ax.length-1<ax.length by omega)]
   simp only [jd,hcv]
   refine Ev.bind hs (Ev.ff (beq_eq_false_iff_ne.2 he) ?_)
   rw [qar hp,ew,qJ (x:=((p-1:Nat):Int)) (by omega) (by omega),qar (show p-1<ax.length by omega)]
   simp only [jd]
   rw [wO (at0 ax p-c),wO (c-at0 ax (p-1)),wO (at0 ax p-at0 ax (p-1))]
   refine Ev.now ?_
   unfold wtL
   rw [if_neg (by omega),show p-1+1=p by omega]
   congr 2
   omega
end Go.Fw


namespace Go.Fw
open Go
set_option maxRecDepth 100000
structure TbOk (t:qt):Prop where
 s:AxOk t.Bi
 l:AxOk t.Bb
 n:t.Ba.length=t.Bi.length*t.Bb.length
 v:∀ k,-1000000≤at0 t.Ba k∧at0 t.Ba k≤1000000
theorem qu5 {xs:List Int} {k:Nat} (h:¬ k<xs.length):at0 xs k=0:=by simp [at0,jC,List.getElem?_eq_none (show xs.length≤k by omega)]
theorem qvZ {t:qt} (h:tableB t=true):TbOk t:=by
 unfold tableB at h
 simp only [jf,decide_eq_true_eq] at h
 obtain ⟨h1,h2,h3,h4⟩:=h
 rw [qg4 (d:=0),qav] at h4
 refine ⟨qtL h1,qtL h2,h3,fun k=>?_⟩
 by_cases hk:k<t.Ba.length
 ·have:=h4 k hk
  rw [qbt] at this
  exact this
 ·rw [qu5 hk];omega
def tv (t:qt) (i j:Nat):Int:=at0 t.Ba (i*t.Bb.length+j)
theorem mulA {x y Y:Int} (h0:0≤x) (g0:-Y≤y) (g1:y≤Y):-(x*Y)≤x*y∧x*y≤x*Y:=by
 have h1:=Int.mul_le_mul_of_nonneg_left g1 h0
 have h2:=Int.mul_le_mul_of_nonneg_left g0 h0
 rw [Int.mul_neg] at h2
 exact ⟨h2,h1⟩
theorem mulT {w q v:Int} (w0:0≤w) (w1:w≤100000) (q0:0≤q) (q1:q≤100000) (v0:-1000000≤v) (v1:v≤1000000):(0≤w*q∧w*q≤10000000000)∧(-10000000000000000≤w*q*v∧w*q*v≤10000000000000000):=by
 have h1:=jS w0 q0
 have h2:w*q≤100000*100000:=jY w1 q1 q0 (by omega)
 have h3:=mulA (x:=w*q) (y:=v) (Y:=1000000) h1 (by omega) (by omega)
 refine ⟨⟨h1,by omega⟩,?_,?_⟩<;>omega
theorem qyG {t:qt} {i j:Nat} (h:TbOk t) (hi:i<t.Bi.length) (hj:j<t.Bb.length):i*t.Bb.length+j<t.Ba.length∧t.Ba.length≤16:=by
 have h1:=h.s.hi
 have h2:=h.l.hi
 have h3:(i+1)*t.Bb.length≤t.Bi.length*t.Bb.length:=js _ hi
 have h4:t.Bi.length*t.Bb.length≤4*4:=Nat.mul_le_mul h1 h2
 rw [h.n]
 rw [Nat.add_mul] at h3
 omega
theorem sTerm {t:qt} (h:TbOk t) {i j c k:Nat} {a1 b1 a2 b2 w q s:Int} (hc:c<2) (hk:k<2) (hw:w=if c=1 then b1 else a1) (hq:q=if k=0 then a2 else b2)
  (w0:0≤w) (w1:w≤100000) (q0:0≤q) (q1:q≤100000) (hi:0<w→i+c<t.Bi.length) (hj:0<q→j+k<t.Bb.length) (s0:-1000000000000000000≤s) (s1:s≤1000000000000000000) (n:Nat) :
  qck t (i:Int) a1 b1 (j:Int) a2 b2 (c:Int) (n+1) s (k:Int)=qck t (i:Int) a1 b1 (j:Int) a2 b2 (c:Int) n (s+w*q*tv t (i+c) (j+k)) ((k+1:Nat):Int):=by
 have hv:=h.v ((i+c)*t.Bb.length+(j+k))
 obtain ⟨⟨m0,m1⟩,m2,m3⟩:=mulT w0 w1 q0 q1 hv.1 hv.2
 have e5:(bif ((c:Int)==1) then some b1 else some a1)=some w:=by
  rw [hw]
  by_cases h1:c=1
  ·rw [if_pos h1,h1];rfl
  ·rw [if_neg h1,show ((c:Int)==1)=false from beq_eq_false_iff_ne.2 (by omega)];rfl
 have e6:(bif ((k:Int)==0) then some (W64 (w*a2)) else some (W64 (w*b2)))=some (w*q):=by
  have hx:W64 (w*q)=w*q:=qJ (by omega) (by omega)
  by_cases h1:k=0
  ·rw [if_pos h1] at hq
   rw [h1,←hq,hx];rfl
  ·rw [if_neg h1] at hq
   rw [show ((k:Int)==0)=false from beq_eq_false_iff_ne.2 (by omega),←hq,hx];rfl
 rw [qck]
 simp only [show decide ((k:Int)<2)=true from decide_eq_true (by omega),cond_true,e5,e6,jd,wS k]
 by_cases hp:w*q > 0
 ·have hwp:0<w:=by
   by_cases e:w=0
   ·rw [e,Int.zero_mul] at hp;omega
   ·omega
  have hqp:0<q:=by
   by_cases e:q=0
   ·rw [e,Int.mul_zero] at hp;omega
   ·omega
  obtain ⟨x1,x2⟩:=qyG h (hi hwp) (hj hqp)
  have hl:=h.l.hi
  have hs:=h.s.hi
  have hi':=hi hwp
  have hm:((i+c:Nat):Int)*(t.Bb.length:Int)=(((i+c)*t.Bb.length:Nat):Int):=(Int.natCast_mul _ _).symm
  have ei:W64 (W64 (W64 (W64 ((i:Int)+(c:Int))*(t.Bb.length:Int))+(j:Int))+(k:Int))=(((i+c)*t.Bb.length+(j+k):Nat):Int):=by
   rw [wO ((i:Int)+(c:Int)),←Int.natCast_add,hm,qJ (x:=(((i+c)*t.Bb.length:Nat):Int)) (by omega) (by omega),←Int.natCast_add,qJ (x:=(((i+c)*t.Bb.length+j:Nat):Int)) (by omega) (by omega),←Int.natCast_add,qJ (by omega) (by omega),Nat.add_assoc]
  rw [show decide (w*q > 0)=true from decide_eq_true hp,ei,qar x1]
  simp only [cond_true,jd]
  have e7:W64 (s+W64 (w*q*at0 t.Ba ((i+c)*t.Bb.length+(j+k))))=s+w*q*tv t (i+c) (j+k):=by
   unfold tv
   rw [qJ (x:=w*q*at0 t.Ba ((i+c)*t.Bb.length+(j+k))) (by omega) (by omega),qJ (by omega) (by omega)]
  rw [e7]
 ·have h0:w*q=0:=by omega
  rw [show decide (w*q > 0)=false from decide_eq_false hp,h0,Int.zero_mul,Jf]
  rfl
def rowS (t:qt) (j:Nat) (a2 b2:Int) (i:Nat):Int:=a2*tv t i j+b2*tv t i (j+1)
theorem qmk {t:qt} (h:TbOk t) {i j:Nat}:-1000000≤tv t i j∧tv t i j≤1000000:=h.v _
theorem qs2 {t:qt} (h:TbOk t) {i j:Nat} {a2 b2:Int} (a0:0≤a2) (b0:0≤b2):-((a2+b2)*1000000)≤rowS t j a2 b2 i∧rowS t j a2 b2 i≤(a2+b2)*1000000:=by
 have h1:=mulA (x:=a2) (y:=tv t i j) (Y:=1000000) a0 (qmk h).1 (qmk h).2
 have h2:=mulA (x:=b2) (y:=tv t i (j+1)) (Y:=1000000) b0 (qmk h).1 (qmk h).2
 unfold rowS
 omega
theorem sRow {t:qt} (h:TbOk t) {i j c:Nat} {a1 b1 a2 b2 w s:Int} (hc:c<2) (hw:w=if c=1 then b1 else a1) (w0:0≤w) (w1:w≤100000) (hi:0<w→i+c<t.Bi.length) (hW:Wt t.Bb j a2 b2)
  (s0:-100000000000000000≤s) (s1:s≤100000000000000000):Ev (fun n=>qck t (i:Int) a1 b1 (j:Int) a2 b2 (c:Int) n s 0) (s+w*rowS t j a2 b2 (i+c),2):=by
 have ha:=hW.a0
 have hb:=hW.b0
 have t1:=(mulT w0 w1 (show 0≤a2 by omega) hW.a1 (qmk h (i:=i+c) (j:=j)).1 (qmk h).2).2
 refine Ev.step (fun n=>sTerm h hc (k:=0) (w:=w) (q:=a2) (by omega) hw rfl w0 w1 (by omega) hW.a1 hi (fun _=>hW.il) (by omega) (by omega) n) ?_
 refine Ev.step (fun n=>sTerm h hc (k:=1) (w:=w) (q:=b2) (by omega) hw rfl w0 w1 hb hW.b1 hi hW.nx (by show _≤s+w*a2*tv t (i+c) (j+0);rw [Je];omega) (by show s+w*a2*tv t (i+c) (j+0)≤_;rw [Je];omega) n) ?_
 refine Ev.succ ?_
 simp only [qck,show decide (((1+1:Nat):Int)<2)=false from rfl,cond_false]
 refine Ev.now ?_
 unfold rowS
 rw [Int.mul_add,←jV,←jV,Int.add_assoc,Je]
 rfl
theorem iTerm {t:qt} (h:TbOk t) {r5:List Tweight} {i j k:Nat} {w q s:Int} (hk:k<r5.length) (hr:r5.length≤2) (hx:idx r5 (k:Int)=some ⟨(j:Int),q⟩) (w0:0≤w) (w1:w≤100000) (q0:0≤q) (q1:q≤100000)
  (hi:i<t.Bi.length) (hj:j<t.Bb.length) (s0:-1000000000000000000≤s) (s1:s≤1000000000000000000) (n:Nat) :
  qa3 t r5 ⟨(i:Int),w⟩ (n+1) s (k:Int)=qa3 t r5 ⟨(i:Int),w⟩ n (s+w*q*tv t i j) ((k+1:Nat):Int):=by
 have hv:=qmk h (i:=i) (j:=j)
 obtain ⟨_,m2,m3⟩:=mulT w0 w1 q0 q1 hv.1 hv.2
 have m4:=mulA (x:=w) (y:=tv t i j) (Y:=1000000) w0 hv.1 hv.2
 obtain ⟨x1,x2⟩:=qyG h hi hj
 have hl:=h.l.hi
 have hs:=h.s.hi
 have hm:(i:Int)*(t.Bb.length:Int)=((i*t.Bb.length:Nat):Int):=(Int.natCast_mul _ _).symm
 rw [qa3]
 simp only [qj hk,cond_true,hx,jd,wS k,hm]
 rw [qJ (x:=((i*t.Bb.length:Nat):Int)) (by omega) (by omega),←Int.natCast_add,qJ (x:=((i*t.Bb.length+j:Nat):Int)) (by omega) (by omega),qar x1]
 simp only [jd]
 have e7:W64 (s+W64 (W64 (at0 t.Ba (i*t.Bb.length+j)*w)*q))=s+w*q*tv t i j:=by
  have e8:at0 t.Ba (i*t.Bb.length+j)*w=w*tv t i j:=Int.mul_comm _ _
  have e9:w*tv t i j*q=w*q*tv t i j:=by rw [jV,Int.mul_comm (tv t i j) q,←jV]
  rw [e8,wO (w*tv t i j),e9,wO (w*q*tv t i j),qJ (by omega) (by omega)]
 rw [e7]
theorem iRow {t:qt} (h:TbOk t) {i j:Nat} {a2 b2 w s:Int} (w0:0≤w) (w1:w≤100000) (hi:i<t.Bi.length) (hW:Wt t.Bb j a2 b2)
  (s0:-100000000000000000≤s) (s1:s≤100000000000000000):Ev (fun n=>qa3 t (wtL j a2 b2) ⟨(i:Int),w⟩ n s 0) (s+w*rowS t j a2 b2 i,((wtL j a2 b2).length:Int)):=by
 have ha:=hW.a0
 have hb:=hW.b0
 have t1:=(mulT w0 w1 (show 0≤a2 by omega) hW.a1 (qmk h (i:=i) (j:=j)).1 (qmk h).2).2
 by_cases h0:b2=0
 ·have h1:=hW.one h0
  subst h0 h1
  have hl:wtL j 1 0=[⟨(j:Int),1⟩]:=if_pos rfl
  rw [hl]
  refine Ev.step (fun n=>iTerm h (k:=0) (q:=1) (by simp) (by simp) rfl w0 w1 (by omega) (by omega) hi hW.il (by omega) (by omega) n) (Ev.succ ?_)
  simp only [qa3]
  refine Ev.ff rfl (Ev.now ?_)
  unfold rowS
  rw [Int.mul_one,Int.one_mul,Int.zero_mul,Jf]
  rfl
 ·have hl:wtL j a2 b2=[⟨(j:Int),a2⟩,⟨((j+1:Nat):Int),b2⟩]:=if_neg h0
  rw [hl]
  refine Ev.step (fun n=>iTerm h (k:=0) (q:=a2) (by simp) (by simp) rfl w0 w1 (by omega) hW.a1 hi hW.il (by omega) (by omega) n) ?_
  refine Ev.step (fun n=>iTerm h (k:=1) (j:=j+1) (q:=b2) (by simp) (by simp) rfl w0 w1 hb hW.b1 hi (hW.nx (by omega)) (by omega) (by omega) n) (Ev.succ ?_)
  simp only [qa3]
  refine Ev.ff rfl (Ev.now ?_)
  unfold rowS
  rw [Int.mul_add,←jV,←jV,Int.add_assoc]
  rfl
def sumS (t:qt) (i j:Nat) (a1 b1 a2 b2:Int):Int:=a1*rowS t j a2 b2 i+b1*rowS t j a2 b2 (i+1)
theorem rowT {t:qt} (h:TbOk t) {i j:Nat} {w a2 b2:Int} (w0:0≤w) (w1:w≤100000) (hW:Wt t.Bb j a2 b2):-20000000000000000≤w*rowS t j a2 b2 i∧w*rowS t j a2 b2 i≤20000000000000000:=by
 have ha:=hW.a0
 have hb:=hW.b0
 have ha1:=hW.a1
 have hb1:=hW.b1
 have h1:=qs2 h (i:=i) (j:=j) (a2:=a2) (b2:=b2) (by omega) hb
 have h2:=mulA (x:=w) (y:=rowS t j a2 b2 i) (Y:=200000000000) w0 (by omega) (by omega)
 omega
theorem qxQ {t:qt} (h:TbOk t) (sl ld:Int):∃ S D:Int,0<D∧S≤D*1000000∧-(D*1000000)≤S∧-9000000000000000000≤S∧S≤9000000000000000000∧((∀ k,0≤at0 t.Ba k)→0≤S) ∧
  ∀ mode,Ev (fun n=>qho n t sl ld mode) (divI S D mode)∧Ev (fun n=>qdG n t sl ld mode) (divI S D mode):=by
 obtain ⟨i,a1,b1,W1,p1,q1⟩:=qq7 h.s sl
 obtain ⟨j,a2,b2,W2,p2,q2⟩:=qq7 h.l ld
 have ha1:=W1.a0
 have hb1:=W1.b0
 have ha2:=W2.a0
 have hb2:=W2.b0
 have ua1:=W1.a1
 have ub1:=W1.b1
 have ua2:=W2.a1
 have ub2:=W2.b1
 have r1:=rowT h (i:=i) (w:=a1) (by omega) ua1 W2
 have r2:=rowT h (i:=i+1) (w:=b1) hb1 ub1 W2
 have x1:=qs2 h (i:=i) (j:=j) (a2:=a2) (b2:=b2) (by omega) hb2
 have x2:=qs2 h (i:=i+1) (j:=j) (a2:=a2) (b2:=b2) (by omega) hb2
 have y1:=mulA (x:=a1) (y:=rowS t j a2 b2 i) (Y:=(a2+b2)*1000000) (by omega) x1.1 x1.2
 have y2:=mulA (x:=b1) (y:=rowS t j a2 b2 (i+1)) (Y:=(a2+b2)*1000000) hb1 x2.1 x2.2
 have eD:a1*((a2+b2)*1000000)+b1*((a2+b2)*1000000)=(a1+b1)*(a2+b2)*1000000:=by rw [←Int.add_mul,jV]
 have D0:0<(a1+b1)*(a2+b2):=Int.mul_pos (by omega) (by omega)
 have D1:(a1+b1)*(a2+b2)≤200000*200000:=jY (by omega) (by omega) (by omega) (by omega)
 refine ⟨sumS t i j a1 b1 a2 b2,(a1+b1)*(a2+b2),D0,by unfold sumS;omega,by unfold sumS;omega,by unfold sumS;omega,by unfold sumS;omega,fun hv=>?_,fun mode=>⟨?_,?_⟩⟩
 ·have hr:∀ i,0≤rowS t j a2 b2 i:=fun i=>Int.add_nonneg (jS (by omega) (hv _)) (jS hb2 (hv _))
  exact Int.add_nonneg (jS (by omega) (hr _)) (jS hb1 (hr _))
 ·have hL:Ev (fun n=>qdP t (i:Int) a1 b1 (j:Int) a2 b2 n 0 0) (sumS t i j a1 b1 a2 b2,2):=by
   refine Ev.succ ?_
   simp only [qdP]
   refine Ev.tt rfl (Ev.bind (sRow h (c:=0) (w:=a1) (by omega) rfl (by omega) ua1 (fun _=>W1.il) W2 (by omega) (by omega)) ?_)
   refine Ev.succ ?_
   simp only [qdP]
   refine Ev.tt rfl (Ev.bind (sRow h (c:=1) (w:=b1) (by omega) rfl hb1 ub1 W1.nx W2 (by rw [Je];omega) (by rw [Je];omega)) ?_)
   refine Ev.succ ?_
   simp only [qdP]
   refine Ev.ff rfl (Ev.now ?_)
   unfold sumS
   rw [Int.zero_add,Je]
   rfl
  unfold qho
  refine Ev.bind p1 (Ev.bind p2 (Ev.bind hL ?_))
  show Ev (fun n=>(qcp n (sumS t i j a1 b1 a2 b2) (W64 (W64 (a1+b1)*W64 (a2+b2))) mode).bind fun r9=>some r9) _
  rw [wO (a1+b1),wO (a2+b2),wO ((a1+b1)*(a2+b2))]
  exact Ev.bind ⟨0,fun n _=>qk4 D0 (by unfold sumS;omega) (by unfold sumS;omega)⟩ .done
 ·have hL:Ev (fun n=>qa7 t (wtL i a1 b1) (wtL j a2 b2) n 0 0) (sumS t i j a1 b1 a2 b2,((wtL i a1 b1).length:Int)):=by
   by_cases h0:b1=0
   ·have h1:=W1.one h0
    subst h0 h1
    have hl:wtL i 1 0=[⟨(i:Int),1⟩]:=if_pos rfl
    rw [hl]
    refine Ev.succ ?_
    simp only [qa7]
    refine Ev.tt rfl (Ev.bind (Ev.now rfl) (Ev.bind (iRow h (i:=i) (w:=1) (by omega) (by omega) W1.il W2 (by omega) (by omega)) (Ev.succ ?_)))
    simp only [qa7]
    refine Ev.ff rfl (Ev.now ?_)
    unfold sumS
    rw [Int.zero_add,Int.zero_mul,Jf]
    rfl
   ·have hl:wtL i a1 b1=[⟨(i:Int),a1⟩,⟨((i+1:Nat):Int),b1⟩]:=if_neg h0
    rw [hl]
    refine Ev.succ ?_
    simp only [qa7]
    refine Ev.tt rfl (Ev.bind (Ev.now rfl) (Ev.bind (iRow h (i:=i) (w:=a1) (by omega) ua1 W1.il W2 (by omega) (by omega)) (Ev.succ ?_)))
    simp only [qa7]
    refine Ev.tt rfl (Ev.bind (Ev.now rfl) (Ev.bind (iRow h (i:=i+1) (w:=b1) hb1 ub1 (W1.nx (by omega)) W2 (by omega) (by omega)) (Ev.succ ?_)))
    simp only [qa7]
    refine Ev.ff rfl (Ev.now ?_)
    unfold sumS
    rw [Int.zero_add]
    rfl
  unfold qdG
  refine Ev.bind q1 (Ev.bind q2 (Ev.bind hL ?_))
  show Ev (fun n=>(qfh n (sumS t i j a1 b1 a2 b2) (W64 ((a1+b1)*(a2+b2))) mode).bind fun r9=>some r9) _
  rw [wO ((a1+b1)*(a2+b2))]
  exact Ev.bind ⟨0,fun n _=>(qsL (m:=0)).trans (qk4 D0 (by unfold sumS;omega) (by unfold sumS;omega))⟩ .done
end Go.Fw


namespace Go.Fw
open Go
set_option maxRecDepth 100000
theorem qwa {b:qg} (h:blockB b=true) {j:Nat} (hj:j<(places b.Aa).length) {n:Nat}:qln n b.Ar b.Aa (toSp (gt (places b.Aa) j))=some (capJ b j):=by
 have hd:=qaD h
 unfold capJ pinCap
 rcases qlv hj with ⟨i,k,hi,hk,_,e⟩|⟨i,hi,_,e⟩
 ·rw [e]
  obtain ⟨⟨c0,c1⟩,hn,_⟩:=qhy hd hi
  unfold place1 cellAt toSp
  simp only [qln,show decide ((i:Int)<0)=false by simp,cond_false,qC hi,jd,qfI c0 c1,jo,qC (show k<(gt b.Ar.Ap (gt b.Aa.Ab i).Bp.toNat).Au.length by omega)]
 ·rw [e];rfl
theorem qpT {b:qg} (h:blockB b=true) {i:Nat} (hi:i<b.Ac.length):Ev (fun n=>qhT n b (i:Int)) (loadsL b i):=by
 have hw:=qbx h hi
 have hs:=qaf (qaD h)
 have hlo:=hw.lo
 have hhi:=hw.hi
 have hcap:=hw.cap
 have hsm:=qhr h (i:=i)
 have e1:Ev (fun n=>qdd b (gt b.Ac i) ((places b.Aa).map toSp) (skL b i) n (gt b.Ac i).Bo 0) (ldA b (gt b.Ac i) (skL b i) (skL b i).length,((skL b i).length:Int)):=by
  refine loopF (Lf:=qdd b (gt b.Ac i) ((places b.Aa).map toSp) (skL b i)) (S:=ldA b (gt b.Ac i) (skL b i)) (len:=(skL b i).length) (fun n=>?_) (fun j hj X hX=>?_)
  ·simp only [qdd,ql (je _),cond_false]
  ·obtain ⟨y,hy,ey,_⟩:=qpf hj
   have hjs:j<(gt b.Ac i).Bh.length:=by rw [hw.snk];exact hj
   have hsn:=hw.sin j hjs
   have hln:=qoY (b:=b) (w:=gt b.Ac i) (sk:=skL b i) (j:=j)
   have hp:idx ((places b.Aa).map toSp) (y:Int)=some (toSp (gt (places b.Aa) y)):=by
    refine qM ?_
    rw [List.getElem?_map,ji hy,qfu hy];rfl
   have hc:=fun n=>qwa h hy (n:=n)
   simp only [qdd,qj hj,cond_true,qar hj,ey,jd,qar hjs,qfI hsn.1 (show at0 (gt b.Ac i).Bh j<((ldA b (gt b.Ac i) (skL b i) j).length:Int) by omega),hp,hc,wS j]
   have:ldA b (gt b.Ac i) (skL b i) (j+1)=setS (ldA b (gt b.Ac i) (skL b i) j) (at0 (gt b.Ac i).Bh j) (W64 (gt (ldA b (gt b.Ac i) (skL b i) j) (at0 (gt b.Ac i).Bh j).toNat+capJ b y)):=by
    show addSink _ _ _ _ _=_
    unfold addSink
    rw [ey,jo]
   rw [this] at hX
   exact hX
 have e2:∀ j t,t.length=(gt b.Ac i).Ak.length→j<(gt b.Ac i).Ak.length→Ev (fun n=>qdf (gt b.Ac i) n t (j:Int)) (ldB (gt b.Ac i) j t,0):=by
  intro j
  induction j with
  | zero =>
   intro t _ _
   refine Ev.succ ?_
   show Ev (fun n=>qdf (gt b.Ac i) (n+1) t 0) _
   unfold qdf
   exact Ev.ff rfl .done
  | succ j ih =>
   intro t ht hj
   have hp:=hw.par (j+1) (by omega) hj
   refine Ev.succ ?_
   simp only [qdf,show decide (((j+1:Nat):Int) > 0)=true from decide_eq_true (by omega),cond_true,qar hj,jd,qfI hp.1 (show at0 (gt b.Ac i).Ak (j+1)<(t.length:Int) by omega),qC (show j+1<t.length by omega),show ((j+1:Nat):Int)-1=(j:Int) by omega,qJ (show -9223372036854775808≤(j:Int) by omega) (by omega)]
   exact ih _ (by rw [qfj];exact ht) (by omega)
 unfold qhT qmm
 rw [qC hi]
 simp only [jd,qc5 (show ([]:List Int).length+(gt b.Ac i).Bo.length≤2147483648 by simp;omega),List.nil_append]
 refine Ev.bind (qig hs) (Ev.bind (qnf hs) (Ev.bind e1 ?_))
 rw [qe6 (show (gt b.Ac i).Bo.length≤9223372036854775807 by omega),show ((gt b.Ac i).Bo.length:Int)-1=(((gt b.Ac i).Ak.length-1:Nat):Int) by omega]
 exact Ev.bind (e2 _ _ (by rw [qoY];exact hcap) (by omega)) .done
theorem qoF {b:qg} (h:blockB b=true) {i:Nat} (hi:i<b.Ac.length):Ev (fun n=>qg9 n b (i:Int)) (delaysL b i):=by
 have hw:=qbx h hi
 have hlo:=hw.lo
 have hhi:=hw.hi
 have hres:=hw.res
 have l1:=qml h hi
 have main:∀ d k,k+1+d=(gt b.Ac i).Ak.length→Ev (fun n=>qdD (gt b.Ac i) (loadsL b i) n (dlL (gt b.Ac i) (loadsL b i) k) ((k+1:Nat):Int)) (delaysL b i,((loadsL b i).length:Int)):=by
  intro d
  induction d with
  | zero =>
   intro k hk
   refine Ev.succ ?_
   simp only [qdD,ql (show (loadsL b i).length≤k+1 by omega),cond_false]
   refine Ev.now ?_
   rw [l1,←hk]
   unfold delaysL
   rw [←hk]
   rfl
  | succ d ih =>
   intro k hk
   have hp:=hw.par (k+1) (by omega) (by omega)
   have hlen:=qoD (w:=gt b.Ac i) (ld:=loadsL b i) (k:=k)
   refine Ev.succ ?_
   simp only [qdD,qj (show k+1<(loadsL b i).length by omega),cond_true,qar (show k+1<(gt b.Ac i).Ak.length by omega),jd,qfI hp.1 (show at0 (gt b.Ac i).Ak (k+1)<((dlL (gt b.Ac i) (loadsL b i) k).length:Int) by omega),
    qar (show k+1<(gt b.Ac i).Bs.length by omega),qC (show k+1<(loadsL b i).length by omega),qc9 (show k+1<9223372036854775807 by omega)]
   rw [qc5 (by rw [hlen,jt];omega)]
   exact ih (k+1) (by omega)
 unfold qg9
 rw [qC hi]
 simp only [jd]
 refine Ev.bind (qpT h hi) ?_
 exact Ev.bind (main ((gt b.Ac i).Ak.length-1) 0 (by omega)) .done
theorem qpA {b:qg} (h:blockB b=true) {i:Nat} (hi:i<b.Ac.length) {mode:Int}:Ev (fun n=>qfZ n b (i:Int) mode) ((exactL b i).map fun x=>divI x 1000 mode):=by
 have hw:=qbx h hi
 have hsl:(gt b.Ac i).Bh.length≤78:=by rw [hw.snk];exact qhr h
 have hdl:=qmS h hi
 have e3:Ev (fun n=>qbJ b (i:Int) mode (delaysL b i) n ([]:List Int) 0) ((exactL b i).map (fun x=>divI x 1000 mode),((gt b.Ac i).Bh.length:Int)):=by
  refine loopF (Lf:=qbJ b (i:Int) mode (delaysL b i)) (S:=fun j=>(((gt b.Ac i).Bh.take j).map fun s=>gt (delaysL b i) s.toNat).map fun x=>divI x 1000 mode) (len:=(gt b.Ac i).Bh.length) (fun n=>?_) (fun j hj X hX=>?_)
  ·simp only [qbJ,qC hi,jd,ql (je _),cond_false,jF];rfl
  ·have hsn:=hw.sin j hj
   have hrg:=qq2 h hi hj
   have eg:gt (exactL b i) j=gt (delaysL b i) (at0 (gt b.Ac i).Bh j).toNat:=by
    unfold exactL
    rw [qfu (by rw [jx];exact hj),List.getElem_map,qnb hj]
   rw [eg] at hrg
   have hdv:=fun n=>qk4 (n:=n) (a:=gt (delaysL b i) (at0 (gt b.Ac i).Bh j).toNat) (b:=1000) (mode:=mode) (by omega) (by omega) (by omega)
   simp only [qbJ,qC hi,jd,qj hj,cond_true,qar hj,qfI hsn.1 (show at0 (gt b.Ac i).Bh j<((delaysL b i).length:Int) by omega),hdv,wS j]
   rw [qc5 (by rw [jx,jx,Jb,jt];omega)]
   have:(((gt b.Ac i).Bh.take j).map (fun s=>gt (delaysL b i) s.toNat)).map (fun x=>divI x 1000 mode)++[divI (gt (delaysL b i) (at0 (gt b.Ac i).Bh j).toNat) 1000 mode]=(((gt b.Ac i).Bh.take (j+1)).map fun s=>gt (delaysL b i) s.toNat).map fun x=>divI x 1000 mode:=by
    rw [jy hj,jK,jK,qnb hj];rfl
   rw [this]
   exact hX
 unfold qfZ
 exact Ev.bind (qoF h hi) (Ev.bind e3 .done)
end Go.Fw


namespace Go.Fw
open Go
set_option maxRecDepth 100000
instance:Inhabited qe:=⟨⟨0,⟨0,0⟩,⟨0,0⟩⟩⟩
instance:Inhabited qc:=⟨⟨0,0⟩⟩
def cornerB (c:qy):Bool:=(inI c.Bc 100 5000&&(inI c.Bf 100 5000&&(inI c.Bd 100 5000&&inI c.Bg 100 5000)))&&(nameB c.Az&&(decide (c.Bc≤c.Bf)&&decide (c.Bd≤c.Bg)))
theorem ql8 {c:qy} (h:okS c.Az):Ev (fun n=>qfr n c) (cornerB c):=by
 have hL:Ev (fun n=>qbV c n 0) (bif inI c.Bc 100 5000&&(inI c.Bf 100 5000&&(inI c.Bd 100 5000&&inI c.Bg 100 5000)) then .nxt 4 else .ret false):=by
  refine Ev.succ ?_
  simp only [qbV,qcK,show idx ([c.Bc,c.Bf,c.Bd,c.Bg]:List Int) 0=some c.Bc from rfl,jd]
  refine Ev.tt rfl ?_
  cases inI c.Bc 100 5000
  ·exact .done
  refine Ev.ff rfl (Ev.succ ?_)
  simp only [qbV,qcK,show W64 (0+1)=1 from rfl,show idx ([c.Bc,c.Bf,c.Bd,c.Bg]:List Int) 1=some c.Bf from rfl,jd]
  refine Ev.tt rfl ?_
  cases inI c.Bf 100 5000
  ·exact .done
  refine Ev.ff rfl (Ev.succ ?_)
  simp only [qbV,qcK,show W64 (1+1)=2 from rfl,show idx ([c.Bc,c.Bf,c.Bd,c.Bg]:List Int) 2=some c.Bd from rfl,jd]
  refine Ev.tt rfl ?_
  cases inI c.Bd 100 5000
  ·exact .done
  refine Ev.ff rfl (Ev.succ ?_)
  simp only [qbV,qcK,show W64 (2+1)=3 from rfl,show idx ([c.Bc,c.Bf,c.Bd,c.Bg]:List Int) 3=some c.Bg from rfl,jd]
  refine Ev.tt rfl ?_
  cases inI c.Bg 100 5000
  ·exact .done
  refine Ev.ff rfl (Ev.succ ?_)
  simp only [qbV]
  exact Ev.ff rfl .done
 unfold qfr cornerB
 refine Ev.bind hL ?_
 cases inI c.Bc 100 5000&&(inI c.Bf 100 5000&&(inI c.Bd 100 5000&&inI c.Bg 100 5000))
 ·exact .done
 ·refine Ev.bind (qmc h) ?_
  cases nameB c.Az
  ·exact .done
  ·cases decide (c.Bc≤c.Bf)<;>exact .done
theorem qrp {n:Nat} {a b:Int}:qgp n a b=some (decide (a ≥ 100)&&(decide (a≤b)&&decide (b≤5000))):=by
 unfold qgp
 cases decide (a ≥ 100)
 ·rfl
 ·cases decide (a≤b)<;>rfl
theorem qpQ {c:qy} (h:okS c.Az):Ev (fun n=>qfs n c) (cornerB c):=by
 have e:cornerB c=(nameB c.Az&&((decide (c.Bc ≥ 100)&&(decide (c.Bc≤c.Bf)&&decide (c.Bf≤5000)))&&(decide (c.Bd ≥ 100)&&(decide (c.Bd≤c.Bg)&&decide (c.Bg≤5000))))):=by
  unfold cornerB
  rw [jk]
  simp only [jf,qbt,decide_eq_true_eq]
  constructor
  ·rintro ⟨⟨h1,h2,h3,h4⟩,h5,h6,h7⟩
   refine ⟨h5,⟨?_,?_,?_⟩,?_,?_,?_⟩<;>omega
  ·rintro ⟨h5,⟨h1,h2,h3⟩,h4,h6,h7⟩
   refine ⟨⟨⟨?_,?_⟩,⟨?_,?_⟩,⟨?_,?_⟩,?_,?_⟩,h5,?_,?_⟩<;>omega
 rw [e]
 unfold qfs
 simp only [qpt h,qrp,jd]
 cases nameB c.Az
 ·exact .done
 ·cases decide (c.Bc ≥ 100)&&(decide (c.Bc≤c.Bf)&&decide (c.Bf≤5000))<;>exact .done
def spanB (s:qc):Bool:=inI s.Am (-1000000000) 1000000000&&(inI s.Ay (-1000000000) 1000000000&&decide (s.Am≤s.Ay))
def slewB (s:qc):Bool:=decide (s.Am ≥ 0)&&(decide (s.Am≤s.Ay)&&decide (s.Ay≤1000000))
theorem qrf {n:Nat} {s:qc}:qil n s=some (spanB s):=by
 unfold qil spanB
 simp only [qcK,jd]
 cases inI s.Am (-1000000000) 1000000000
 ·rfl
 ·cases inI s.Ay (-1000000000) 1000000000<;>rfl
theorem qo9 {n:Nat} {s:qc}:qgX n s=some (spanB s):=by
 unfold qgX qls spanB
 simp only [qdE,jd]
 cases inI s.Am (-1000000000) 1000000000
 ·rfl
 ·cases inI s.Ay (-1000000000) 1000000000<;>rfl
theorem qtC {n:Nat} {s:qc}:qhW n s=some (slewB s):=by
 unfold qhW slewB
 cases decide (s.Am ≥ 0)
 ·rfl
 ·cases decide (s.Am≤s.Ay)<;>rfl
theorem qtv {n:Nat} {s:qc}:qhY n s=some (slewB s):=by
 have e:slewB s=(spanB s&&(inI s.Am 0 1000000&&inI s.Ay 0 1000000)):=by
  unfold slewB spanB
  rw [jk]
  simp only [jf,qbt,decide_eq_true_eq]
  constructor
  ·rintro ⟨h1,h2,h3⟩
   refine ⟨⟨⟨?_,?_⟩,⟨?_,?_⟩,?_⟩,⟨?_,?_⟩,?_,?_⟩<;>omega
  ·rintro ⟨⟨h1,h2,h3⟩,h4,h5⟩
   refine ⟨?_,?_,?_⟩<;>omega
 rw [e]
 unfold qhY qlu
 simp only [qo9,qdE,jd]
 cases spanB s
 ·rfl
 ·cases inI s.Am 0 1000000<;>rfl
end Go.Fw


namespace Go.Fw
open Go Go.Proofs
open Go.RowKit (Below)
set_option maxRecDepth 100000
set_option maxHeartbeats 1600000
variable {n:Nat} {w:World} {cs1 cs2 cs3 cs4 cs5 cs6 cs7 cs8 cs9:List Value}
def qeL (list:(List Int)) (x:Int):Nat→Int→Option (Flow Bool Int)
 | 0,_=>none
 | n+1,i1 =>
  bif decide (i1<(list.length:Int)) then
   (idx list i1).bind fun y1 =>
   bif (y1==x) then some (.ret true) else
   qeL list x n (W64 (i1+1))
  else
   some (.nxt i1)
def qlh (n:Nat) (list:(List Int)) (x:Int):Option Bool :=
 (qeL list x n 0).bind fun o=>match o with
 | .ret r=>some r
 | .nxt _ =>
  some false
theorem qra {list:(List Int)} {x:Int} (ha1:GoT.R w (old w) list cs1) {r:Bool} (hF:qlh n list x=some r):RetV Tryz.prog 154 [GoT.v (List Int) cs1,.int .i64 x] w r:=by
 obtain ⟨p1,k1,rfl,s1⟩:=ha1
 refine zV 18 Tryz.func154 rfl fun h=>X0 9 rfl ?_
 obtain ⟨o1,hF,hK1⟩:=qd hF
 refine qm (rL (fun m e w'=>∃ (i1:Int),qeL list x m i1=some o1∧e=[(0,.slice p1 list.length k1),(1,.int .i64 x),(5,.int .i64 i1)]∧SH w w' []) n ⟨_,hF,rfl,h⟩ rfl ?_)
 rintro m1 e1 w1 ⟨i1,hF,rfl,h⟩
 rcases m1 with _|m1
 ·cases hF
 refine X0 8 rfl (qh rfl hF ?_ ?_)<;>intro hF
 ·refine X0 7 rfl ?_
  obtain ⟨y1,hy1,hF,he1,b1,_,q1,cs2,hp1,hq1,rfl,hc2⟩:=s1.ix hF
  refine zxe hp1 hq1 he1 rfl (zc 0 (hc2.below h.below) rfl (X0 3 rfl (qh rfl hF ?_ ?_)))<;>intro hF
  ·refine X0 4 rfl ?_
   obtain rfl:=qb hF;replace hF:=hK1
   exact rb h hF rfl
  exact X0 7 rfl (rK ⟨_,hF,rfl,h⟩ rfl)
 refine qq rfl ?_
 obtain rfl:=qb hF;replace hF:=hK1
 exact X0 4 rfl (rb h hF rfl)
def qdT (links:(List qu)) (broken:(List Int)):Nat→(List Bool)→Int→Option ((List Bool) × Int)
 | 0,_,_=>none
 | n+1,x1,i1 =>
  bif decide (i1<(links.length:Int)) then
   (qlh n broken i1).bind fun r1 =>
   (appS x1 ([(!r1)]:List Bool)).bind fun x2 =>
   qdT links broken n x2 (W64 (i1+1))
  else
   some (x1,i1)
def qiv (n:Nat) (links:(List qu)) (broken:(List Int)):Option (List Bool) :=
 (qdT links broken n ([]:List Bool) 0).bind fun o=>match o with
 | (x1,_) =>
  some x1
theorem qmC {links:(List qu)} {broken:(List Int)} (ha1:GoT.R w (old w) links cs1) (ha2:GoT.R w (old w) broken cs2) {r:(List Bool)} (hF:qiv n links broken=some r):RetV Tryz.prog 150 [GoT.v (List qu) cs1,GoT.v (List Int) cs2] w r:=by
 obtain ⟨p1,k1,rfl,s1⟩:=ha1
 obtain ⟨p2,k2,rfl,s2⟩:=ha2
 refine zV 22 Tryz.func150 rfl fun h=>X0 6 rfl (qU qa [] _ ([]:List Bool) h rfl rfl rfl rfl rfl rfl rfl rfl rfl trivial rfl fun w1 p3 S1 h=>X0 7 rfl ?_)
 obtain ⟨o1,hF,hK1⟩:=qd hF
 refine qm (rL (fun m e w'=>∃ (S2:Nat→Prop) (p4:Option Addr) (ln1:Nat) (k3:Nat) (x1:(List Bool)) (i1:Int),qdT links broken m x1 i1=some o1∧e=[(0,.slice p1 links.length k1),(1,.slice p2 broken.length k2),(5,.slice p4 ln1 k3),(6,.int .i64 i1)]∧SH w w' [Ch.own S2 (x1:List Bool) [.slice p4 ln1 k3]]) n ⟨_,_,_,_,_,_,hF,rfl,h⟩ rfl ?_)
 rintro m1 e1 w2 ⟨S2,p4,ln1,k3,x1,i1,hF,rfl,h⟩
 obtain rfl:=(h.sl 0 rfl).2
 rcases m1 with _|m1
 ·cases hF
 refine X0 8 rfl (qh rfl hF ?_ ?_)<;>intro hF
 ·refine X0 7 rfl (zcB h hF (qra ⟨_,_,rfl,(h.oldS s2)⟩) rfl fun r1 w3 h hF=>zp1 rfl (qU qa [.tmp 18] _ ([(!r1)]:List Bool) h rfl rfl rfl rfl rfl rfl rfl rfl rfl ⟨rfl,trivial⟩ rfl fun w4 p5 S3 h=>?_))
  obtain ⟨x2,hx1,hF⟩:=qd hF
  obtain ⟨g1,hx1⟩:=qaF hx1
  refine qc3 qa 1 h rfl (h.sl 0 rfl).1 (h.sl 0 rfl).2 rfl rfl rfl rfl rfl rfl rfl rfl rfl g1 hx1 rfl fun w5 p6 k4 S4 h=>X0 8 rfl ?_
  replace h:=h.pick [1] rfl
  exact rK ⟨_,_,_,_,_,_,hF,rfl,h⟩ rfl
 refine qq rfl ?_
 obtain rfl:=qb hF;replace hF:=hK1
 refine X0 5 rfl ?_
 obtain rfl:=qb hF
 exact rO 0 h rfl ⟨rfl,trivial⟩
def qeP (n:Nat) (b:qg) (broken:(List Int)):Option ((List Int) × Int) :=
 (qhv n b broken).bind fun r1 =>
 bif (r1 != 0) then some (([]:List Int),r1) else
 (qgH n b).bind fun r2 =>
 (qgD n b).bind fun r3 =>
 (qiv n r2 broken).bind fun r4 =>
 (qhR n r3 r2 r4).bind fun o=>match o with
  | (r6,r7) =>
   bif (!r7) then some (([]:List Int),7) else
   some (r6,0)
theorem qlz {b:qg} {broken:(List Int)} (ha1:GoT.R w (old w) b cs1) (ha2:GoT.R w (old w) broken cs2) {r:((List Int) × Int)} (hF:qeP n b broken=some r):RetV Tryz.prog 149 [GoT.v qg cs1,GoT.v (List Int) cs2] w r:=by
 obtain ⟨p1,k1,p2,k2,p3,k3,p4,k4,p5,k5,rfl,s1,s2,s3,s4,s5⟩:=qI ha1
 obtain ⟨p6,k6,rfl,s6⟩:=ha2
 refine zV 33 Tryz.func149 rfl fun h=>zSR (qv h rfl rfl fun w1 bb1 h=>X1 8 0 h rfl (zcI h hF (qmx (h.old ha1) ⟨_,_,rfl,(h.oldS s6)⟩) rfl fun r1 w2 h hF=>X0 7 rfl (qh rfl hF ?_ ?_)))<;>intro hF
 ·refine zSR (qU qa [] _ ([]:List Int) h rfl rfl rfl rfl rfl rfl rfl rfl rfl trivial rfl fun w3 p7 S1 h=>X0 4 rfl ?_)
  obtain rfl:=qb hF
  exact qab qa (ρ:=((List Int) × Int)) [GoT.v (List Int) [.slice p7 0 0],GoT.v Int [.int .i64 r1]] h ⟨rfl,rfl,trivial⟩ (PV.done h (qao h (qap 0 h rfl) (qaj (qz (S:=fun _=>False) rfl)) (by rfl)))
 refine X1 4 0 h rfl (zcL h hF (qjb (h.old ha1)) rfl fun r2 w4 S2 p8 k7 h hF=>X1 5 1 h rfl (zcI h hF (qjd (h.old ha1)) rfl fun r3 w5 h hF=>zp3 rfl (zcL h hF (qmC (h.own 0 rfl) ⟨_,_,rfl,(h.oldS s6)⟩) rfl fun r4 w6 S3 p9 k8 h hF=>?_)))
 obtain ⟨r5,hr5,hF⟩:=qd hF
 obtain ⟨r6,r7⟩:=r5
 refine qaP (r6,r7) h (cB 95 rfl) (qpd (h.own 1 rfl) (h.own 0 rfl) hr5) rfl rfl rfl rfl fun w7 S4 us1 hv1 hr6=>?_
 obtain ⟨S5,S6,p10,k9,us2,rfl,hv2,hr7⟩:=hv1.consL hr6
 obtain ⟨rfl,h⟩:=hv2.lastB hr7
 refine X0 12 rfl (qh rfl hF ?_ ?_)<;>intro hF
 ·refine zSR (qU qa [] _ ([]:List Int) h rfl rfl rfl rfl rfl rfl rfl rfl rfl trivial rfl fun w8 p11 S8 h=>X0 3 rfl ?_)
  obtain rfl:=qb hF
  exact qab qa (ρ:=((List Int) × Int)) [GoT.v (List Int) [.slice p11 0 0],GoT.v Int [.int .i64 7]] h ⟨rfl,rfl,trivial⟩ (PV.done h (qao h (qap 0 h rfl) (qaj (qz (S:=fun _=>False) rfl)) (by rfl)))
 refine X0 7 rfl ?_
 obtain rfl:=qb hF
 exact qab qa (ρ:=((List Int) × Int)) [GoT.v (List Int) [.slice p10 r6.length k9],GoT.v Int [.int .i64 0]] h ⟨rfl,rfl,trivial⟩ (PV.done h (qao h (qap 0 h rfl) (qaj (qz (S:=fun _=>False) rfl)) (by rfl)))
def qf3 (n:Nat) (b:qg) (c:qy) (broken:(List Int)) (sources:(List qe)):Option ((List Int) × Int) :=
 (
  (qfg n b).bind fun r6 =>
  bif (!r6) then some true else
  (qfr n c).bind fun r7 =>
  some (!r7)).bind fun b1 =>
 bif b1 then some (([]:List Int),1) else
 (
  (qhv n b broken).bind fun r4 =>
  bif (r4 != 0) then some true else
  (qgs n b sources).bind fun r5 =>
  some (!r5)).bind fun b2 =>
 bif b2 then some (([]:List Int),2) else
 (qeP n b broken).bind fun o=>match o with
  | (r2,r3) =>
   some (r2,r3)
theorem qp3 {b:qg} {c:qy} {broken:(List Int)} {sources:(List qe)} (ha1:GoT.R w (old w) b cs1) (ha2:GoT.R w (old w) c cs2) (ha3:GoT.R w (old w) broken cs3) (ha4:GoT.R w (old w) sources cs4) {r:((List Int) × Int)} (hF:qf3 n b c broken sources=some r):RetV Tryz.prog 72 [GoT.v qg cs1,GoT.v qy cs2,GoT.v (List Int) cs3,GoT.v (List qe) cs4] w r:=by
 obtain ⟨p1,k1,p2,k2,p3,k3,p4,k4,p5,k5,rfl,s1,s2,s3,s4,s5⟩:=qI ha1
 obtain rfl:=qah ha2
 obtain ⟨p6,k6,rfl,s6⟩:=ha3
 obtain ⟨p7,k7,rfl,s7⟩:=ha4
 refine zV 35 Tryz.func72 rfl fun h=>zSR (qv h rfl rfl fun w1 bb1 h=>qv h rfl rfl fun w2 bb2 h=>X0 5 rfl ?_)
 obtain ⟨KF2,hKF2,o2,hF,hK2⟩:=bindE hF
 refine qba (fun e w'=>∃ (b1:Bool),KF2 b1=some r∧e=[(2,.slice p6 broken.length k6),(3,.slice p7 sources.length k7),(4,.pointer (some ⟨bb1,0,none⟩)),(17,.bool b1)]∧SH w w' [Ch.box bb1 (qZ b p1 p2 p3 p4 p5 k1 k2 k3 k4 k5) 53]) ?_ ?_
 ·refine X1 2 1 h rfl (zcB h hF (qj0 (h.old ha1)) rfl fun r6 w9 h hF=>zp2 rfl (qk (t:=13) hF rfl ?_ ?_))<;>intro hF
  ·refine X0 5 rfl ?_
   replace h:=h.pick [1] rfl
   obtain rfl:=qb hF
   exact rG ⟨_,hK2,rfl,h⟩ rfl
  refine X1 3 0 h rfl (zcB h hF (ql2 (h.old ha2)) rfl fun r7 w10 h hF=>X0 4 rfl ?_)
  replace h:=h.pick [1] rfl
  obtain rfl:=qb hF
  exact rG ⟨_,hK2,rfl,h⟩ rfl
 rintro e2 w11 ⟨b1,hF,rfl,h⟩
 subst hKF2
 refine qh rfl hF ?_ ?_<;>intro hF
 ·refine zSR (qU qa [] _ ([]:List Int) h rfl rfl rfl rfl rfl rfl rfl rfl rfl trivial rfl fun w3 p8 S1 h=>X0 3 rfl ?_)
  obtain rfl:=qb hF
  exact qab qa (ρ:=((List Int) × Int)) [GoT.v (List Int) [.slice p8 0 0],GoT.v Int [.int .i64 1]] h ⟨rfl,rfl,trivial⟩ (PV.done h (qao h (qap 0 h rfl) (qaj (qz (S:=fun _=>False) rfl)) (by rfl)))
 refine zKSS ?_
 obtain ⟨KF1,hKF1,o1,hF,hK1⟩:=bindE hF
 refine qba (fun e w'=>∃ (b2:Bool),KF1 b2=some r∧e=[(2,.slice p6 broken.length k6),(4,.pointer (some ⟨bb1,0,none⟩)),(28,.bool b2)]∧SH w w' [Ch.box bb1 (qZ b p1 p2 p3 p4 p5 k1 k2 k3 k4 k5) 53]) ?_ ?_
 ·refine X1 3 0 h rfl (zcI h hF (qmx (h.old ha1) ⟨_,_,rfl,(h.oldS s6)⟩) rfl fun r4 w6 h hF=>zp2 rfl (qk (t:=23) hF rfl ?_ ?_))<;>intro hF
  ·refine X0 6 rfl ?_
   obtain rfl:=qb hF
   exact rG ⟨_,hK1,rfl,h⟩ rfl
  refine X1 5 0 h rfl (zcB h hF (qn8 (h.old ha1) ⟨_,_,rfl,(h.oldS s7)⟩) rfl fun r5 w7 h hF=>X0 4 rfl ?_)
  obtain rfl:=qb hF
  exact rG ⟨_,hK1,rfl,h⟩ rfl
 rintro e1 w8 ⟨b2,hF,rfl,h⟩
 subst hKF1
 refine qh rfl hF ?_ ?_<;>intro hF
 ·refine zSR (qU qa [] _ ([]:List Int) h rfl rfl rfl rfl rfl rfl rfl rfl rfl trivial rfl fun w4 p9 S2 h=>X0 3 rfl ?_)
  obtain rfl:=qb hF
  exact qab qa (ρ:=((List Int) × Int)) [GoT.v (List Int) [.slice p9 0 0],GoT.v Int [.int .i64 2]] h ⟨rfl,rfl,trivial⟩ (PV.done h (qao h (qap 0 h rfl) (qaj (qz (S:=fun _=>False) rfl)) (by rfl)))
 refine X1 5 0 h rfl ?_
 obtain ⟨r1,hr1,hF⟩:=qd hF
 obtain ⟨r2,r3⟩:=r1
 refine qaP (r2,r3) h (cB 149 rfl) (qlz (h.old ha1) ⟨_,_,rfl,(h.oldS s6)⟩ hr1) rfl rfl rfl rfl fun w5 S3 us1 hv1 hr2=>?_
 obtain ⟨S4,S5,p10,k8,us2,rfl,hv2,hr3⟩:=hv1.consL hr2
 obtain ⟨rfl,h⟩:=hv2.lastI hr3
 refine X0 5 rfl ?_
 obtain rfl:=qb hF
 exact qab qa (ρ:=((List Int) × Int)) [GoT.v (List Int) [.slice p10 r2.length k8],GoT.v Int [.int .i64 r3]] h ⟨rfl,rfl,trivial⟩ (PV.done h (qao h (qap 0 h rfl) (qaj (qz (S:=fun _=>False) rfl)) (by rfl)))
def qc1 (a_0:qg) (a_1:qy) (a_2:(List qu)) (a_3:(List Bool)) (a_5:(List Int)) (a_6:qn) (a_7:Int):Nat→Int→Int→Int→Int→Int→Bool→Int→Option (Int × Int × Int × Int × Int × Bool × Int)
 | 0,_,_,_,_,_,_,_=>none
 | n+1,i7,i8,i9,i10,i11,b4,i12 =>
  bif decide (i12<(a_2.length:Int)) then
   (idx a_2 i12).bind fun y3 =>
   (
    (idx a_3 i12).bind fun y19 =>
    bif (!y19) then some true else
    bif (y3.To != a_7) then some true else
    (idx a_6.Aj y3.Be).bind fun y20 =>
    some (!y20)).bind fun b6 =>
   bif b6 then qc1 a_0 a_1 a_2 a_3 a_5 a_6 a_7 n i7 i8 i9 i10 i11 b4 (W64 (i12+1)) else
   (idx a_6.Aq y3.Be).bind fun y4 =>
   (qhL n a_0 a_1 y3 y4).bind fun o=>match o with
    | (r2,r3) =>
     (
      bif (y3.Av==2) then
       (qg6 n a_0 y3).bind fun r12 =>
       (idx a_5 r12).bind fun y18 =>
       some y18
      else
       some 0).bind fun i14 =>
     (idx a_6.Af y3.Be).bind fun y16 =>
     (idx a_6.Af y3.Be).bind fun y17 =>
     bif b4 then
      (qkh n (⟨W64 ((W64 (y16.Am+r2.Am))-i14),W64 ((W64 (y17.Ay+r2.Ay))+i14)⟩:qc) (⟨i8,i9⟩:qc)).bind fun r10 =>
      (qkh n r3 (⟨i10,i11⟩:qc)).bind fun r11 =>
      qc1 a_0 a_1 a_2 a_3 a_5 a_6 a_7 n a_7 r10.Am r10.Ay r11.Am r11.Ay true (W64 (i12+1))
     else
      qc1 a_0 a_1 a_2 a_3 a_5 a_6 a_7 n a_7 (W64 ((W64 (y16.Am+r2.Am))-i14)) (W64 ((W64 (y17.Ay+r2.Ay))+i14)) r3.Am r3.Ay true (W64 (i12+1))
  else
   some (i7,i8,i9,i10,i11,b4,i12)
def qdQ (a_4:(List qe)) (a_7:Int):Nat→Int→Int→Int→Int→Int→Bool→Int→Option (Int × Int × Int × Int × Int × Bool × Int)
 | 0,_,_,_,_,_,_,_=>none
 | n+1,i1,i2,i3,i4,i5,b1,i6 =>
  bif decide (i6<(a_4.length:Int)) then
   (idx a_4 i6).bind fun y1 =>
   bif (y1.Bm==a_7) then
    (idx a_4 i6).bind fun y2 =>
    qdQ a_4 a_7 n y2.Bm y2.Af.Am y2.Af.Ay y2.Aq.Am y2.Aq.Ay true (W64 (i6+1))
   else
    qdQ a_4 a_7 n i1 i2 i3 i4 i5 b1 (W64 (i6+1))
  else
   some (i1,i2,i3,i4,i5,b1,i6)
def qiM (n:Nat) (a_0:qg) (a_1:qy) (a_2:(List qu)) (a_3:(List Bool)) (a_4:(List qe)) (a_5:(List Int)) (a_6:qn) (a_7:Int):Option (Bool × qe) :=
 (qdQ a_4 a_7 n 0 0 0 0 0 false 0).bind fun o=>match o with
 | (i1,i2,i3,i4,i5,b1,_) =>
  (qc1 a_0 a_1 a_2 a_3 a_5 a_6 a_7 n i1 i2 i3 i4 i5 b1 0).bind fun o=>match o with
  | (i7,i8,i9,i10,i11,b4,_) =>
   some (b4,(⟨i7,(⟨i8,i9⟩:qc),(⟨i10,i11⟩:qc)⟩:qe))
theorem qpX {a_0:qg} {a_1:qy} {a_2:(List qu)} {a_3:(List Bool)} {a_4:(List qe)} {a_5:(List Int)} {a_6:qn} {a_7:Int} (ha1:GoT.R w (old w) a_0 cs1) (ha2:GoT.R w (old w) a_1 cs2) (ha3:GoT.R w (old w) a_2 cs3) (ha4:GoT.R w (old w) a_3 cs4) (ha5:GoT.R w (old w) a_4 cs5) (ha6:GoT.R w (old w) a_5 cs6) (ha7:GoT.R w (old w) a_6 cs7) {r:(Bool × qe)} (hF:qiM n a_0 a_1 a_2 a_3 a_4 a_5 a_6 a_7=some r):RetV Tryz.prog 152 [GoT.v qg cs1,GoT.v qy cs2,GoT.v (List qu) cs3,GoT.v (List Bool) cs4,GoT.v (List qe) cs5,GoT.v (List Int) cs6,GoT.v qn cs7,.int .i64 a_7] w r:=by
 obtain ⟨p1,k1,p2,k2,p3,k3,p4,k4,p5,k5,rfl,s1,s2,s3,s4,s5⟩:=qI ha1
 obtain rfl:=qah ha2
 obtain ⟨p6,k6,rfl,s6⟩:=ha3
 obtain ⟨p7,k7,rfl,s7⟩:=ha4
 obtain ⟨p8,k8,rfl,s8⟩:=ha5
 obtain ⟨p9,k9,rfl,s9⟩:=ha6
 obtain ⟨p10,k10,p11,k11,p12,k12,rfl,s10,s11,s12⟩:=qad ha7
 refine zV 137 Tryz.func152 rfl fun h=>zSR (qv h rfl rfl fun w1 bb1 h=>qv h rfl rfl fun w2 bb2 h=>qv h rfl rfl fun w3 bb3 h=>zp1 rfl (qp qa h rfl rfl rfl fun w4 bb4 h=>X0 7 rfl (r_v (qW qa [] [] rfl rfl rfl rfl rfl rfl rfl rfl) rfl (qp qa h rfl rfl rfl fun w5 bb5 h=>zs 0 h rfl fun w6 h=>X0 6 rfl ?_))))
 obtain ⟨o1,hF,hK1⟩:=qd hF
 refine qm (rL (fun m e w'=>∃ (i1:Int) (i2:Int) (i3:Int) (i4:Int) (i5:Int) (b1:Bool) (i6:Int),qdQ a_4 a_7 m i1 i2 i3 i4 i5 b1 i6=some o1∧e=[(2,.slice p6 a_2.length k6),(3,.slice p7 a_3.length k7),(4,.slice p8 a_4.length k8),(5,.slice p9 a_5.length k9),(7,.int .i64 a_7),(8,.pointer (some ⟨bb1,0,none⟩)),(9,.pointer (some ⟨bb2,0,none⟩)),(14,.pointer (some ⟨bb3,0,none⟩)),(17,.pointer (some ⟨bb4,0,none⟩)),(18,.bool b1),(19,.pointer (some ⟨bb5,0,none⟩)),(20,.int .i64 i6)]∧SH w w' [Ch.box bb5 [.int .i64 i1,.int .i64 i2,.int .i64 i3,.int .i64 i4,.int .i64 i5] 140,Ch.box bb4 [.int .i64 0,.int .i64 0,.int .i64 0,.int .i64 0,.int .i64 0] 140,Ch.box bb3 (qaa a_6 p10 p11 p12 k10 k11 k12) 57,Ch.box bb2 (qaq a_1) 77,Ch.box bb1 (qZ a_0 p1 p2 p3 p4 p5 k1 k2 k3 k4 k5) 53]) n ⟨_,_,_,_,_,_,_,hF,rfl,h⟩ rfl ?_)
 rintro m1 e1 w7 ⟨i1,i2,i3,i4,i5,b1,i6,hF,rfl,h⟩
 rcases m1 with _|m1
 ·cases hF
 refine X0 8 rfl (qh rfl hF ?_ ?_)<;>intro hF
 ·refine X0 7 rfl ?_
  obtain ⟨y1,hy1,hF,he1,b2,_,q1,cs8,hp1,hq1,hr1,hc2⟩:=s8.ix hF
  obtain rfl:=qX hr1
  refine zxe hp1 hq1 he1 rfl (zp1 rfl (zc 0 (hc2.below h.below) rfl (X0 3 rfl (qh rfl hF ?_ ?_))))<;>intro hF
  ·refine X0 7 rfl ?_
   obtain ⟨y2,hy2,hF,he2,b3,_,q2,cs9,hp2,hq2,hr2,hc4⟩:=s8.ix hF
   obtain rfl:=qX hr2
   exact zxe hp2 hq2 he2 rfl (zc 0 (hc4.below h.below) rfl (zs 0 h rfl fun w8 h=>X0 7 rfl (rK ⟨_,_,_,_,_,_,_,hF,rfl,h⟩ rfl)))
  exact X0 7 rfl (rK ⟨_,_,_,_,_,_,_,hF,rfl,h⟩ rfl)
 refine qq rfl ?_
 obtain rfl:=qb hF;replace hF:=hK1
 refine X0 5 rfl ?_
 obtain ⟨o2,hF,hK2⟩:=qd hF
 refine qm (rL (fun m e w'=>∃ (i7:Int) (i8:Int) (i9:Int) (i10:Int) (i11:Int) (b4:Bool) (i12:Int),qc1 a_0 a_1 a_2 a_3 a_5 a_6 a_7 m i7 i8 i9 i10 i11 b4 i12=some o2∧e=[(2,.slice p6 a_2.length k6),(3,.slice p7 a_3.length k7),(5,.slice p9 a_5.length k9),(7,.int .i64 a_7),(8,.pointer (some ⟨bb1,0,none⟩)),(9,.pointer (some ⟨bb2,0,none⟩)),(14,.pointer (some ⟨bb3,0,none⟩)),(17,.pointer (some ⟨bb4,0,none⟩)),(18,.bool b4),(19,.pointer (some ⟨bb5,0,none⟩)),(21,.int .i64 i12)]∧SH w w' [Ch.box bb5 [.int .i64 i7,.int .i64 i8,.int .i64 i9,.int .i64 i10,.int .i64 i11] 140,Ch.box bb4 [.int .i64 0,.int .i64 0,.int .i64 0,.int .i64 0,.int .i64 0] 140,Ch.box bb3 (qaa a_6 p10 p11 p12 k10 k11 k12) 57,Ch.box bb2 (qaq a_1) 77,Ch.box bb1 (qZ a_0 p1 p2 p3 p4 p5 k1 k2 k3 k4 k5) 53]) n ⟨_,_,_,_,_,_,_,hF,rfl,h⟩ rfl ?_)
 rintro m2 e2 w9 ⟨i7,i8,i9,i10,i11,b4,i12,hF,rfl,h⟩
 rcases m2 with _|m2
 ·cases hF
 refine X0 8 rfl (qh rfl hF ?_ ?_)<;>intro hF
 ·refine X0 7 rfl ?_
  obtain ⟨y3,hy3,hF,he3,b5,_,q3,cs10,hp3,hq3,hr3,hc6⟩:=s6.ix hF
  obtain rfl:=qa1 hr3
  refine zxe hp3 hq3 he3 rfl (zc 0 (hc6.below h.below) rfl (qp qa h rfl rfl rfl fun w10 bb6 h=>zs 0 h rfl fun w11 h=>zNSS ?_))
  obtain ⟨KF6,hKF6,o7,hF,hK7⟩:=bindE hF
  refine qba (fun e w'=>∃ (b6:Bool),KF6 b6=some o2∧e=[(2,.slice p6 a_2.length k6),(3,.slice p7 a_3.length k7),(5,.slice p9 a_5.length k9),(7,.int .i64 a_7),(8,.pointer (some ⟨bb1,0,none⟩)),(9,.pointer (some ⟨bb2,0,none⟩)),(14,.pointer (some ⟨bb3,0,none⟩)),(17,.pointer (some ⟨bb4,0,none⟩)),(18,.bool b4),(19,.pointer (some ⟨bb5,0,none⟩)),(21,.int .i64 i12),(22,.pointer (some ⟨bb6,0,none⟩)),(74,.bool b6)]∧SH w w' [Ch.box bb6 (qjs y3) 187,Ch.box bb5 [.int .i64 i7,.int .i64 i8,.int .i64 i9,.int .i64 i10,.int .i64 i11] 140,Ch.box bb4 [.int .i64 0,.int .i64 0,.int .i64 0,.int .i64 0,.int .i64 0] 140,Ch.box bb3 (qaa a_6 p10 p11 p12 k10 k11 k12) 57,Ch.box bb2 (qaq a_1) 77,Ch.box bb1 (qZ a_0 p1 p2 p3 p4 p5 k1 k2 k3 k4 k5) 53]) ?_ ?_
  ·refine X0 3 rfl ?_
   obtain ⟨y19,hy19,hF,he19,b20,_,q19,cs45,hp19,hq19,rfl,hc28⟩:=s7.ix hF
   refine zxe hp19 hq19 he19 rfl (zc 0 (hc28.below h.below) rfl (zp2 rfl (qk (t:=60) hF rfl ?_ ?_)))<;>intro hF
   ·refine X0 15 rfl ?_
    obtain rfl:=qb hF
    exact rG ⟨_,hK7,rfl,h⟩ rfl
   refine X1 10 0 h rfl (qk (t:=66) hF rfl ?_ ?_)<;>intro hF
   ·refine X0 9 rfl ?_
    obtain rfl:=qb hF
    exact rG ⟨_,hK7,rfl,h⟩ rfl
   refine X2 9 3 0 h rfl ?_
   obtain ⟨y20,hy20,hF,he20,b21,_,q20,cs46,hp20,hq20,rfl,hc29⟩:=s10.ix hF
   refine zxe hp20 hq20 he20 rfl (X0 1 rfl (zc 0 (hc29.below h.below) rfl (X0 4 rfl ?_)))
   obtain rfl:=qb hF
   exact rG ⟨_,hK7,rfl,h⟩ rfl
  rintro e13 w88 ⟨b6,hF,rfl,h⟩
  subst hKF6
  refine qh rfl hF ?_ ?_<;>intro hF
  ·refine qq rfl (X0 5 rfl ?_)
   replace h:=h.pick [1,2,3,4,5] rfl
   exact rK ⟨_,_,_,_,_,_,_,hF,rfl,h⟩ rfl
  refine zKS (rA [] [0,3,4,5] h rfl fun w12 h=>M4 63 [0,1,2,3,4,5] 3 2 0 1 (h.pick [0,3,4,5] rfl) rfl (M1 127 [6] 0 (h.pick [0,3,4,5] rfl) rfl ?_))
  obtain ⟨y4,hy4,hF,he4,b7,_,q4,cs11,hp4,hq4,hr4,hc8⟩:=s12.ix hF
  obtain rfl:=qx hr4
  refine Ae 7 255 hp4 hq4 he4 (h.pick [0,3,4,5] rfl) rfl (Al 8 511 0 hc8 (h.pick [0,3,4,5] rfl) rfl ?_)
  obtain ⟨r1,hr5,hF⟩:=qd hF
  obtain ⟨r2,r3⟩:=r1
  refine qnw (fun e w'=>∃ (bb33:Nat) (bb34:Nat),e=[(14,.pointer (some ⟨bb3,0,none⟩)),(17,.pointer (some ⟨bb4,0,none⟩)),(18,.bool b4),(19,.pointer (some ⟨bb5,0,none⟩)),(2,.slice p6 a_2.length k6),(21,.int .i64 i12),(22,.pointer (some ⟨bb6,0,none⟩)),(23,.pointer (some ⟨bb34,0,none⟩)),(24,.pointer (some ⟨bb33,0,none⟩)),(3,.slice p7 a_3.length k7),(5,.slice p9 a_5.length k9),(7,.int .i64 a_7),(8,.pointer (some ⟨bb1,0,none⟩)),(9,.pointer (some ⟨bb2,0,none⟩))]∧SH w w' [Ch.box bb33 (qgP r3) 138,Ch.box bb34 (qgP r2) 138,Ch.box bb6 (qjs y3) 187,Ch.box bb5 [.int .i64 i7,.int .i64 i8,.int .i64 i9,.int .i64 i10,.int .i64 i11] 140,Ch.box bb4 [.int .i64 0,.int .i64 0,.int .i64 0,.int .i64 0,.int .i64 0] 140,Ch.box bb3 (qaa a_6 p10 p11 p12 k10 k11 k12) 57,Ch.box bb2 (qaq a_1) 77,Ch.box bb1 (qZ a_0 p1 p2 p3 p4 p5 k1 k2 k3 k4 k5) 53]) 0 (bits 17 131071) ?_ ?_
  ·intro K
   refine qqp 9 13 14 rfl rfl rfl (bits 17 1023) (bits 17 8703) (bits 17 16895) (by kernel_rfl) (by kernel_rfl) (by kernel_rfl) (by kernel_rfl) ?_ ?_ ?_
   ·refine qaP (r2,r3) h (cB 218 rfl) (qfL (h.old ha1) (h.old ha2) (qcc y3) (qA y4) hr5) rfl rfl rfl rfl fun w71 S29 us13 hv19 hr40=>?_
    obtain ⟨S30,S31,cs38,us14,rfl,hv20,hr41⟩:=hv19.cons hr40
    obtain rfl:=qx (hv20.sh.own 0 rfl)
    obtain ⟨cs39,rfl,h⟩:=hv20.last hr41
    obtain rfl:=qx (h.own 0 rfl)
    refine G0 8191 [10,11,12] (h.pick [2,5,6,7] rfl) rfl (At 13 14 16383 24575 rfl ?_ ?_)
    ·refine qp qa h rfl rfl rfl fun w72 bb31 h=>Ag (h.pick [3,6,7,8] rfl) (Ao 14 32767 rfl (qp qa h rfl rfl rfl fun w73 bb32 h=>Ag (h.pick [4,7,8,9] rfl) (Ao 15 65535 rfl (zs 1 h rfl fun w74 h=>Ag (h.pick [4,7,8,9] rfl) (Ao 16 131071 rfl (zs 0 h rfl fun w75 h=>Ag (h.pick [4,7,8,9] rfl) ?_))))))
     replace h:=h.pick [0,1,4,5,6,7,8,9] rfl
     exact qft [(14,_),(17,_),(18,_),(19,_),(2,_),(21,_),(22,_),(23,_),(24,_),(3,_),(5,_),(7,_),(8,_),(9,_)] ⟨rfl,rfl,rfl,rfl,rfl,rfl,rfl,rfl,rfl,rfl,rfl,rfl,rfl,rfl,trivial⟩ (K _ _ ⟨_,_,rfl,h⟩)
    refine qp qa h rfl rfl rfl fun w72 bb31 h=>Ag (h.pick [3,6,7,8] rfl) (Ao 13 32767 rfl (qp qa h rfl rfl rfl fun w73 bb32 h=>Ag (h.pick [4,7,8,9] rfl) (Ao 15 65535 rfl (zs 0 h rfl fun w74 h=>Ag (h.pick [4,7,8,9] rfl) (Ao 16 131071 rfl (zs 1 h rfl fun w75 h=>Ag (h.pick [4,7,8,9] rfl) ?_))))))
    replace h:=h.pick [1,0,4,5,6,7,8,9] rfl
    exact qft [(14,_),(17,_),(18,_),(19,_),(2,_),(21,_),(22,_),(23,_),(24,_),(3,_),(5,_),(7,_),(8,_),(9,_)] ⟨rfl,rfl,rfl,rfl,rfl,rfl,rfl,rfl,rfl,rfl,rfl,rfl,rfl,rfl,trivial⟩ (K _ _ ⟨_,_,rfl,h⟩)
   ·refine qp qa h rfl rfl rfl fun w71 bb31 h=>Ag (h.pick [1,4,5,6] rfl) (At 9 14 9215 25087 rfl ?_ ?_)
    ·refine qaP (r2,r3) h (cB 218 rfl) (qfL (h.old ha1) (h.old ha2) (qcc y3) (qA y4) hr5) rfl rfl rfl rfl fun w72 S29 us13 hv19 hr40=>?_
     obtain ⟨S30,S31,cs38,us14,rfl,hv20,hr41⟩:=hv19.cons hr40
     obtain rfl:=qx (hv20.sh.own 0 rfl)
     obtain ⟨cs39,rfl,h⟩:=hv20.last hr41
     obtain rfl:=qx (h.own 0 rfl)
     refine G0 16383 [10,11,12] (h.pick [3,6,7,8] rfl) rfl (Ao 14 32767 rfl (qp qa h rfl rfl rfl fun w73 bb32 h=>Ag (h.pick [4,7,8,9] rfl) (Ao 15 65535 rfl (zs 3 h rfl fun w74 h=>Ag (h.pick [4,7,8,9] rfl) (Ao 16 131071 rfl (zs 0 h rfl fun w75 h=>Ag (h.pick [4,7,8,9] rfl) ?_))))))
     replace h:=h.pick [0,3,4,5,6,7,8,9] rfl
     exact qft [(14,_),(17,_),(18,_),(19,_),(2,_),(21,_),(22,_),(23,_),(24,_),(3,_),(5,_),(7,_),(8,_),(9,_)] ⟨rfl,rfl,rfl,rfl,rfl,rfl,rfl,rfl,rfl,rfl,rfl,rfl,rfl,rfl,trivial⟩ (K _ _ ⟨_,_,rfl,h⟩)
    refine qp qa h rfl rfl rfl fun w72 bb32 h=>Ag (h.pick [2,5,6,7] rfl) (Ao 9 25599 rfl (qaP (r2,r3) h (cB 218 rfl) (qfL (h.old ha1) (h.old ha2) (qcc y3) (qA y4) hr5) rfl rfl rfl rfl fun w73 S29 us13 hv19 hr40=>?_))
    obtain ⟨S30,S31,cs38,us14,rfl,hv20,hr41⟩:=hv19.cons hr40
    obtain rfl:=qx (hv20.sh.own 0 rfl)
    obtain ⟨cs39,rfl,h⟩:=hv20.last hr41
    obtain rfl:=qx (h.own 0 rfl)
    refine G0 32767 [10,11,12] (h.pick [4,7,8,9] rfl) rfl (Ao 15 65535 rfl (zs 3 h rfl fun w74 h=>Ag (h.pick [4,7,8,9] rfl) (Ao 16 131071 rfl (zs 2 h rfl fun w75 h=>Ag (h.pick [4,7,8,9] rfl) ?_))))
    replace h:=h.pick [2,3,4,5,6,7,8,9] rfl
    exact qft [(14,_),(17,_),(18,_),(19,_),(2,_),(21,_),(22,_),(23,_),(24,_),(3,_),(5,_),(7,_),(8,_),(9,_)] ⟨rfl,rfl,rfl,rfl,rfl,rfl,rfl,rfl,rfl,rfl,rfl,rfl,rfl,rfl,trivial⟩ (K _ _ ⟨_,_,rfl,h⟩)
   refine qp qa h rfl rfl rfl fun w71 bb31 h=>Ag (h.pick [1,4,5,6] rfl) (At 9 13 17407 25087 rfl ?_ ?_)
   ·refine qaP (r2,r3) h (cB 218 rfl) (qfL (h.old ha1) (h.old ha2) (qcc y3) (qA y4) hr5) rfl rfl rfl rfl fun w72 S29 us13 hv19 hr40=>?_
    obtain ⟨S30,S31,cs38,us14,rfl,hv20,hr41⟩:=hv19.cons hr40
    obtain rfl:=qx (hv20.sh.own 0 rfl)
    obtain ⟨cs39,rfl,h⟩:=hv20.last hr41
    obtain rfl:=qx (h.own 0 rfl)
    refine G0 24575 [10,11,12] (h.pick [3,6,7,8] rfl) rfl (Ao 13 32767 rfl (qp qa h rfl rfl rfl fun w73 bb32 h=>Ag (h.pick [4,7,8,9] rfl) (Ao 15 65535 rfl (zs 0 h rfl fun w74 h=>Ag (h.pick [4,7,8,9] rfl) (Ao 16 131071 rfl (zs 3 h rfl fun w75 h=>Ag (h.pick [4,7,8,9] rfl) ?_))))))
    replace h:=h.pick [3,0,4,5,6,7,8,9] rfl
    exact qft [(14,_),(17,_),(18,_),(19,_),(2,_),(21,_),(22,_),(23,_),(24,_),(3,_),(5,_),(7,_),(8,_),(9,_)] ⟨rfl,rfl,rfl,rfl,rfl,rfl,rfl,rfl,rfl,rfl,rfl,rfl,rfl,rfl,trivial⟩ (K _ _ ⟨_,_,rfl,h⟩)
   refine qp qa h rfl rfl rfl fun w72 bb32 h=>Ag (h.pick [2,5,6,7] rfl) (Ao 9 25599 rfl (qaP (r2,r3) h (cB 218 rfl) (qfL (h.old ha1) (h.old ha2) (qcc y3) (qA y4) hr5) rfl rfl rfl rfl fun w73 S29 us13 hv19 hr40=>?_))
   obtain ⟨S30,S31,cs38,us14,rfl,hv20,hr41⟩:=hv19.cons hr40
   obtain rfl:=qx (hv20.sh.own 0 rfl)
   obtain ⟨cs39,rfl,h⟩:=hv20.last hr41
   obtain rfl:=qx (h.own 0 rfl)
   refine G0 32767 [10,11,12] (h.pick [4,7,8,9] rfl) rfl (Ao 15 65535 rfl (zs 2 h rfl fun w74 h=>Ag (h.pick [4,7,8,9] rfl) (Ao 16 131071 rfl (zs 3 h rfl fun w75 h=>Ag (h.pick [4,7,8,9] rfl) ?_))))
   replace h:=h.pick [3,2,4,5,6,7,8,9] rfl
   exact qft [(14,_),(17,_),(18,_),(19,_),(2,_),(21,_),(22,_),(23,_),(24,_),(3,_),(5,_),(7,_),(8,_),(9,_)] ⟨rfl,rfl,rfl,rfl,rfl,rfl,rfl,rfl,rfl,rfl,rfl,rfl,rfl,rfl,trivial⟩ (K _ _ ⟨_,_,rfl,h⟩)
  rintro e11 w76 ⟨bb33,bb34,rfl,h⟩
  refine Ad (X1 11 2 h rfl ?_)
  obtain ⟨KF5,hKF5,o6,hF,hK6⟩:=bindE hF
  refine qba (fun e w'=>∃ (i14:Int),KF5 i14=some o2∧e=[(2,.slice p6 a_2.length k6),(3,.slice p7 a_3.length k7),(5,.slice p9 a_5.length k9),(7,.int .i64 a_7),(8,.pointer (some ⟨bb1,0,none⟩)),(9,.pointer (some ⟨bb2,0,none⟩)),(14,.pointer (some ⟨bb3,0,none⟩)),(17,.pointer (some ⟨bb4,0,none⟩)),(18,.bool b4),(19,.pointer (some ⟨bb5,0,none⟩)),(21,.int .i64 i12),(22,.pointer (some ⟨bb6,0,none⟩)),(23,.pointer (some ⟨bb34,0,none⟩)),(24,.pointer (some ⟨bb33,0,none⟩)),(25,.int .i64 i14)]∧SH w w' [Ch.box bb33 (qgP r3) 138,Ch.box bb34 (qgP r2) 138,Ch.box bb6 (qjs y3) 187,Ch.box bb5 [.int .i64 i7,.int .i64 i8,.int .i64 i9,.int .i64 i10,.int .i64 i11] 140,Ch.box bb4 [.int .i64 0,.int .i64 0,.int .i64 0,.int .i64 0,.int .i64 0] 140,Ch.box bb3 (qaa a_6 p10 p11 p12 k10 k11 k12) 57,Ch.box bb2 (qaq a_1) 77,Ch.box bb1 (qZ a_0 p1 p2 p3 p4 p5 k1 k2 k3 k4 k5) 53]) ?_ ?_
  ·refine qh rfl hF ?_ ?_<;>intro hF
   ·refine X2 4 7 2 h rfl (zcI h hF (qkz (h.old ha1) (qcc y3)) rfl fun r12 w86 h hF=>?_)
    obtain ⟨y18,hy18,hF,he18,b19,_,q18,cs44,hp18,hq18,rfl,hc27⟩:=s9.ix hF
    refine zxe hp18 hq18 he18 rfl (zc 0 (hc27.below h.below) rfl (X0 2 rfl ?_))
    obtain rfl:=qb hF
    exact rG ⟨_,hK6,rfl,h⟩ rfl
   refine qhE ?_
   obtain rfl:=qb hF
   exact rG ⟨_,hK6,rfl,h⟩ rfl
  rintro e12 w87 ⟨i14,hF,rfl,h⟩
  subst hKF5
  refine qc0 (rA [] [1,2,5] h rfl fun w77 h=>M2 15 [0,1,2,3] 2 1 (h.pick [1,2,5] rfl) rfl ?_)
  obtain ⟨y16,hy16,hF,he16,b17,_,q16,cs40,hp16,hq16,hr43,hc23⟩:=s11.ix hF
  obtain rfl:=qx hr43
  refine Ae 4 31 hp16 hq16 he16 (h.pick [1,2,5] rfl) rfl (M0 63 [5] (h.pick [1,2,5] rfl) rfl (Al 6 127 0 hc23 (h.pick [1,2,5] rfl) rfl (M3 65535 [7,8,9,10,11,12,13,14,15] 0 2 1 (h.pick [1,2,5] rfl) rfl ?_)))
  obtain ⟨y17,hy17,hF,he17,b18,_,q17,cs41,hp17,hq17,hr44,hc24⟩:=s11.ix hF
  obtain rfl:=qx hr44
  refine Ae 16 131071 hp17 hq17 he17 (h.pick [1,2,5] rfl) rfl (M0 262143 [17] (h.pick [1,2,5] rfl) rfl (Al 18 524287 1 hc24 (h.pick [1,2,5] rfl) rfl (M1 16777215 [19,20,21,22,23] 0 (h.pick [1,2,5] rfl) rfl (Aw 24 33554431 (fun w' hw=>qW qa [0,1] [.tmp 108,.tmp 120] rfl rfl rfl rfl rfl rfl rfl rfl) (h.pick [1,2,5] rfl) rfl ?_))))
  refine Ao 25 67108863 rfl (qp qa h rfl rfl rfl fun w78 bb35 h=>Ag (h.pick [2,3,6] rfl) (Ao 26 134217727 rfl (zs 0 h rfl fun w79 h=>Ag (h.pick [2,3,6] rfl) (Ad (X0 5 rfl (qh rfl hF ?_ ?_))))))<;>intro hF
  ·refine X2 5 0 4 h rfl (zcO h hF (qmF (qA (⟨W64 ((W64 (y16.Am+r2.Am))-i14),W64 ((W64 (y17.Ay+r2.Ay))+i14)⟩:qc)) (qA _)) rfl fun r10 w80 S33 cs42 h hF=>?_)
   obtain rfl:=qx (h.own 0 rfl)
   refine zs 1 h rfl fun w81 h=>X2 5 2 5 h rfl (zcO h hF (qmF (qA r3) (qA _)) rfl fun r11 w82 S34 cs43 h hF=>?_)
   obtain rfl:=qx (h.own 0 rfl)
   refine zs 3 h rfl fun w83 h=>X2 9 2 3 h rfl (r_v (qW qa [0,1,2] [.tmp 131,.tmp 132,.tmp 133] rfl rfl rfl rfl rfl rfl rfl rfl) rfl (zs 6 h rfl fun w84 h=>X0 7 rfl ?_))
   replace h:=h.pick [6,7,8,9,10] rfl
   exact rK ⟨_,_,_,_,_,_,_,hF,rfl,h⟩ rfl
  refine X2 9 0 1 h rfl (r_v (qW qa [0,1,2] [.tmp 131,.tmp 132,.tmp 133] rfl rfl rfl rfl rfl rfl rfl rfl) rfl (zs 4 h rfl fun w85 h=>X0 7 rfl ?_))
  replace h:=h.pick [4,5,6,7,8] rfl
  exact rK ⟨_,_,_,_,_,_,_,hF,rfl,h⟩ rfl
 refine qq rfl ?_
 obtain rfl:=qb hF;replace hF:=hK2
 refine qc0 (rA [] [0] h rfl fun w89 h=>M1 7 [0,1,2] 0 (h.pick [0] rfl) rfl (Ao 3 15 rfl (zs 1 h rfl fun w90 h=>Ag (h.pick [0] rfl) (Ad ?_))))
 obtain rfl:=qb hF
 exact qab qa (ρ:=(Bool × qe)) [GoT.v Bool [.bool b4],GoT.v qe [.int .i64 i7,.int .i64 i8,.int .i64 i9,.int .i64 i10,.int .i64 i11]] h ⟨rfl,⟨_,_,_,rfl,rfl,h.box 1 rfl,rfl⟩,trivial⟩ (PV.done h (qao h (qz (S:=fun _=>False) rfl) (qaj (qz (S:=fun _=>False) (qaL (⟨i7,(⟨i8,i9⟩:qc),(⟨i10,i11⟩:qc)⟩:qe)))) (by rfl)))
def qch (a_0:qg) (a_1:qy) (a_3:(List qe)) (a_4:(List Int)) (a_5:(List Int)) (r1:(List qu)) (r2:(List Bool)):Nat→(List qc)→(List qc)→(List Bool)→Int→Option (Flow (qn × Bool) ((List qc) × (List qc) × (List Bool) × Int))
 | 0,_,_,_,_=>none
 | n+1,x1,x2,x3,i1 =>
  bif decide (i1<(a_5.length:Int)) then
   (idx a_5 i1).bind fun y1 =>
   (qiM n a_0 a_1 r1 r2 a_3 a_4 (⟨x3,x2,x1⟩:qn) y1).bind fun o=>match o with
    | (r6,r7) =>
     bif (!r6) then qch a_0 a_1 a_3 a_4 a_5 r1 r2 n x1 x2 x3 (W64 (i1+1)) else
     (qil n (⟨r7.Af.Am,r7.Af.Ay⟩:qc)).bind fun r8 =>
     bif (!r8) then some (.ret ((⟨[],[],[]⟩:qn),false)) else
     (idx x3 y1).bind fun _ =>
     (idx x2 y1).bind fun _ =>
     (idx x1 y1).bind fun _ =>
     qch a_0 a_1 a_3 a_4 a_5 r1 r2 n (setS x1 y1 (⟨r7.Aq.Am,r7.Aq.Ay⟩:qc)) (setS x2 y1 (⟨r7.Af.Am,r7.Af.Ay⟩:qc)) (setS x3 y1 true) (W64 (i1+1))
  else
   some (.nxt (x1,x2,x3,i1))
def qjV (n:Nat) (a_0:qg) (a_1:qy) (a_2:(List Int)) (a_3:(List qe)) (a_4:(List Int)) (a_5:(List Int)):Option (qn × Bool) :=
 (qgH n a_0).bind fun r1 =>
 (qiv n r1 a_2).bind fun r2 =>
 (qgD n a_0).bind fun r3 =>
 (qlB n r3).bind fun r4 =>
 (qch a_0 a_1 a_3 a_4 a_5 r1 r2 n r4.Aq r4.Af r4.Aj 0).bind fun o=>match o with
 | .ret r=>some r
 | .nxt (x1,x2,x3,_) =>
  some ((⟨x3,x2,x1⟩:qn),true)
theorem qrd {a_0:qg} {a_1:qy} {a_2:(List Int)} {a_3:(List qe)} {a_4:(List Int)} {a_5:(List Int)} (ha1:GoT.R w (old w) a_0 cs1) (ha2:GoT.R w (old w) a_1 cs2) (ha3:GoT.R w (old w) a_2 cs3) (ha4:GoT.R w (old w) a_3 cs4) (ha5:GoT.R w (old w) a_4 cs5) (ha6:GoT.R w (old w) a_5 cs6) {r:(qn × Bool)} (hF:qjV n a_0 a_1 a_2 a_3 a_4 a_5=some r):RetV Tryz.prog 73 [GoT.v qg cs1,GoT.v qy cs2,GoT.v (List Int) cs3,GoT.v (List qe) cs4,GoT.v (List Int) cs5,GoT.v (List Int) cs6] w r:=by
 obtain ⟨p1,k1,p2,k2,p3,k3,p4,k4,p5,k5,rfl,s1,s2,s3,s4,s5⟩:=qI ha1
 obtain rfl:=qah ha2
 obtain ⟨p6,k6,rfl,s6⟩:=ha3
 obtain ⟨p7,k7,rfl,s7⟩:=ha4
 obtain ⟨p8,k8,rfl,s8⟩:=ha5
 obtain ⟨p9,k9,rfl,s9⟩:=ha6
 refine zV 75 Tryz.func73 rfl fun h=>zSR (qv h rfl rfl fun w1 bb1 h=>qv h rfl rfl fun w2 bb2 h=>qp qa h rfl rfl rfl fun w3 bb3 h=>X1 5 2 h rfl (zcL h hF (qjb (h.old ha1)) rfl fun r1 w4 S1 p10 k10 h hF=>X0 6 rfl (zcL h hF (qmC (h.own 0 rfl) ⟨_,_,rfl,(h.oldS s6)⟩) rfl fun r2 w5 S2 p11 k11 h hF=>X1 5 4 h rfl (zcI h hF (qjd (h.old ha1)) rfl fun r3 w6 h hF=>zcO h hF qpJ rfl fun r4 w7 S3 cs7 h hF=>?_))))
 obtain ⟨p12,k12,p13,k13,p14,k14,rfl,-,-,-⟩:=qad (h.own 0 rfl)
 refine qp qa h rfl rfl rfl fun w8 bb4 h=>zs 0 h rfl fun w9 h=>X0 6 rfl ?_
 replace h:=h.pick [1,0,2,3,4,5,6] rfl
 obtain ⟨S4,S5,S6,h⟩:=qaE h
 obtain ⟨o1,hF,hK1⟩:=qd hF
 refine qm (rL (fun m e w'=>∃ (x1:(List qc)) (x2:(List qc)) (x3:(List Bool)) (i1:Int),qch a_0 a_1 a_3 a_4 a_5 r1 r2 m x1 x2 x3 i1=some o1∧e=[(3,.slice p7 a_3.length k7),(4,.slice p8 a_4.length k8),(5,.slice p9 a_5.length k9),(6,.pointer (some ⟨bb1,0,none⟩)),(7,.pointer (some ⟨bb2,0,none⟩)),(12,.pointer (some ⟨bb3,0,none⟩)),(14,.slice p10 r1.length k10),(15,.slice p11 r2.length k11),(16,.pointer (some ⟨bb4,0,none⟩)),(17,.int .i64 i1)]∧SH w w' [Ch.own S6 (x1:List qc) [.slice p14 r4.Aq.length k14],Ch.own S5 (x2:List qc) [.slice p13 r4.Af.length k13],Ch.own S4 (x3:List Bool) [.slice p12 r4.Aj.length k12],Ch.box bb4 (qaa r4 p12 p13 p14 k12 k13 k14) 57,Ch.own S2 (r2:List Bool) [.slice p11 r2.length k11],Ch.own S1 (r1:List qu) [.slice p10 r1.length k10],Ch.box bb3 [.slice none 0 0,.slice none 0 0,.slice none 0 0] 57,Ch.box bb2 (qaq a_1) 77,Ch.box bb1 (qZ a_0 p1 p2 p3 p4 p5 k1 k2 k3 k4 k5) 53]) n ⟨_,_,_,_,hF,rfl,h⟩ rfl ?_)
 rintro m1 e1 w10 ⟨x1,x2,x3,i1,hF,rfl,h⟩
 rcases m1 with _|m1
 ·cases hF
 refine X0 8 rfl (qh rfl hF ?_ ?_)<;>intro hF
 ·refine X0 7 rfl ?_
  obtain ⟨y1,hy1,hF,he1,b1,_,q1,cs8,hp1,hq1,rfl,hc2⟩:=s9.ix hF
  refine zxe hp1 hq1 he1 rfl (zc 0 (hc2.below h.below) rfl (X3 12 8 7 3 h rfl ?_))
  obtain ⟨r5,hr6,hF⟩:=qd hF
  obtain ⟨r6,r7⟩:=r5
  refine qaP (r6,r7) h (cB 152 rfl) (qpX (h.old ha1) (h.old ha2) (h.own 5 rfl) (h.own 4 rfl) ⟨_,_,rfl,(h.oldS s7)⟩ ⟨_,_,rfl,(h.oldS s8)⟩ ⟨[.slice p12 r4.Aj.length k12],[.slice p13 r4.Af.length k13,.slice p14 r4.Aq.length k14],rfl,(h.own 2 rfl),⟨[.slice p13 r4.Af.length k13],[.slice p14 r4.Aq.length k14],rfl,(h.own 1 rfl),(h.own 0 rfl)⟩⟩ hr6) rfl rfl rfl rfl fun w11 S7 us1 hv1 hr7=>?_
  obtain ⟨S8,us2,rfl,hv2,hr8⟩:=hv1.consB hr7
  obtain ⟨cs9,rfl,h⟩:=hv2.last hr8
  obtain rfl:=qX (h.own 0 rfl)
  refine zp3 rfl (qp qa h rfl rfl rfl fun w12 bb5 h=>zp1 rfl (zs 0 h rfl fun w13 h=>X0 7 rfl (qh rfl hF ?_ ?_)))<;>intro hF
  ·refine qq rfl (X0 5 rfl ?_)
   replace h:=h.pick [2,3,4,5,6,7,8,9,10] rfl
   exact rK ⟨_,_,_,_,hF,rfl,h⟩ rfl
  refine X1 6 0 h rfl (zcB h hF (qk0 (qA _)) rfl fun r8 w14 h hF=>X0 2 rfl (qh rfl hF ?_ ?_))<;>intro hF
  ·refine zSR (r_v (qW qa [] [] rfl rfl rfl rfl rfl rfl rfl rfl) rfl (zs 8 h rfl fun w15 h=>X0 2 rfl ?_))
   obtain rfl:=qb hF;replace hF:=hK1
   obtain rfl:=qb hF
   exact qab qa (ρ:=(qn × Bool)) [GoT.v qn [.slice none 0 0,.slice none 0 0,.slice none 0 0],GoT.v Bool [.bool false]] h ⟨⟨_,_,_,rfl,rfl,h.box 8 rfl,rfl⟩,rfl,trivial⟩ (PV.done h (qao h (qcD (⟨[],[],[]⟩:qn) h qb3 qb3 qb3 (by rfl) (by rfl)) (qaj (qz (S:=fun _=>False) rfl)) (by rfl)))
  refine X1 6 5 h rfl ?_
  obtain ⟨y2,hy2,hF,he2,b2,_,q2,cs10,hp2,hq2,rfl,hc5⟩:=(h.sl 4 rfl).1.ix hF
  refine zx hp2 hq2 ⟨he2.1,qD he2.2.1 (h.sl 4 rfl).2⟩ rfl (qau qa 4 0 true h rfl hy2 hp2 hq2 rfl hc5 rfl rfl rfl rfl rfl rfl rfl fun w16 h=>X2 8 5 0 h rfl ?_)
  obtain ⟨y3,hy3,hF,he3,b3,_,q3,cs11,hp3,hq3,hr12,hc6⟩:=(h.sl 3 rfl).1.ix hF
  obtain rfl:=qx hr12
  refine zx hp3 hq3 ⟨he3.1,qD he3.2.1 (h.sl 3 rfl).2⟩ rfl (qau qa 3 0 (⟨r7.Af.Am,r7.Af.Ay⟩:qc) h rfl hy3 hp3 hq3 (qA y3) hc6 rfl rfl rfl (qA (⟨r7.Af.Am,r7.Af.Ay⟩:qc)) rfl rfl rfl fun w17 h=>X2 7 5 0 h rfl ?_)
  obtain ⟨y4,hy4,hF,he4,b4,_,q4,cs12,hp4,hq4,hr13,hc7⟩:=(h.sl 2 rfl).1.ix hF
  obtain rfl:=qx hr13
  refine zx hp4 hq4 ⟨he4.1,qD he4.2.1 (h.sl 2 rfl).2⟩ rfl (qau qa 2 0 (⟨r7.Aq.Am,r7.Aq.Ay⟩:qc) h rfl hy4 hp4 hq4 (qA y4) hc7 rfl rfl rfl (qA (⟨r7.Aq.Am,r7.Aq.Ay⟩:qc)) rfl rfl rfl fun w18 h=>X0 7 rfl ?_)
  replace h:=h.pick [2,3,4,5,6,7,8,9,10] rfl
  exact rK ⟨_,_,_,_,hF,rfl,h⟩ rfl
 refine qq rfl ?_
 obtain rfl:=qb hF;replace hF:=hK1
 refine X1 3 3 h rfl (zs 6 h rfl fun w19 h=>X0 2 rfl ?_)
 obtain rfl:=qb hF
 exact qab qa (ρ:=(qn × Bool)) [GoT.v qn (qaa r4 p12 p13 p14 k12 k13 k14),GoT.v Bool [.bool true]] h ⟨⟨_,_,_,rfl,rfl,h.box 6 rfl,rfl⟩,rfl,trivial⟩ (PV.done h (qao h (qcD (⟨x3,x2,x1⟩:qn) h (qap 2 h rfl) (qap 1 h rfl) (qap 0 h rfl) (by rfl) (by rfl)) (qaj (qz (S:=fun _=>False) rfl)) (by rfl)))
def qbc (a_4:(List Int)):Nat→Int→Option (Flow (qn × Int) Int)
 | 0,_=>none
 | n+1,i1 =>
  bif decide (i1<(a_4.length:Int)) then
   (idx a_4 i1).bind fun y1 =>
   (qay n y1 0 1000000000).bind fun r1 =>
   bif (!r1) then some (.ret ((⟨[],[],[]⟩:qn),2)) else
   qbc a_4 n (W64 (i1+1))
  else
   some (.nxt i1)
def qc7 (n:Nat) (a_0:qg) (a_1:qy) (a_2:(List Int)) (a_3:(List qe)) (a_4:(List Int)):Option (qn × Int) :=
 (
  (qfg n a_0).bind fun r8 =>
  bif (!r8) then some true else
  (qfr n a_1).bind fun r9 =>
  some (!r9)).bind fun b1 =>
 bif b1 then some ((⟨[],[],[]⟩:qn),1) else
 bif ((a_4.length:Int) != (a_0.Aa.Ai.length:Int)) then some ((⟨[],[],[]⟩:qn),2) else
 (qbc a_4 n 0).bind fun o=>match o with
 | .ret r=>some r
 | .nxt _ =>
  (qf3 n a_0 a_1 a_2 a_3).bind fun o=>match o with
   | (r3,r4) =>
    bif (r4 != 0) then some ((⟨[],[],[]⟩:qn),r4) else
    (qjV n a_0 a_1 a_2 a_3 a_4 r3).bind fun o=>match o with
     | (r6,r7) =>
      bif (!r7) then some ((⟨[],[],[]⟩:qn),3) else
      some (r6,0)
theorem qbb {a_0:qg} {a_1:qy} {a_2:(List Int)} {a_3:(List qe)} {a_4:(List Int)} (ha1:GoT.R w (old w) a_0 cs1) (ha2:GoT.R w (old w) a_1 cs2) (ha3:GoT.R w (old w) a_2 cs3) (ha4:GoT.R w (old w) a_3 cs4) (ha5:GoT.R w (old w) a_4 cs5) {r:(qn × Int)} (hF:qc7 n a_0 a_1 a_2 a_3 a_4=some r):RetV Tryz.prog 32 [GoT.v qg cs1,GoT.v qy cs2,GoT.v (List Int) cs3,GoT.v (List qe) cs4,GoT.v (List Int) cs5] w r:=by
 obtain ⟨p1,k1,p2,k2,p3,k3,p4,k4,p5,k5,rfl,s1,s2,s3,s4,s5⟩:=qI ha1
 obtain rfl:=qah ha2
 obtain ⟨p6,k6,rfl,s6⟩:=ha3
 obtain ⟨p7,k7,rfl,s7⟩:=ha4
 obtain ⟨p8,k8,rfl,s8⟩:=ha5
 refine zV 73 Tryz.func32 rfl fun h=>zSR (qv h rfl rfl fun w1 bb1 h=>qv h rfl rfl fun w2 bb2 h=>qp qa h rfl rfl rfl fun w3 bb3 h=>X0 4 rfl ?_)
 obtain ⟨KF1,hKF1,o2,hF,hK2⟩:=bindE hF
 refine qba (fun e w'=>∃ (b1:Bool),KF1 b1=some r∧e=[(2,.slice p6 a_2.length k6),(3,.slice p7 a_3.length k7),(4,.slice p8 a_4.length k8),(5,.pointer (some ⟨bb1,0,none⟩)),(6,.pointer (some ⟨bb2,0,none⟩)),(10,.pointer (some ⟨bb3,0,none⟩)),(24,.bool b1)]∧SH w w' [Ch.box bb3 [.slice none 0 0,.slice none 0 0,.slice none 0 0] 57,Ch.box bb2 (qaq a_1) 77,Ch.box bb1 (qZ a_0 p1 p2 p3 p4 p5 k1 k2 k3 k4 k5) 53]) ?_ ?_
 ·refine X1 2 2 h rfl (zcB h hF (qj0 (h.old ha1)) rfl fun r8 w16 h hF=>zp2 rfl (qk (t:=20) hF rfl ?_ ?_))<;>intro hF
  ·refine X0 5 rfl ?_
   obtain rfl:=qb hF
   exact rG ⟨_,hK2,rfl,h⟩ rfl
  refine X1 3 1 h rfl (zcB h hF (ql2 (h.old ha2)) rfl fun r9 w17 h hF=>X0 4 rfl ?_)
  obtain rfl:=qb hF
  exact rG ⟨_,hK2,rfl,h⟩ rfl
 rintro e2 w18 ⟨b1,hF,rfl,h⟩
 subst hKF1
 refine qh rfl hF ?_ ?_<;>intro hF
 ·refine zSR (r_v (qW qa [] [] rfl rfl rfl rfl rfl rfl rfl rfl) rfl (zs 0 h rfl fun w4 h=>X0 2 rfl ?_))
  obtain rfl:=qb hF
  exact qab qa (ρ:=(qn × Int)) [GoT.v qn [.slice none 0 0,.slice none 0 0,.slice none 0 0],GoT.v Int [.int .i64 1]] h ⟨⟨_,_,_,rfl,rfl,h.box 0 rfl,rfl⟩,rfl,trivial⟩ (PV.done h (qao h (qcD (⟨[],[],[]⟩:qn) h qb3 qb3 qb3 (by rfl) (by rfl)) (qaj (qz (S:=fun _=>False) rfl)) (by rfl)))
 refine X1 12 2 h rfl (qh rfl hF ?_ ?_)<;>intro hF
 ·refine zSR (r_v (qW qa [] [] rfl rfl rfl rfl rfl rfl rfl rfl) rfl (zs 0 h rfl fun w5 h=>X0 2 rfl ?_))
  obtain rfl:=qb hF
  exact qab qa (ρ:=(qn × Int)) [GoT.v qn [.slice none 0 0,.slice none 0 0,.slice none 0 0],GoT.v Int [.int .i64 2]] h ⟨⟨_,_,_,rfl,rfl,h.box 0 rfl,rfl⟩,rfl,trivial⟩ (PV.done h (qao h (qcD (⟨[],[],[]⟩:qn) h qb3 qb3 qb3 (by rfl) (by rfl)) (qaj (qz (S:=fun _=>False) rfl)) (by rfl)))
 refine X0 6 rfl ?_
 obtain ⟨o1,hF,hK1⟩:=qd hF
 refine qm (rL (fun m e w'=>∃ (i1:Int),qbc a_4 m i1=some o1∧e=[(2,.slice p6 a_2.length k6),(3,.slice p7 a_3.length k7),(4,.slice p8 a_4.length k8),(5,.pointer (some ⟨bb1,0,none⟩)),(6,.pointer (some ⟨bb2,0,none⟩)),(10,.pointer (some ⟨bb3,0,none⟩)),(12,.int .i64 i1)]∧SH w w' [Ch.box bb3 [.slice none 0 0,.slice none 0 0,.slice none 0 0] 57,Ch.box bb2 (qaq a_1) 77,Ch.box bb1 (qZ a_0 p1 p2 p3 p4 p5 k1 k2 k3 k4 k5) 53]) n ⟨_,hF,rfl,h⟩ rfl ?_)
 rintro m1 e1 w6 ⟨i1,hF,rfl,h⟩
 rcases m1 with _|m1
 ·cases hF
 refine X0 8 rfl (qh rfl hF ?_ ?_)<;>intro hF
 ·refine X0 7 rfl ?_
  obtain ⟨y1,hy1,hF,he1,b2,_,q1,cs6,hp1,hq1,rfl,hc4⟩:=s8.ix hF
  refine zxe hp1 hq1 he1 rfl (zc 0 (hc4.below h.below) rfl (zcB h hF qak rfl fun r1 w7 h hF=>X0 2 rfl (qh rfl hF ?_ ?_)))<;>intro hF
  ·refine zSR (r_v (qW qa [] [] rfl rfl rfl rfl rfl rfl rfl rfl) rfl (zs 0 h rfl fun w8 h=>X0 2 rfl ?_))
   obtain rfl:=qb hF;replace hF:=hK1
   obtain rfl:=qb hF
   exact qab qa (ρ:=(qn × Int)) [GoT.v qn [.slice none 0 0,.slice none 0 0,.slice none 0 0],GoT.v Int [.int .i64 2]] h ⟨⟨_,_,_,rfl,rfl,h.box 0 rfl,rfl⟩,rfl,trivial⟩ (PV.done h (qao h (qcD (⟨[],[],[]⟩:qn) h qb3 qb3 qb3 (by rfl) (by rfl)) (qaj (qz (S:=fun _=>False) rfl)) (by rfl)))
  exact X0 7 rfl (rK ⟨_,hF,rfl,h⟩ rfl)
 refine qq rfl ?_
 obtain rfl:=qb hF;replace hF:=hK1
 refine X2 6 2 1 h rfl ?_
 obtain ⟨r2,hr3,hF⟩:=qd hF
 obtain ⟨r3,r4⟩:=r2
 refine qaP (r3,r4) h (cB 72 rfl) (qp3 (h.old ha1) (h.old ha2) ⟨_,_,rfl,(h.oldS s6)⟩ ⟨_,_,rfl,(h.oldS s7)⟩ hr3) rfl rfl rfl rfl fun w9 S1 us1 hv1 hr4=>?_
 obtain ⟨S2,S3,p9,k9,us2,rfl,hv2,hr5⟩:=hv1.consL hr4
 obtain ⟨rfl,h⟩:=hv2.lastI hr5
 refine X0 12 rfl (qh rfl hF ?_ ?_)<;>intro hF
 ·refine zSR (r_v (qW qa [] [] rfl rfl rfl rfl rfl rfl rfl rfl) rfl (zp1 rfl (zs 1 h rfl fun w10 h=>X0 2 rfl ?_)))
  obtain rfl:=qb hF
  exact qab qa (ρ:=(qn × Int)) [GoT.v qn [.slice none 0 0,.slice none 0 0,.slice none 0 0],GoT.v Int [.int .i64 r4]] h ⟨⟨_,_,_,rfl,rfl,h.box 1 rfl,rfl⟩,rfl,trivial⟩ (PV.done h (qao h (qcD (⟨[],[],[]⟩:qn) h qb3 qb3 qb3 (by rfl) (by rfl)) (qaj (qz (S:=fun _=>False) rfl)) (by rfl)))
 refine X2 9 3 2 h rfl ?_
 obtain ⟨r5,hr7,hF⟩:=qd hF
 obtain ⟨r6,r7⟩:=r5
 refine qaP (r6,r7) h (cB 73 rfl) (qrd (h.old ha1) (h.old ha2) ⟨_,_,rfl,(h.oldS s6)⟩ ⟨_,_,rfl,(h.oldS s7)⟩ ⟨_,_,rfl,(h.oldS s8)⟩ (h.own 0 rfl) hr7) rfl rfl rfl rfl fun w11 S5 us3 hv4 hr8=>?_
 obtain ⟨S6,S7,cs7,us4,rfl,hv5,hr9⟩:=hv4.cons hr8
 obtain ⟨p10,k10,p11,k11,p12,k12,rfl,-,-,-⟩:=qad (hv5.sh.own 0 rfl)
 obtain ⟨rfl,h⟩:=hv5.lastB hr9
 refine zp3 rfl (qp qa h rfl rfl rfl fun w12 bb4 h=>zs 0 h rfl fun w13 h=>X0 8 rfl (qh rfl hF ?_ ?_))<;>intro hF
 ·refine zSR (r_v (qW qa [] [] rfl rfl rfl rfl rfl rfl rfl rfl) rfl (zs 3 h rfl fun w14 h=>X0 2 rfl ?_))
  obtain rfl:=qb hF
  exact qab qa (ρ:=(qn × Int)) [GoT.v qn [.slice none 0 0,.slice none 0 0,.slice none 0 0],GoT.v Int [.int .i64 3]] h ⟨⟨_,_,_,rfl,rfl,h.box 3 rfl,rfl⟩,rfl,trivial⟩ (PV.done h (qao h (qcD (⟨[],[],[]⟩:qn) h qb3 qb3 qb3 (by rfl) (by rfl)) (qaj (qz (S:=fun _=>False) rfl)) (by rfl)))
 refine X1 4 0 h rfl (zs 3 h rfl fun w15 h=>X0 2 rfl ?_)
 obtain rfl:=qb hF
 exact qab qa (ρ:=(qn × Int)) [GoT.v qn (qaa r6 p10 p11 p12 k10 k11 k12),GoT.v Int [.int .i64 0]] h ⟨⟨_,_,_,rfl,rfl,h.box 3 rfl,rfl⟩,rfl,trivial⟩ (PV.done h (qao h (qap 1 h rfl) (qaj (qz (S:=fun _=>False) rfl)) (by rfl)))
end Go.Fw


namespace Go.Fw
open Go
set_option maxRecDepth 100000
theorem qsq {b:qg} {k:Int} (h:blockB b=true) {j:Nat} (hj:j<(places b.Aa).length) (hk:(gt (places b.Aa) j).net=k) (hdr:(gt (places b.Aa) j).drives=true):Ev (fun n=>qiJ n b.Aa k) (j:Int):=by
 have hd:=qaD h
 have hs:=qaf hd
 have hl:=qbj hs
 have e:ixL (fun q:Tl05Place=>(q.net==k)&&q.drives) ((places b.Aa).map toSp)=(j:Int):=by
  refine qxt (by simpa using hj) ?_ (fun i hi hq=>?_)
  ·rw [qpu hj]
   show (((gt (places b.Aa) j).net==k)&&(gt (places b.Aa) j).drives)=true
   rw [hk,hdr];simp
  ·have hi':i<(places b.Aa).length:=by simpa using hi
   rw [qpu hi'] at hq
   have hq':(((gt (places b.Aa) i).net==k)&&(gt (places b.Aa) i).drives)=true:=hq
   simp only [jf,beq_iff_eq] at hq'
   exact qtR hd hi' hj (by rw [hq'.1,hk]) hq'.2 hdr
 unfold qiJ
 refine Ev.bind (qig hs) ?_
 rw [←e]
 exact qgx (fin:=(((places b.Aa).map toSp).length:Int)) (Lf:=qcF k ((places b.Aa).map toSp)) (xs:=(places b.Aa).map toSp) (pf:=fun _ (q:Tl05Place)=>some ((q.net==k)&&q.drives)) (fun _ _=>.done)
  (fun n=>by simp only [qcF,ql (je _),cond_false])
  (fun n j x hx=>by
   have hj:=(List.getElem?_eq_some_iff.1 hx).1
   have hj':j<(places b.Aa).length:=by simpa using hj
   simp only [qcF,qj hj,cond_true,qM hx,jd,wS j]
   cases (x.net==k)<;>cases x.drives<;>rfl)
  (fun n=>by congr 1;funext o;cases o<;>rfl)
theorem qre {b:qg} {i k:Nat} (h:blockB b=true) (hi:i<b.Aa.Ab.length) (hk:k<(gt b.Aa.Ab i).Ai.length):Ev (fun n=>qiu n b.Aa (i:Int) (k:Int)) ((off b.Aa i+k:Nat):Int):=by
 have hd:=qaD h
 have hs:=qaf hd
 have hl:=qbj hs
 obtain ⟨hj,ej⟩:=qkq hi hk
 have e:ixL (fun q:Tl05Place=>(q.instance_==(i:Int))&&(q.pin==(k:Int))) ((places b.Aa).map toSp)=((off b.Aa i+k:Nat):Int):=by
  refine qxt (by simpa using hj) ?_ (fun m hm hq=>?_)
  ·rw [qpu hj,ej]
   unfold place1 toSp
   simp
  ·have hm':m<(places b.Aa).length:=by simpa using hm
   rw [qpu hm'] at hq
   rcases qlv hm' with ⟨i',k',hi',hk',em,e'⟩|⟨i',hi',em,e'⟩
   ·rw [e'] at hq
    unfold place1 toSp at hq
    simp only [jf,beq_iff_eq] at hq
    obtain rfl:i'=i:=by omega
    obtain rfl:k'=k:=by omega
    exact em
   ·rw [e'] at hq
    unfold place2 toSp at hq
    simp only [jf,beq_iff_eq] at hq
    omega
 unfold qiu
 refine Ev.bind (qig hs) ?_
 rw [←e]
 exact qgx (fin:=(((places b.Aa).map toSp).length:Int)) (Lf:=qdZ (i:Int) (k:Int) ((places b.Aa).map toSp)) (xs:=(places b.Aa).map toSp) (pf:=fun _ (q:Tl05Place)=>some ((q.instance_==(i:Int))&&(q.pin==(k:Int)))) (fun _ _=>.done)
  (fun n=>by simp only [qdZ,ql (je _),cond_false])
  (fun n j x hx=>by
   have hj:=(List.getElem?_eq_some_iff.1 hx).1
   have hj':j<(places b.Aa).length:=by simpa using hj
   simp only [qdZ,qj hj,cond_true,qM hx,jd,wS j]
   cases (x.instance_==(i:Int))<;>cases (x.pin==(k:Int))<;>rfl)
  (fun n=>by congr 1;funext o;cases o<;>rfl)
theorem qta {n:Nat} {xs:List qu} {f t a c k i:Int} (hx:xs.length≤1000000) (f0:0≤f) (f1:f≤1000000) (t0:0≤t) (t1:t≤1000000) (ha:b01 a) (hc:b01 c):qfi n xs f t a c k i=some (xs++[⟨2*f+a,2*t+c,k,i⟩]):=by
 have ha':0≤a∧a≤1:=by rcases ha with e|e<;>omega
 have hc':0≤c∧c≤1:=by rcases hc with e|e<;>omega
 unfold qfi
 rw [wO (2*f),wO (2*t),wO (2*f+a),wO (2*t+c),qc5 (by rw [jt];omega)]
 rfl
def fitB (a:qG) (i j:Int):Bool:=bif a.Av==1 then (bif a.Bl==3 then true else (a.Bl==1)==(i==j)) else bif a.Av==2 then i==0 else bif a.Av==3 then i==1 else false
def pcL (a:qG) (f t k i j:Int):List qu:=bif fitB a i j then [⟨2*f+i,2*t+j,1,k⟩] else []
theorem arcStep {arc:qG} {xs:List qu} {f t k i j:Int} {X:List qu × Int} (hx:xs.length≤1000000) (f0:0≤f) (f1:f≤1000000) (t0:0≤t) (t1:t≤1000000) (hi:b01 i) (hj:b01 j)
  (h:Ev (fun n=>qa9 arc f t k i n (xs++pcL arc f t k i j) (j+1)) X):Ev (fun n=>qa9 arc f t k i n xs j) X:=by
 have hj':0≤j∧j≤1:=by rcases hj with e|e<;>omega
 have hp:=fun n=>qta (n:=n) (k:=1) (i:=k) hx f0 f1 t0 t1 hi hj
 refine Ev.succ ?_
 simp only [qa9,hp,jd,wO (j+1)]
 refine Ev.tt (decide_eq_true hj'.2) ?_
 unfold pcL fitB at h
 cases h1:arc.Av==1
 ·cases h2:arc.Av==2
  ·cases h3:arc.Av==3
   ·rw [h1,h2,h3] at h;simpa using h
   ·rw [h1,h2,h3] at h
    cases h4:i==1
    ·rw [h4] at h;simpa using h
    ·rw [h4] at h;simpa using h
  ·rw [h1,h2] at h
   cases h4:i==0
   ·rw [h4] at h;simpa using h
   ·rw [h4] at h;simpa using h
 ·rw [h1] at h
  cases h2:arc.Bl==3
  ·rw [h2] at h
   cases h4:(arc.Bl==1)==(i==j)
   ·rw [h4] at h;simpa [h4] using h
   ·rw [h4] at h;simpa [h4] using h
  ·rw [h2] at h;simpa using h
theorem qyM {arc:qG} {xs:List qu} {f t k:Int} (hx:xs.length≤900000) (f0:0≤f) (f1:f≤1000000) (t0:0≤t) (t1:t≤1000000) :
  Ev (fun n=>qll n xs arc f t k) (xs++pcL arc f t k 0 0++pcL arc f t k 0 1++pcL arc f t k 1 0++pcL arc f t k 1 1):=by
 have hl:∀ i j,(pcL arc f t k i j).length≤1:=fun i j=>by unfold pcL;cases fitB arc i j<;>simp
 have h00:=hl 0 0
 have h01:=hl 0 1
 have h10:=hl 1 0
 have h11:=hl 1 1
 have row:∀ (i:Int) (ys:List qu),b01 i→ys.length≤900010→Ev (fun n=>qa9 arc f t k i n ys 0) (ys++pcL arc f t k i 0++pcL arc f t k i 1,2):=by
  intro i ys hi hy
  have hli:=hl i 0
  refine arcStep (by omega) f0 f1 t0 t1 hi (.inl rfl) (arcStep (j:=0+1) (by rw [jh];omega) f0 f1 t0 t1 hi (.inr rfl) (Ev.succ ?_))
  simp only [qa9]
  exact Ev.ff rfl .done
 have hL:Ev (fun n=>qeG arc f t k n xs 0) (xs++pcL arc f t k 0 0++pcL arc f t k 0 1++pcL arc f t k 1 0++pcL arc f t k 1 1,2):=by
  refine Ev.succ ?_
  simp only [qeG]
  refine Ev.tt rfl (Ev.bind (row 0 xs (.inl rfl) (by omega)) ?_)
  refine Ev.succ ?_
  simp only [qeG]
  refine Ev.tt rfl (Ev.bind (row 1 _ (.inr rfl) (by simp only [jh];omega)) ?_)
  refine Ev.succ ?_
  simp only [qeG]
  exact Ev.ff rfl .done
 unfold qll
 exact Ev.bind hL .done
theorem qvl {ps:List qal} {a:qG} (h:arcS ps a=true) (h3:a.Av≤3) (h1:1≤a.Av):(a.Av=1∧(a.Bl=1∨a.Bl=2∨a.Bl=3))∨a.Av=2∨a.Av=3:=by
 rcases (by omega:a.Av=1∨a.Av=2∨a.Av=3) with e|e|e
 ·refine .inl ⟨e,?_⟩
  unfold arcS at h
  rw [e] at h
  simp only [beq_self_eq_true,cond_true,jf,qbt] at h
  have:=h.2.2.2.1
  omega
 ·exact .inr (.inl e)
 ·exact .inr (.inr e)
theorem qwR {ps:List qal} {a:qG} {first:Int} {k:Nat} (h:arcS ps a=true) (h3:a.Av≤3) (h1:1≤a.Av) :
  pcL a (first+a.Be) (first+a.To) (k:Int) 0 0++pcL a (first+a.Be) (first+a.To) (k:Int) 0 1++pcL a (first+a.Be) (first+a.To) (k:Int) 1 0++pcL a (first+a.Be) (first+a.To) (k:Int) 1 1=arcLs first k a:=by
 unfold arcLs transL pcL fitB
 rcases qvl h h3 h1 with ⟨e,e2|e2|e2⟩|e|e
 ·rw [e,e2];rfl
 ·rw [e,e2];rfl
 ·rw [e,e2];rfl
 ·rw [e];rfl
 ·rw [e];rfl
theorem qpO {a:qG} {first:Int} {k:Nat} (h:3<a.Av):arcLs first k a=[]:=by
 unfold arcLs transL
 rw [show (a.Av==2)=false from beq_eq_false_iff_ne.2 (by omega),show (a.Av==3)=false from beq_eq_false_iff_ne.2 (by omega),show (a.Av != 1)=true from bne_iff_ne.2 (by omega)]
 rfl
theorem qmY {b:qg} (h:blockB b=true):Ev (fun n=>qgH n b) (linksL b):=by
 have hd:=qaD h
 have hs:=qaf hd
 have hl:=qbj hs
 have hni:=hs.ni
 have hnn:=hs.nn
 have hwl:=qk2 h
 have hd0:(⟨b.Aa.Ab,b.Aa.Ai,b.Aa.Ah⟩:qf)=b.Aa:=rfl
 have e1:Ev (fun n=>qdn b n ([]:List qu) 0) (instLs b b.Aa.Ab.length,(b.Aa.Ab.length:Int)):=by
  refine loopF (Lf:=qdn b) (S:=instLs b) (len:=b.Aa.Ab.length) (fun n=>?_) (fun j hj X hX=>?_)
  ·simp only [qdn,ql (je _),cond_false]
  ·obtain ⟨⟨c0,c1⟩,hnl,hcb⟩:=qhy hd hj
   have ha:=qn9 hcb
   have hpb:=(qg2 (qi6 hcb)).1
   have hil:=qjj h (show j≤b.Aa.Ab.length by omega)
   have hoff:=qkB (d:=b.Aa) (i:=j)
   have hof:off b.Aa (j+1)≤78:=by
    rw [qhf] at hl
    have:=qut (d:=b.Aa) (show j+1≤b.Aa.Ab.length by omega)
    omega
   have hcA:cellAt b (j:Int)=gt b.Ar.Ap (gt b.Aa.Ab j).Bp.toNat:=rfl
   simp only [qdn,qj hj,cond_true,qC hj,qfI c0 c1,jd,wS j]
   have hL2:Ev (fun n=>qct b (j:Int) (cellAt b (j:Int)) n (instLs b j) 0) (instLs b (j+1),((cellAt b (j:Int)).As.length:Int)):=by
    rw [show instLs b (j+1)=instLs b j++cellLs (cellAt b (j:Int)) (off b.Aa j:Int) (cellAt b (j:Int)).As.length from qj5]
    rw [←hcA] at hcb hnl ha hpb
    generalize cellAt b (j:Int)=c at hcb hnl ha hpb ⊢
    have:=loopF (Lf:=qct b (j:Int) c) (S:=fun k=>instLs b j++cellLs c (off b.Aa j:Int) k) (len:=c.As.length) (fin:=(instLs b j++cellLs c (off b.Aa j:Int) c.As.length,(c.As.length:Int))) (fun n=>by simp only [qct,ql (je _),cond_false])
     (fun k hk X hX=>by
      obtain ⟨⟨k1,k5⟩,hf,ht,hA⟩:=qm4 hcb hk
      have hcl:(cellLs c (off b.Aa j:Int) k).length≤4*k:=qo8 fun _ _=>qpy
      have es:cellLs c (off b.Aa j:Int) (k+1)=cellLs c (off b.Aa j:Int) k++arcLs (off b.Aa j:Int) k (gt c.As k):=qj5
      rw [es] at hX
      simp only [qct,qj hk,cond_true,qC hk,jd,wS k,hd0]
      by_cases h3:(gt c.As k).Av≤3
      ·refine Ev.tt (decide_eq_true h3) ?_
       have f1:=qre h hj (k:=(gt c.As k).Be.toNat) (by omega)
       have f2:=qre h hj (k:=(gt c.As k).To.toNat) (by omega)
       rw [←qhd hf.1] at f1
       rw [←qhd ht.1] at f2
       refine Ev.bind f1 (Ev.bind f2 (Ev.bind (qyM (by rw [jh];omega) (by omega) (by omega) (by omega) (by omega)) ?_))
       have e3:∀ x:Int,0≤x→((off b.Aa j+x.toNat:Nat):Int)=(off b.Aa j:Int)+x:=fun x hx=>by omega
       rw [e3 _ hf.1,e3 _ ht.1,jq,jq,jq,←jq (pcL _ _ _ _ _ _),←jq (pcL _ _ _ _ _ _++_),qwR hA h3 k1,jq]
       exact hX
      ·refine Ev.ff (decide_eq_false h3) ?_
       rw [qpO (by omega),jT] at hX
       exact hX)
    simpa [cellLs,fm] using this
   exact Ev.bind hL2 hX
 have hL4:∀ (i:Nat) (t:List qu),i<b.Ac.length→t.length≤900000→Ev (fun n=>qdl (dvN b.Aa i:Int) (skL b i) n t 0) (t++wlN b i (skL b i).length,((skL b i).length:Int)):=by
  intro i t hi ht
  have hsm:=qhr h (i:=i)
  have hdv:=(qjT hd (k:=i) (by omega)).1
  have:=loopF (Lf:=qdl (dvN b.Aa i:Int) (skL b i)) (S:=fun k=>t++wlN b i k) (len:=(skL b i).length) (fin:=(t++wlN b i (skL b i).length,((skL b i).length:Int))) (fun n=>by simp only [qdl,ql (je _),cond_false])
   (fun k hk X hX=>by
    obtain ⟨y,hy,ey,_⟩:=qpf hk
    have hwn:=qsy (b:=b) (i:=i) (j:=k)
    have p1:=fun n=>qta (n:=n) (xs:=t++wlN b i k) (f:=(dvN b.Aa i:Int)) (t:=at0 (skL b i) k) (a:=0) (c:=0) (k:=2) (i:=(k:Int)) (by rw [jh];omega) (by omega) (by omega) (by omega) (by omega) (.inl rfl) (.inl rfl)
    have p2:=fun n=>qta (n:=n) (xs:=t++wlN b i k++[⟨2*(dvN b.Aa i:Int)+0,2*at0 (skL b i) k+0,2,(k:Int)⟩]) (f:=(dvN b.Aa i:Int)) (t:=at0 (skL b i) k) (a:=1) (c:=1) (k:=2) (i:=(k:Int)) (by rw [jh,jh,jt];omega) (by omega) (by omega) (by omega) (by omega) (.inr rfl) (.inr rfl)
    simp only [qdl,qj hk,cond_true,qar hk,jd,p1,p2,wS k]
    have es:wlN b i (k+1)=wlN b i k++wl1 (dvN b.Aa i) (at0 (skL b i) k) k:=qj5
    rw [es] at hX
    rw [Jf,Jf,jq,jq]
    exact hX)
  simpa [wlN,fm] using this
 have e3:Ev (fun n=>qde b n (instLs b b.Aa.Ab.length) 0) (linksL b,(b.Aa.Ai.length:Int)):=by
  have hil:=qjj h (je _)
  have:=loopF (Lf:=qde b) (S:=fun j=>instLs b b.Aa.Ab.length++wireLs b j) (len:=b.Aa.Ai.length) (fin:=(linksL b,(b.Aa.Ai.length:Int))) (fun n=>by
    simp only [qde,ql (je _),cond_false]
    rw [←hwl];rfl)
   (fun j hj X hX=>by
    have hwl2:=qn3 h (j:=j)
    obtain ⟨d1,d2⟩:=qjT hd hj
    obtain ⟨d3,d4⟩:=qoE.1 d2
    simp only [qde,qj hj,cond_true,wS j,hd0]
    refine Ev.bind (qsq h d1 d3 d4) (Ev.bind (qnf hs) (Ev.bind (hL4 j _ (by omega) (by rw [jh];omega)) ?_))
    rw [jq,show wireLs b j++wlN b j (skL b j).length=wireLs b (j+1) from qj5.symm]
    exact hX)
  simpa [wireLs,fm] using this
 unfold qgH
 exact Ev.bind e1 (Ev.bind e3 .done)
def lvB (br:List Int) (m:Nat):List Bool:=pre (fun k=>!br.any fun y=>y==(k:Int)) m
theorem qs5 {br:List Int} {m:Nat}:(lvB br m).length=m:=qoM
theorem qv1 {br:List Int} {x:Int} (hl:br.length≤1048576):Ev (fun n=>qlh n br x) (br.any fun y=>y==x):=by
 have hL:Ev (fun n=>qeL br x n 0) (bif br.any (fun y=>y==x) then .ret true else .nxt (br.length:Int)):=by
  have:=qd8 (Lf:=qeL br x) (len:=br.length) (f:=fun j=>!(gt br j==x)) (bad:=true) (fin:=.nxt (br.length:Int)) (Ev.succ (by simp only [qeL,ql (je _),cond_false];exact .done))
   (fun j hj X hX=>Ev.succ (by
    simp only [qeL,qj hj,cond_true,qC hj,jd,wS j]
    cases gt br j==x
    ·exact hX
    ·exact .done))
  rw [qul]
  refine this.cast ?_
  cases allN (fun j=>!(gt br j==x)) br.length<;>rfl
 unfold qlh
 refine Ev.bind hL ?_
 cases br.any (fun y=>y==x)<;>exact .done
theorem qrb {ls:List qu} {br:List Int} (h1:ls.length≤10000) (h2:br.length≤1048576):Ev (fun n=>qiv n ls br) (lvB br ls.length):=by
 have hL:Ev (fun n=>qdT ls br n ([]:List Bool) 0) (lvB br ls.length,(ls.length:Int)):=by
  refine loopF (Lf:=qdT ls br) (S:=fun j=>lvB br j) (len:=ls.length) (fun n=>?_) (fun j hj X hX=>?_)
  ·simp only [qdT,ql (je _),cond_false]
  ·simp only [qdT,qj hj,cond_true,wS j]
   refine Ev.bind (qv1 h2) ?_
   have e:appS (lvB br j) [!br.any fun y=>y==(j:Int)]=some (lvB br (j+1)):=qsv (f:=fun k:Nat=>!br.any fun y=>y==(k:Int)) (by omega)
   rw [e]
   exact hX
 unfold qiv
 exact Ev.bind hL .done
def brB (br:List Int) (m:Nat):Bool:=(br.all fun x=>inI x 0 ((m:Int)-1))&&incB br
theorem quO {v:Tview} {br:List Int} (h1:v.links.length≤10000) (hb:brB br v.links.length=true):Ev (fun n=>qgR n (some v) br) (some ⟨some v,lvB br v.links.length⟩):=by
 unfold brB at hb
 rw [jf,qiV,qav] at hb
 have hm:mkS (v.links.length:Int) false=some (pre (fun _=>false) v.links.length):=qpk (by omega)
 generalize hM:v.links.length=M at h1 hb hm ⊢
 have hinc:∀ j i,i<j→j<br.length→gt br i<gt br j:=by
  intro j
  induction j with
  | zero=>intro i hi _;omega
  | succ j ih =>
   intro i hi hj
   have hs:=hb.2
   unfold incB at hs
   rw [qav] at hs
   have hs:=hs (j+1) hj
   unfold stepB at hs
   simp only [Bool.or_eq_true,decide_eq_true_eq,Nat.add_sub_cancel] at hs
   have hs':gt br j<gt br (j+1):=by
    rcases hs with hs|hs
    ·omega
    ·exact hs
   by_cases hij:i=j
   ·rw [hij];exact hs'
   ·have:=ih i (by omega) (by omega);omega
 have hlen:∀ j,j<br.length→(j:Int)≤gt br j:=by
  intro j
  induction j with
  | zero =>
   intro hj
   have:=hb.1 0 hj
   rw [qbt] at this
   omega
  | succ j ih =>
   intro hj
   have:=ih (by omega)
   have:=hinc (j+1) j (by omega) hj
   omega
 have hbl:br.length≤M:=by
  by_cases h0:br.length=0
  ·omega
  ·have h2:=hlen (br.length-1) (by omega)
   have h3:=hb.1 (br.length-1) (by omega)
   rw [qbt] at h3
   omega
 have e1:Ev (fun n=>qbR (pre (fun _=>false) M) n (pre (fun _=>false) M) 0) (pre (fun _=>true) M,(M:Int)):=by
  have:=loopF (Lf:=qbR (pre (fun _=>false) M)) (S:=fun j=>pre (fun k=>decide (k<j)) M) (len:=M) (fin:=(pre (fun _=>true) M,(M:Int))) (fun n=>by
    simp only [qbR,qoM,ql (je _),cond_false]
    rw [qhD (g:=fun _=>true) fun k hk=>decide_eq_true hk])
   (fun j hj X hX=>by
    simp only [qbR,qoM,qj hj,cond_true,qiU (f:=fun k=>decide (k<j)) hj,jd,qoP,wS j]
    have:pre (fun k=>decide (k<j+1)) M=pre (fun k=>if k=j then true else decide (k<j)) M:=qhD fun k _=>by
     by_cases hk:k=j
     ·rw [if_pos hk,hk];simp
     ·rw [if_neg hk,decide_eq_decide];omega
    rw [this] at hX
    exact hX)
  simpa using this
 have e2:Ev (fun n=>qbT br n (pre (fun _=>true) M) 0) (lvB br M,(br.length:Int)):=by
  have:=loopF (Lf:=qbT br) (S:=fun j=>pre (fun k=>!(br.take j).any fun y=>y==(k:Int)) M) (len:=br.length) (fin:=(lvB br M,(br.length:Int))) (fun n=>by
    simp only [qbT,ql (je _),cond_false,jF];rfl)
   (fun j hj X hX=>by
    have hr:=hb.1 j hj
    rw [qbt] at hr
    obtain ⟨a,ha⟩:∃ a:Nat,gt br j=(a:Int):=⟨_,qhd hr.1⟩
    have haM:a<M:=by omega
    simp only [qbT,qj hj,cond_true,qC hj,ha,qiU (f:=fun k=>!(br.take j).any fun y=>y==(k:Int)) haM,jd,qoP,wS j]
    have:pre (fun k=>!(br.take (j+1)).any fun y=>y==(k:Int)) M=pre (fun k=>if k=a then false else !(br.take j).any fun y=>y==(k:Int)) M:=qhD fun k _=>by
     rw [jy hj,List.any_append,←qfu hj,ha]
     by_cases hk:k=a
     ·rw [if_pos hk,hk];simp
     ·rw [if_neg hk]
      have:((a:Int)==(k:Int))=false:=by simp;omega
      simp [this]
    rw [this] at hX
    exact hX)
  simpa using this
 unfold qgR
 simp only [jd,hM,hm]
 exact Ev.bind e1 (Ev.bind e2 .done)
theorem qwb {br:List Int} {m:Nat} (hl:br.length≤1048576) (hm:m≤10000):Ev (fun n=>qiL n br (m:Int)) (brB br m):=by
 have hL:Ev (fun n=>qb9 br (m:Int) n 0) (bif allN (fun j=>inI (gt br j) 0 ((m:Int)-1)&&stepB br j) br.length then .nxt (br.length:Int) else .ret false):=by
  refine qd8 (Lf:=qb9 br (m:Int)) (len:=br.length) (Ev.succ (by simp only [qb9,ql (je _),cond_false];exact .done)) (fun j hj X hX=>Ev.succ ?_)
  simp only [qb9,qj hj,cond_true,qC hj,jd,qcK,wS j,wO ((m:Int)-1)]
  cases h1:inI (gt br j) 0 ((m:Int)-1)
  ·exact .done
  ·refine Ev.ff rfl ?_
   by_cases h0:j=0
   ·subst h0
    exact Ev.ff rfl hX
   ·refine Ev.tt (decide_eq_true (by omega)) ?_
    rw [show (j:Int)-1=((j-1:Nat):Int) by omega,qJ (by omega) (by omega),qC (show j-1<br.length by omega)]
    simp only [jd]
    have es:stepB br j=decide (gt br (j-1)<gt br j):=by
     unfold stepB
     rw [decide_eq_false h0,Bool.false_or]
     rfl
    rw [es]
    by_cases hlt:gt br (j-1)<gt br j
    ·rw [decide_eq_true hlt]
     exact Ev.ff (decide_eq_false (by omega)) hX
    ·rw [decide_eq_false hlt]
     exact Ev.tt (decide_eq_true (by omega)) .done
 unfold qiL
 refine Ev.bind hL ?_
 unfold brB incB
 rw [qiV,←qlI]
 cases allN (fun j=>inI (gt br j) 0 ((m:Int)-1)&&stepB br j) br.length<;>exact .done
theorem qtM {v:Tview} {br:List Int} (hl:br.length≤1048576) (hm:v.links.length≤10000):Ev (fun n=>qeF n (some v) br) (brB br v.links.length):=by
 unfold qeF qgK brB
 simp only [jd,wO ((v.links.length:Int)-1)]
 exact Ev.and (qfc hl) fun _=>Ev.last (qmy hl)
theorem quu {b:qg} {br:List Int} (hok:qjF b) (h:blockB b=true) (hl:br.length≤1048576):Ev (fun n=>qhv n b br) (bif brB br (linksL b).length then 0 else 2):=by
 unfold qhv
 refine Ev.bind (qlb hok) (Ev.ff (by rw [h];rfl) (Ev.bind (qmY h) (Ev.bind (qwb hl (qmu h)) ?_)))
 cases brB br (linksL b).length<;>exact .done
end Go.Fw


namespace Go.Fw
open Go
set_option maxRecDepth 100000
theorem qs4 {α:Type} {f:Nat→List α} {n:Nat} {x:α} (h:x ∈ fm f n):∃ j,j<n∧x ∈ f j:=by
 unfold fm at h
 obtain ⟨j,h1,h2⟩:=List.mem_flatMap.1 h
 exact ⟨j,List.mem_range.1 h1,h2⟩
theorem qva {x:Int} {j:Nat} {t:Int} (ht:b01 t) (hj:j≤100000) (e:x=2*(j:Int)+t):W64 (x.tdiv 2)=(j:Int)∧x.tmod 2=t:=by
 have ht':0≤t∧t≤1:=by rcases ht with e|e<;>omega
 have hx:0≤x:=by omega
 rw [jD hx,Int.tmod_eq_emod_of_nonneg hx,qJ (by omega) (by omega)]
 omega
structure CLk (b:qg) (x:qu) (i j m net a:Nat):Prop where
 kind:x.Av=1
 il:i<b.Aa.Ab.length
 jl:j<(places b.Aa).length
 inst:(gt (places b.Aa) j).instance_=(i:Int)
 net_:(gt (places b.Aa) j).net=(net:Int)
 nl:net<b.Ac.length
 half:W64 (x.To.tdiv 2)=(j:Int)
 mod:x.To.tmod 2=(m:Int)
 ml:m<2
 ix:x.Bu=(a:Int)
 al:a<(cellAt b (i:Int)).As.length
 d2:(gt (cellAt b (i:Int)).As a).Bj.length=2
 s2:(gt (cellAt b (i:Int)).As a).Aq.length=2
 dt:∀ t,t ∈ (gt (cellAt b (i:Int)).As a).Bj→TbOk t∧∀ k,0≤at0 t.Ba k
 st:∀ t,t ∈ (gt (cellAt b (i:Int)).As a).Aq→TbOk t∧∀ k,0≤at0 t.Ba k
structure WLk (b:qg) (x:qu) (j net k:Nat):Prop where
 kind:x.Av=2
 jl:j<(places b.Aa).length
 net_:(gt (places b.Aa) j).net=(net:Int)
 nl:net<b.Ac.length
 half:W64 (x.To.tdiv 2)=(j:Int)
 ix:x.Bu=(k:Int)
 kl:k<(gt b.Ac net).Bh.length
theorem qyN {xs:List Int} (h:0≤mnL xs) (k:Nat):0≤at0 xs k:=by
 have fold:∀ (ys:List Int) (a:Int),(ys.foldl (fun (m y:Int)=>if y<m then y else m) a≤a)∧∀ y,y ∈ ys→ys.foldl (fun (m y:Int)=>if y<m then y else m) a≤y:=by
  intro ys
  induction ys with
  | nil=>intro a;exact ⟨jZ _,fun y hy=>by cases hy⟩
  | cons z ys ih =>
   intro a
   rw [List.foldl_cons]
   obtain ⟨h1,h2⟩:=ih (if z<a then z else a)
   refine ⟨?_,fun y hy=>?_⟩
   ·split at h1<;>split<;>omega
   ·rcases List.mem_cons.1 hy with e|e
    ·subst e;split at h1<;>split<;>omega
    ·exact h2 y e
 by_cases hk:k<xs.length
 ·have hm:xs[k] ∈ xs.drop 1∨k=0:=by
   by_cases h0:k=0
   ·exact .inr h0
   ·refine .inl ?_
    have:xs[k]=(xs.drop 1)[k-1]'(by rw [List.length_drop];omega):=by
     rw [List.getElem_drop]
     congr 1;omega
    rw [this]
    exact jp _
  rw [qnb hk]
  unfold mnL at h
  rcases hm with hm|h0
  ·exact Int.le_trans h ((fold _ _).2 _ hm)
  ·subst h0
   have:=(fold (xs.drop 1) (at0 xs 0)).1
   rw [←qnb hk]
   exact Int.le_trans h this
 ·rw [qu5 hk];exact jZ _
theorem qq1 {ts:List qt} (h:tablesB ts true=true):ts.length=2∧∀ t,t ∈ ts→TbOk t∧∀ k,0≤at0 t.Ba k:=by
 unfold tablesB at h
 rw [jf,decide_eq_true_eq,jM] at h
 refine ⟨h.1,fun t ht=>?_⟩
 have:=h.2 t ht
 unfold tabB at this
 simp only [jX,Bool.false_or,jf,decide_eq_true_eq] at this
 exact ⟨qvZ this.1,qyN this.2⟩
theorem que {ps:List qal} {a:qG} (h:arcS ps a=true) (h3:a.Av≤3) (h1:1≤a.Av):a.To=(ps.length:Int)-1∧tablesB a.Bj true=true∧tablesB a.Aq true=true:=by
 unfold arcS at h
 rcases (by omega:a.Av=1∨a.Av=2∨a.Av=3) with e|e|e
 ·rw [e] at h
  simp only [beq_self_eq_true,cond_true,jf,beq_iff_eq] at h
  exact ⟨h.2.2.1,h.2.2.2.2⟩
 ·rw [e] at h
  simp only [show ((2:Int)==1)=false from rfl,cond_false,beq_self_eq_true,Bool.true_or,cond_true,jf,beq_iff_eq] at h
  exact ⟨h.2.2.1,h.2.2.2.2⟩
 ·rw [e] at h
  simp only [show ((3:Int)==1)=false from rfl,cond_false,beq_self_eq_true,Bool.or_true,cond_true,jf,beq_iff_eq] at h
  exact ⟨h.2.2.1,h.2.2.2.2⟩
theorem qt9 {a:qG} {t:qN} (h:t ∈ transL a):1≤a.Av∧a.Av≤3:=by
 refine ⟨?_,?_⟩<;>refine Int.le_of_not_gt fun hg=>?_
 ·have:arcLs 0 0 a=[]:=by
   unfold arcLs transL
   rw [show (a.Av==2)=false from beq_eq_false_iff_ne.2 (by omega),show (a.Av==3)=false from beq_eq_false_iff_ne.2 (by omega),show (a.Av != 1)=true from bne_iff_ne.2 (by omega)]
   rfl
  unfold arcLs at this
  rw [List.map_eq_nil_iff] at this
  rw [this] at h;cases h
 ·have:arcLs 0 0 a=[]:=qpO hg
  unfold arcLs at this
  rw [List.map_eq_nil_iff] at this
  rw [this] at h;cases h
theorem qg5 {b:qg} (h:blockB b=true) {x:qu} (hx:x ∈ linksL b):((∃ i j m net a,CLk b x i j m net a)∨∃ j net k,WLk b x j net k)∧(0≤x.Be∧x.Be<2*((places b.Aa).length:Int))∧(0≤x.To∧x.To<2*((places b.Aa).length:Int)):=by
 have hd:=qaD h
 have hs:=qaf hd
 have hl:=qbj hs
 have hwl:=qk2 h
 unfold linksL at hx
 rcases List.mem_append.1 hx with hx|hx
 ·obtain ⟨i,hi,hx⟩:=qs4 hx
  obtain ⟨a,ha,hx⟩:=qs4 hx
  unfold arcLs at hx
  obtain ⟨t,ht,rfl⟩:=List.mem_map.1 hx
  obtain ⟨⟨c0,c1⟩,hnl,hcb⟩:=qhy hd hi
  have hcA:cellAt b (i:Int)=gt b.Ar.Ap (gt b.Aa.Ab i).Bp.toNat:=rfl
  rw [←hcA] at hnl hcb
  obtain ⟨⟨k1,k5⟩,hf,hto,hA⟩:=qm4 hcb ha
  obtain ⟨g1,g3⟩:=qt9 ht
  obtain ⟨t0,t1⟩:=qrS ht
  obtain ⟨eT,tD,tS⟩:=que hA g3 g1
  obtain ⟨d2,dt⟩:=qq1 tD
  obtain ⟨s2,st⟩:=qq1 tS
  have hpb:=(qg2 (qi6 hcb)).1
  have hk:(cellAt b (i:Int)).Au.length-1<(gt b.Aa.Ab i).Ai.length:=by omega
  obtain ⟨hj,ej⟩:=qkq hi hk
  obtain ⟨n0,n1⟩:=ql7 hd hj
  have e1:(al1 (off b.Aa i:Int) a (gt (cellAt b (i:Int)).As a) t).To=2*((off b.Aa i+((cellAt b (i:Int)).Au.length-1):Nat):Int)+t.e1:=by
   show 2*((off b.Aa i:Int)+(gt (cellAt b (i:Int)).As a).To)+t.e1=_
   rw [eT];omega
  obtain ⟨hh,hm⟩:=qva t1 (by omega) e1
  obtain ⟨m,em⟩:∃ m:Nat,t.e1=(m:Int):=⟨t.e1.toNat,by rcases t1 with e|e<;>omega⟩
  have hfr:off b.Aa i+(gt (cellAt b (i:Int)).As a).Be.toNat<(places b.Aa).length:=(qkq hi (k:=(gt (cellAt b (i:Int)).As a).Be.toNat) (by omega)).1
  have e2:(al1 (off b.Aa i:Int) a (gt (cellAt b (i:Int)).As a) t).Be=2*((off b.Aa i:Int)+(gt (cellAt b (i:Int)).As a).Be)+t.e0:=rfl
  refine ⟨.inl ⟨i,_,m,(gt (places b.Aa) (off b.Aa i+((cellAt b (i:Int)).Au.length-1))).net.toNat,a,⟨rfl,hi,hj,by rw [ej];rfl,qhd n0,by omega,hh,by rw [hm,em],by rcases t1 with e|e<;>omega,rfl,ha,d2,s2,dt,st⟩⟩,?_,?_⟩
  ·rw [e2]
   rcases t0 with e|e<;>rw [e]<;>omega
  ·rw [e1]
   rcases t1 with e|e<;>rw [e]<;>omega
 ·obtain ⟨i,hi,hx⟩:=qs4 hx
  obtain ⟨k,hk,hx⟩:=qs4 hx
  obtain ⟨y,hy,ey,hq⟩:=qpf hk
  have hdv:=(qjT hd (k:=i) (by omega)).1
  have hw:=qbx h hi
  have hq':(gt (places b.Aa) y).net=(i:Int):=by
   unfold snkQ at hq
   simp only [jf,beq_iff_eq] at hq
   exact hq.1
  have main:∀ t:Int,b01 t→x=⟨2*(dvN b.Aa i:Int)+t,2*at0 (skL b i) k+t,2,(k:Int)⟩→((∃ i j m net a,CLk b x i j m net a)∨∃ j net k,WLk b x j net k)∧(0≤x.Be∧x.Be<2*((places b.Aa).length:Int))∧(0≤x.To∧x.To<2*((places b.Aa).length:Int)):=by
   intro t ht e
   have e1:x.To=2*(y:Int)+t:=by rw [e,ey]
   have e2:x.Be=2*(dvN b.Aa i:Int)+t:=by rw [e]
   obtain ⟨hh,hm⟩:=qva ht (by omega) e1
   refine ⟨.inr ⟨y,i,k,⟨by rw [e],hy,hq',hi,hh,by rw [e],by rw [hw.snk];exact hk⟩⟩,?_,?_⟩
   ·rw [e2]
    rcases ht with e|e<;>rw [e]<;>omega
   ·rw [e1]
    rcases ht with e|e<;>rw [e]<;>omega
  unfold wl1 at hx
  simp only [jW,jN,or_false] at hx
  rcases hx with hx|hx
  ·exact main 0 (.inl rfl) (by rw [hx,Jf,Jf])
  ·exact main 1 (.inr rfl) hx
theorem qlA {α:Type} [Inhabited α] {xs:List α} {k:Nat} (h:k<xs.length):gt xs k ∈ xs:=by rw [qfu h];exact jp h
theorem qnv {b:qg} (h:blockB b=true):LkOk (linksL b) (2*(places b.Aa).length) where
 len:=qmu h
 nodes:=by have:=qbj (qaf (qaD h));omega
 fr0:=fun x hx=>(qg5 h (qlA hx)).2.1.1
 fr1:=fun x hx=>by have:=(qg5 h (qlA hx)).2.1.2;omega
 to0:=fun x hx=>(qg5 h (qlA hx)).2.2.1
 to1:=fun x hx=>by have:=(qg5 h (qlA hx)).2.2.2;omega
theorem qsn {c:qy} (h:cornerB c=true) {kind mode:Int}:∃ f:Int,100≤f∧f≤5000∧(∀ n,qg8 n c kind mode=some f)∧∀ n,qeI n c kind mode=some f:=by
 unfold cornerB at h
 simp only [jf,qbt,decide_eq_true_eq] at h
 obtain ⟨⟨h1,h2,h3,h4⟩,_⟩:=h
 unfold qg8 qeI
 cases kind==1
 ·cases mode==0
  ·exact ⟨_,h4.1,h4.2,fun _=>rfl,fun _=>rfl⟩
  ·exact ⟨_,h3.1,h3.2,fun _=>rfl,fun _=>rfl⟩
 ·cases mode==0
  ·exact ⟨_,h2.1,h2.2,fun _=>rfl,fun _=>rfl⟩
  ·exact ⟨_,h1.1,h1.2,fun _=>rfl,fun _=>rfl⟩
theorem qtQ {p f mode:Int} (p0:0≤p) (p1:p≤400000000000) (f0:0≤f) (f1:f≤5000):(∀ n,qcp n (W64 (p*f)) 1000 mode=some (divI (p*f) 1000 mode))∧∀ n,qk1 n p f mode=some (divI (p*f) 1000 mode):=by
 have h0:=jS p0 f0
 have h1:p*f≤400000000000*5000:=jY p1 f1 f0 (by omega)
 have e:W64 (p*f)=p*f:=qJ (by omega) (by omega)
 have hd:=fun n=>qk4 (n:=n) (a:=p*f) (b:=1000) (mode:=mode) (by omega) (by omega) (by omega)
 refine ⟨fun n=>by rw [e];exact hd n,fun n=>?_⟩
 unfold qk1
 rw [e,qsL (m:=0),hd 0]
 rfl
theorem qwE {l h H:Int} (h0:0≤l) (h1:l<h) (h2:h≤H) (hH:H≤3000000000):W64 (W64 (W64 (l+h)+1) |>.tdiv 2)=(l+h+1) / 2∧W64 ((l+h+1) / 2*((l+h+1) / 2))=(l+h+1) / 2*((l+h+1) / 2)∧W64 ((l+h+1) / 2-1)=(l+h+1) / 2-1:=by
 have hm:0≤(l+h+1) / 2∧(l+h+1) / 2≤3000000000:=by omega
 have hq:(l+h+1) / 2*((l+h+1) / 2)≤3000000000*3000000000:=jY hm.2 hm.2 hm.1 (by omega)
 have hq0:=jS hm.1 hm.1
 rw [wO (l+h),wO (l+h+1),jD (by omega),wO ((l+h+1) / 2),wO ((l+h+1) / 2-1)]
 exact ⟨rfl,qJ (by omega) (by omega),rfl⟩
theorem qxb {y mode:Int} (h0:0≤y) (h1:y≤4000000000000000000):∃ v,IsRoot y v∧v≤2000000000∧Ev (fun n=>qiG n y mode) (if mode=1∧v*v<y then v+1 else v):=by
 obtain ⟨v,r1,r2,r3⟩:=qr2 (Lf:=fun n l h=>qd0 y n l h) (fin:=fun l=>(l,l)) (x:=y) (H:=2000000000) h0 (by omega) (by omega)
  (fun n l _ _=>by simp only [qd0,show decide (l<l)=false from decide_eq_false (Int.lt_irrefl l),cond_false])
  (fun n l h hl hlt hh=>by
   obtain ⟨e1,e2,e3⟩:=qwE hl hlt hh (by omega)
   simp only [qd0,decide_eq_true hlt,cond_true,e1,e2,e3])
 refine ⟨v,r1,r2,?_⟩
 unfold qiG
 refine Ev.bind r3 ?_
 have hv:=r1.pos
 have hq:v*v≤2000000000*2000000000:=jY r2 r2 hv (by omega)
 have hq0:=jS hv hv
 simp only [wO (v*v),wO (v+1)]
 by_cases hm:mode=1
 ·refine Ev.tt (by simpa using hm) ?_
  by_cases hl:v*v<y
  ·rw [if_pos ⟨hm,hl⟩];exact Ev.tt (decide_eq_true hl) .done
  ·rw [if_neg fun h=>hl h.2];exact Ev.ff (decide_eq_false hl) .done
 ·rw [if_neg fun h=>hm h.1]
  exact Ev.ff (by simpa using hm) .done
theorem qxa {y:Int} (h0:0≤y) (h1:y≤4000000000000000000):∃ v,IsRoot y v∧v≤3000000000∧Ev (fun n=>qnE n y) v:=by
 obtain ⟨v,r1,r2,r3⟩:=qr2 (Lf:=fun n l h=>qfX y n l h) (fin:=fun l=>(l,l)) (x:=y) (H:=3000000000) h0 (by omega) (by omega)
  (fun n l _ _=>by simp only [qfX,show decide (l<l)=false from decide_eq_false (Int.lt_irrefl l),cond_false])
  (fun n l h hl hlt hh=>by
   obtain ⟨e1,e2,e3⟩:=qwE hl hlt hh (by omega)
   simp only [qfX,decide_eq_true hlt,cond_true,e1,e2,e3])
 refine ⟨v,r1,r2,?_⟩
 unfold qnE
 exact Ev.bind r3 .done
theorem qvV {sl d mode:Int} (s0:0≤sl) (s1:sl≤1000000) (d0:0≤d) (d1:d≤344000000) (hm:mode=0∨mode=1):∃ r:Int,0≤r ∧
  Ev (fun n=>(qiG n (W64 (W64 (W64 (1000000*sl)*sl)+W64 (W64 (4*d)*d))) mode).bind fun r2=>(qcp n r2 1000 mode).bind fun r3=>some r3) r∧Ev (fun n=>qjt n sl d mode) r:=by
 have q1:=jS s0 s0
 have q2:sl*sl≤1000000*1000000:=jY s1 s1 s0 (by omega)
 have q3:=jS d0 d0
 have q4:d*d≤344000000*344000000:=jY d1 d1 d0 (by omega)
 have e1:W64 (W64 (W64 (1000000*sl)*sl)+W64 (W64 (4*d)*d))=4*(250000*(sl*sl)+d*d):=by
  rw [wO (1000000*sl),wO (4*d),jV 1000000,jV 4,wO (1000000*(sl*sl)),wO (4*(d*d)),qJ (by omega) (by omega)]
  omega
 have e2:W64 (W64 (W64 (W64 (500*sl)*500)*sl)+W64 (d*d))=250000*(sl*sl)+d*d:=by
  rw [wO (500*sl),wO (500*sl*500),show 500*sl*500*sl=250000*(sl*sl) by rw [←jV];congr 1;omega,wO (250000*(sl*sl)),wO (d*d),qJ (by omega) (by omega)]
 obtain ⟨v,v1,v2,v3⟩:=qxb (mode:=mode) (y:=4*(250000*(sl*sl)+d*d)) (by omega) (by omega)
 obtain ⟨w,w1,w2,w3⟩:=qxa (y:=250000*(sl*sl)+d*d) (by omega) (by omega)
 have hr:=quM w1 v1 hm
 have hv:=v1.pos
 have hw:=w1.pos
 have hv1:0≤(if mode=1∧v*v<4*(250000*(sl*sl)+d*d) then v+1 else v)∧(if mode=1∧v*v<4*(250000*(sl*sl)+d*d) then v+1 else v)≤1000*3000000:=by split<;>omega
 refine ⟨_,(qsY (b:=1000) (mode:=mode) (M:=3000000) (by omega) hv1.1 hv1.2).1,?_,?_⟩
 ·rw [e1]
  exact Ev.bind v3 (Ev.bind ⟨0,fun n _=>qk4 (by omega) (by omega) (by omega)⟩ .done)
 ·rw [hr]
  unfold qjt
  rw [e2]
  refine Ev.bind w3 ?_
  have hq:w*w≤3000000000*3000000000:=jY w2 w2 hw (by omega)
  have hq0:=jS hw hw
  have ed:(fun n=>qfh n w 500 mode)=fun _=>some (divI w 500 mode):=by
   funext n
   rw [qsL (m:=0),qk4 (by omega) (by omega) (by omega)]
  have hdv:=congrFun ed
  simp only [wO (w*w),jD hw,wO (w / 500),wO (w / 500+1),hdv,jd]
  rcases hm with rfl|rfl
  ·rw [if_neg (by omega)]
   exact .done
  ·by_cases hl:w*w<250000*(sl*sl)+d*d
   ·rw [if_pos ⟨rfl,hl⟩,decide_eq_true hl];exact .done
   ·rw [if_neg fun h=>hl h.2,decide_eq_false hl];exact .done
theorem qtH {t:qt} (h:TbOk t∧∀ k,0≤at0 t.Ba k) (sl ld mode:Int):∃ r:Int,0≤r∧r≤1000000∧Ev (fun n=>qho n t sl ld mode) r∧Ev (fun n=>qdG n t sl ld mode) r:=by
 obtain ⟨S,D,D0,S1,_,_,_,S0,hev⟩:=qxQ h.1 sl ld
 obtain ⟨r0,r1⟩:=qsY (mode:=mode) D0 (S0 h.2) S1
 exact ⟨_,r0,r1,hev mode⟩
theorem quQ {b:qg} {ex:List Int} {x:qu} {j net:Nat} (jl:j<(places b.Aa).length) (hn:(gt (places b.Aa) j).net=(net:Int)) (hh:W64 (x.To.tdiv 2)=(j:Int)) (n:Nat):qeZ n (some (viewE b ex)) x=some (net:Int):=by
 unfold qeZ
 show (idx (places b.Aa) (W64 (x.To.tdiv 2))).bind _=_
 rw [hh,qC jl]
 exact congrArg some hn
theorem qxo {b:qg} {ex:List Int} (h:blockB b=true) {x:qu} {i j m net a:Nat} (hx:CLk b x i j m net a) (n:Nat):qgl n (some (viewE b ex)) x=some (gt (cellAt b (i:Int)).As a):=by
 obtain ⟨⟨c0,c1⟩,_,_⟩:=qhy (qaD h) hx.il
 unfold qgl
 show (idx (places b.Aa) (W64 (x.To.tdiv 2))).bind (fun y2=>(idx b.Aa.Ab y2.instance_).bind fun y3=>(idx b.Ar.Ap y3.Bp).bind fun y4=>(idx y4.As x.Bu).bind fun y5=>some y5)=_
 rw [hx.half,qC hx.jl,jd,hx.inst,qC hx.il,jd,qfI c0 c1,jd,hx.ix]
 show (idx (cellAt b (i:Int)).As (a:Int)).bind _=_
 rw [qC hx.al];rfl
theorem qsa {b:qg} (h:blockB b=true) {x:qu} {i j m net a:Nat} (hx:CLk b x i j m net a):Ev (fun n=>qjA n b x) (gt (cellAt b (i:Int)).As a,load0 b net):=by
 have hd:=qaD h
 have hs:=qaf hd
 obtain ⟨⟨c0,c1⟩,_,_⟩:=qhy hd hx.il
 have hp:idx ((places b.Aa).map toSp) (j:Int)=some (toSp (gt (places b.Aa) j)):=by
  refine qM ?_
  rw [List.getElem?_map,ji hx.jl,qfu hx.jl];rfl
 have hll:=qml h hx.nl
 have hlo:=(qbx h hx.nl).lo
 have h1:(toSp (gt (places b.Aa) j)).instance_=(i:Int):=hx.inst
 have h2:(toSp (gt (places b.Aa) j)).net=(net:Int):=hx.net_
 have h3:idx (gt b.Ar.Ap (gt b.Aa.Ab i).Bp.toNat).As (a:Int)=some (gt (cellAt b (i:Int)).As a):=qC hx.al
 unfold qjA
 refine Ev.bind (qig hs) ?_
 simp only [hx.half,hp,jd,h1,h2,qC hx.il,qfI c0 c1,hx.ix,h3]
 refine Ev.bind (qpT h hx.nl) ?_
 rw [show idx (loadsL b net) (0:Int)=some (load0 b net) from qC (j:=0) (by omega)]
 exact .done
theorem qpq {b:qg} (h:blockB b=true) {x:qu} {j net k:Nat} (hx:WLk b x j net k):Ev (fun n=>qg6 n b x) (net:Int):=by
 have hs:=qaf (qaD h)
 have hp:idx ((places b.Aa).map toSp) (j:Int)=some (toSp (gt (places b.Aa) j)):=by
  refine qM ?_
  rw [List.getElem?_map,ji hx.jl,qfu hx.jl];rfl
 have h2:(toSp (gt (places b.Aa) j)).net=(net:Int):=hx.net_
 unfold qg6
 refine Ev.bind (qig hs) ?_
 simp only [hx.half,hp,jd,h2]
 exact .done
theorem qsZ {b:qg} {c:qy} (ex:List Int) (h:blockB b=true) (hc:cornerB c=true) {k:Nat} (hk:k<(linksL b).length) {sl mode:Int} (s0:0≤sl) (s1:sl≤1000000) (hm:mode=0∨mode=1) :
  (∃ D:Int,Ev (fun n=>qdq n b c (gt (linksL b) k) sl mode) D∧Ev (fun n=>qci n (some (viewE b ex)) c (k:Int) sl mode) D) ∧
  ∃ S:Int,0≤S∧S≤1000000∧Ev (fun n=>qeg n b (gt (linksL b) k) sl mode) S∧Ev (fun n=>qbs n (some (viewE b ex)) (k:Int) sl mode) S:=by
 have hv:idx (viewE b ex).links (k:Int)=some (gt (linksL b) k):=qC hk
 obtain ⟨hx,_⟩:=qg5 h (qlA hk)
 generalize gt (linksL b) k=x at hx hv
 rcases hx with ⟨i,j,m,net,a,hx⟩|⟨j,net,q,hx⟩
 ·have hnet:=quQ (ex:=ex) hx.jl hx.net_ hx.half
  have harc:=qxo (ex:=ex) h hx
  have hld:idx (viewE b ex).loads (net:Int)=some (load0 b net):=qiU (f:=load0 b) hx.nl
  obtain ⟨f,f0,f1,sF,iF⟩:=qsn hc (kind:=x.Av) (mode:=mode)
  have dl:m<(gt (cellAt b (i:Int)).As a).Bj.length:=by rw [hx.d2];exact hx.ml
  have sL:m<(gt (cellAt b (i:Int)).As a).Aq.length:=by rw [hx.s2];exact hx.ml
  obtain ⟨r,r0,r1,rs,ri⟩:=qtH (hx.dt _ (qlA dl)) sl (load0 b net) mode
  obtain ⟨u,u0,u1,us,ui⟩:=qtH (hx.st _ (qlA sL)) sl (load0 b net) mode
  obtain ⟨c1,c2⟩:=qtQ (mode:=mode) r0 (by omega) (show 0≤f by omega) f1
  have hk1:(x.Av==1)=true:=by rw [hx.kind];rfl
  refine ⟨⟨divI (r*f) 1000 mode,?_,?_⟩,⟨u,u0,u1,?_,?_⟩⟩
  ·unfold qdq
   refine Ev.tt hk1 (Ev.bind (qsa h hx) ?_)
   simp only [hx.mod,qC dl,jd,sF]
   exact Ev.bind rs (Ev.bind ⟨0,fun n _=>c1 n⟩ .done)
  ·unfold qci
   simp only [jd,hv,hnet,hld,harc,hx.mod,qC dl,iF]
   exact Ev.tt hk1 (Ev.bind ri (Ev.bind ⟨0,fun n _=>c2 n⟩ .done))
  ·unfold qeg
   refine Ev.tt hk1 (Ev.bind (qsa h hx) ?_)
   simp only [hx.mod,qC sL,jd]
   exact Ev.bind us .done
  ·unfold qbs
   simp only [jd,hv,hnet,hld,harc,hx.mod,qC sL]
   refine Ev.tt hk1 (Ev.bind ui (Ev.now ?_))
   rw [if_neg (by omega)]
 ·have hnet:=quQ (ex:=ex) hx.jl hx.net_ hx.half
  have hde:idx (viewE b ex).delays (net:Int)=some (exactL b net):=qiU (f:=exactL b) hx.nl
  have hel:(exactL b net).length=(gt b.Ac net).Bh.length:=by unfold exactL;rw [jx]
  have hq:q<(exactL b net).length:=by rw [hel];exact hx.kl
  obtain ⟨x0,x1⟩:=qq2 h hx.nl hx.kl
  obtain ⟨f,f0,f1,sF,iF⟩:=qsn hc (kind:=x.Av) (mode:=mode)
  have dd:=fun n=>qk4 (n:=n) (a:=gt (exactL b net) q) (b:=1000) (mode:=mode) (by omega) (by omega) (by omega)
  obtain ⟨p0,p1⟩:=qsY (a:=gt (exactL b net) q) (b:=1000) (mode:=mode) (M:=344000) (by omega) x0 (by omega)
  obtain ⟨c1,c2⟩:=qtQ (mode:=mode) p0 (by omega) (show 0≤f by omega) f1
  have hk1:(x.Av==1)=false:=by rw [hx.kind];rfl
  have hi:idx ((exactL b net).map fun x=>divI x 1000 mode) (q:Int)=some (divI (gt (exactL b net) q) 1000 mode):=by
   rw [qC (by rw [jx];exact hq),qpu hq]
  obtain ⟨u,u0,us,ui⟩:=qvV s0 s1 x0 x1 hm
  refine ⟨⟨divI (divI (gt (exactL b net) q) 1000 mode*f) 1000 mode,?_,?_⟩,⟨if u<1000000 then u else 1000000,by split<;>omega,by split<;>omega,?_,?_⟩⟩
  ·unfold qdq
   refine Ev.ff hk1 (Ev.bind (qpq h hx) (Ev.bind (qpA h hx.nl) ?_))
   simp only [hx.ix,hi,jd,sF]
   exact Ev.bind ⟨0,fun n _=>c1 n⟩ .done
  ·unfold qci
   simp only [jd,hv,hnet,hde,hx.ix,qC hq,iF]
   refine Ev.ff hk1 (Ev.bind (b:=divI (gt (exactL b net) q) 1000 mode) ⟨0,fun n _=>(qsL (m:=0)).trans (dd 0)⟩ (Ev.bind ⟨0,fun n _=>c2 n⟩ .done))
  ·have hw:=qbx h hx.nl
   have hsn:=hw.sin q hx.kl
   have hdl:=qmS h hx.nl
   have eg:gt (exactL b net) q=gt (delaysL b net) (at0 (gt b.Ac net).Bh q).toNat:=by
    unfold exactL
    rw [qfu (by rw [jx];exact hx.kl),List.getElem_map,qnb hx.kl]
   unfold qeg qmo
   refine Ev.ff hk1 (Ev.bind (qpq h hx) ?_)
   simp only [hx.ix,qC hx.nl,jd,qar hx.kl]
   refine Ev.bind (b:=u) (Ev.bind (qoF h hx.nl) ?_) .done
   rw [qfI hsn.1 (show at0 (gt b.Ac net).Bh q<((delaysL b net).length:Int) by omega)]
   simp only [jd]
   rw [←eg]
   exact us
  ·unfold qbs
   simp only [jd,hv,hnet,hde,hx.ix,qC hq]
   refine Ev.ff hk1 (Ev.bind ui (Ev.now ?_))
   congr 1
   split<;>split<;>omega
theorem qqx {b:qg} {c:qy} (h:blockB b=true) (hc:cornerB c=true) {k:Nat} (hk:k<(linksL b).length) {sl mode:Int} (s0:0≤sl) (s1:sl≤1000000) (hm:mode=0∨mode=1) :
  (∃ D:Int,Ev (fun n=>qdq n b c (gt (linksL b) k) sl mode) D∧∀ ex,Ev (fun n=>qci n (some (viewE b ex)) c (k:Int) sl mode) D) ∧
  ∃ S:Int,0≤S∧S≤1000000∧Ev (fun n=>qeg n b (gt (linksL b) k) sl mode) S∧∀ ex,Ev (fun n=>qbs n (some (viewE b ex)) (k:Int) sl mode) S:=by
 obtain ⟨⟨D,d1,_⟩,⟨S,a,c',s1',_⟩⟩:=qsZ [] h hc hk s0 s1 hm
 refine ⟨⟨D,d1,fun ex=>?_⟩,⟨S,a,c',s1',fun ex=>?_⟩⟩
 ·obtain ⟨⟨D',e1,e2⟩,_⟩:=qsZ ex h hc hk s0 s1 hm
  rw [d1.uniq e1];exact e2
 ·obtain ⟨_,⟨S',_,_,e1,e2⟩⟩:=qsZ ex h hc hk s0 s1 hm
  rw [s1'.uniq e1];exact e2
end Go.Fw
