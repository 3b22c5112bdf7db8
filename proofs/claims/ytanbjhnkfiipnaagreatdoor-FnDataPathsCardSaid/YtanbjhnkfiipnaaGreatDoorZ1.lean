/- By a program of mine (gen.py): for each function a plain function and the proof that the code computes it. -/
import Derived.Test.YtanbjhnkfiipnaaGreatDoorA3
open Option renaming bind_some → je
open Nat renaming le_refl → jf, mul_le_mul_right → jo, le_of_ble_eq_true → jp, lt_of_lt_of_le → jr, succ_mul → jB, zero_le → jJ, le_trans → jN, zero_add → jQ
open Bool renaming and_eq_true → jg, eq_iff_iff → jk, not_eq_true' → jA, true_and → jF
open Go.Result renaming andThen_ok → jh
open List renaming length_append → ji, length_singleton → jj, getElem?_eq_getElem → jn, getElem_mem → jq, mem_cons_of_mem → js, mem_cons_self → jt, mem_of_getElem? → ju, getD_eq_getElem?_getD → jw, getElem?_append_left → jx, not_mem_nil → jy, eq_nil_of_length_eq_zero → jz, getElem?_take → jC, getElem?_toArray → jD, getElem?_append_right → jE, length_map → jG, mem_cons → jH, getElem_of_mem → jI, size_toArray → jL, append_nil → jM, append_assoc → jO, all_eq_true → jP
open Go.Sem renaming run_bind → jl, run_pure → jm
open Int renaming toNat_natCast → jv
open Array renaming getElem?_append_left → jK

namespace Go.Fw
open Go Go.Proofs
open Go.RowKit (Below)
set_option maxRecDepth 100000
set_option maxHeartbeats 6400000
variable {n:Nat} {w:World} {cs1 cs2 cs3 cs4 cs5 cs6 cs7 cs8 cs9:List Value}
def qfu (n:Nat) (l:qi) (d:qc) (place:Int):Option (Tl05Place × Bool) :=
 (qeI n l d).bind fun r1 =>
 bif (!r1) then some ((⟨0,0,0,false⟩:Tl05Place),false) else
 (qbD n d).bind fun r2 =>
 (qan n place 0 (W64 ((r2.length:Int)-1))).bind fun r3 =>
 bif (!r3) then some ((⟨0,0,0,false⟩:Tl05Place),false) else
 (idx r2 place).bind fun y1 =>
 some (y1,true)
theorem qgK {l:qi} {d:qc} {place:Int} (ha1:GoT.R w (old w) l cs1) (ha2:GoT.R w (old w) d cs2) {r:(Tl05Place × Bool)} (hF:qfu n l d place=some r):RetV Tryz.prog 86 [GoT.v qi cs1,GoT.v qc cs2,.int .i64 place] w r:=by
 obtain ⟨p1,k1,rfl,s1⟩:=qbg ha1
 obtain ⟨p2,k2,p3,k3,p4,k4,rfl,s2,s3,s4⟩:=qak ha2
 refine zV 27 Tryz.func86 rfl fun h=>zSR (qV h rfl rfl fun w1 bb1 h=>qV h rfl rfl fun w2 bb2 h=>qy qa h rfl rfl rfl fun w3 bb3 h=>X2 7 2 1 h rfl (zcB h hF (qgY (h.old ha1) (h.old ha2)) rfl fun r1 w4 h hF=>X0 2 rfl (qr rfl hF ?_ ?_)))<;>intro hF
 ·refine zSR (r_v (qay qa [] [] rfl rfl rfl rfl rfl rfl rfl rfl) rfl (zs 0 h rfl fun w5 h=>X0 2 rfl ?_))
  obtain rfl:=qb hF
  exact qa9 qa (ρ:=(Tl05Place × Bool)) [GoT.v Tl05Place [.int .i64 0,.int .i64 0,.int .i64 0,.bool false],GoT.v Bool [.bool false]] h ⟨⟨_,_,_,rfl,rfl,h.box 0 rfl,rfl⟩,rfl,trivial⟩ (PV.done h (qbU h (qN (S:=fun _=>False) (qeJ (⟨0,0,0,false⟩:Tl05Place))) (qbA (qN (S:=fun _=>False) rfl)) (by rfl)))
 refine X1 4 1 h rfl (zcL h hF (qci (h.old ha2)) rfl fun r2 w6 S1 p5 k5 h hF=>X0 9 rfl (zcB h hF qac rfl fun r3 w7 h hF=>X0 2 rfl (qr rfl hF ?_ ?_)))<;>intro hF
 ·refine zSR (r_v (qay qa [] [] rfl rfl rfl rfl rfl rfl rfl rfl) rfl (zs 1 h rfl fun w8 h=>X0 2 rfl ?_))
  obtain rfl:=qb hF
  exact qa9 qa (ρ:=(Tl05Place × Bool)) [GoT.v Tl05Place [.int .i64 0,.int .i64 0,.int .i64 0,.bool false],GoT.v Bool [.bool false]] h ⟨⟨_,_,_,rfl,rfl,h.box 1 rfl,rfl⟩,rfl,trivial⟩ (PV.done h (qbU h (qN (S:=fun _=>False) (qeJ (⟨0,0,0,false⟩:Tl05Place))) (qbA (qN (S:=fun _=>False) rfl)) (by rfl)))
 refine X0 5 rfl ?_
 obtain ⟨y1,hy1,hF,he1,b1,_,q1,cs3,hp1,hq1,hr4,hc3⟩:=(h.sl 0 rfl).1.ix hF
 obtain rfl:=qbh hr4
 refine zx hp1 hq1 ⟨he1.1,qY he1.2.1 (h.sl 0 rfl).2⟩ rfl (zc 0 hc3 rfl (zs 1 h rfl fun w9 h=>X0 2 rfl ?_))
 obtain rfl:=qb hF
 exact qa9 qa (ρ:=(Tl05Place × Bool)) [GoT.v Tl05Place (qfR y1),GoT.v Bool [.bool true]] h ⟨⟨_,_,_,rfl,rfl,h.box 1 rfl,rfl⟩,rfl,trivial⟩ (PV.done h (qbU h (qN (S:=fun _=>False) (qeJ y1)) (qbA (qN (S:=fun _=>False) rfl)) (by rfl)))
def qeP (n:Nat) (l:qi) (d:qc) (place:Int):Option Int :=
 (qfu n l d place).bind fun o=>match o with
  | (r2,r3) =>
   bif (!r3) then some (-1) else
   some r2.net
theorem qip {l:qi} {d:qc} {place:Int} (ha1:GoT.R w (old w) l cs1) (ha2:GoT.R w (old w) d cs2) {r:Int} (hF:qeP n l d place=some r):RetV Tryz.prog 87 [GoT.v qi cs1,GoT.v qc cs2,.int .i64 place] w r:=by
 obtain ⟨p1,k1,rfl,s1⟩:=qbg ha1
 obtain ⟨p2,k2,p3,k3,p4,k4,rfl,s2,s3,s4⟩:=qak ha2
 refine zV 20 Tryz.func87 rfl fun h=>zSR (qV h rfl rfl fun w1 bb1 h=>qV h rfl rfl fun w2 bb2 h=>X2 7 1 0 h rfl ?_)
 obtain ⟨r1,hr1,hF⟩:=qe hF
 obtain ⟨r2,r3⟩:=r1
 refine qep (r2,r3) h (cB 86 rfl) (qgK (h.old ha1) (h.old ha2) hr1) rfl rfl rfl rfl fun w3 S1 us1 hv1 hr2=>?_
 obtain ⟨S2,S3,cs3,us2,rfl,hv2,hr3⟩:=hv1.cons hr2
 obtain rfl:=qbh (hv2.sh.own 0 rfl)
 obtain ⟨rfl,h⟩:=hv2.lastB hr3
 refine zp3 rfl (qy qa h rfl rfl rfl fun w4 bb3 h=>zs 0 h rfl fun w5 h=>X0 8 rfl (qr rfl hF ?_ ?_))<;>intro hF
 ·exact X0 4 rfl (ri h hF rfl)
 exact X1 7 0 h rfl (ri h hF rfl)
def qbv (net:Int) (r1:(List Tl05Place)):Nat→Int→Option (Flow Int Int)
 | 0,_=>none
 | n+1,i1 =>
  bif decide (i1<(r1.length:Int)) then
   (idx r1 i1).bind fun y1 =>
   bif (y1.net==net) then
    (idx r1 i1).bind fun y2 =>
    bif y2.drives then some (.ret i1) else
    qbv net r1 n (W64 (i1+1))
   else
    qbv net r1 n (W64 (i1+1))
  else
   some (.nxt i1)
def qfs (n:Nat) (d:qc) (net:Int):Option Int :=
 (qbD n d).bind fun r1 =>
 (qbv net r1 n 0).bind fun o=>match o with
 | .ret r=>some r
 | .nxt _ =>
  some (-1)
theorem qiM {d:qc} {net:Int} (ha1:GoT.R w (old w) d cs1) {r:Int} (hF:qfs n d net=some r):RetV Tryz.prog 88 [GoT.v qc cs1,.int .i64 net] w r:=by
 obtain ⟨p1,k1,p2,k2,p3,k3,rfl,s1,s2,s3⟩:=qak ha1
 refine zV 30 Tryz.func88 rfl fun h=>zSR (qV h rfl rfl fun w1 bb1 h=>X1 5 0 h rfl (zcL h hF (qci (h.old ha1)) rfl fun r1 w2 S1 p4 k4 h hF=>X0 7 rfl ?_))
 obtain ⟨o1,hF,hK1⟩:=qe hF
 refine qq ?_
 replace h:=h.pick [0] rfl
 refine rL (fun m e w'=>∃ (i1:Int),qbv net r1 m i1=some o1∧e=[(1,.int .i64 net),(5,.slice p4 r1.length k4),(6,.int .i64 i1)]∧SH w w' [Ch.own S1 (r1:List Tl05Place) [.slice p4 r1.length k4]]) n ⟨_,hF,rfl,h⟩ rfl ?_
 rintro m1 e1 w3 ⟨i1,hF,rfl,h⟩
 rcases m1 with _|m1
 ·cases hF
 refine X0 8 rfl (qr rfl hF ?_ ?_)<;>intro hF
 ·refine X0 7 rfl ?_
  obtain ⟨y1,hy1,hF,he1,b1,_,q1,cs2,hp1,hq1,hr2,hc2⟩:=(h.sl 0 rfl).1.ix hF
  obtain rfl:=qbh hr2
  refine zx hp1 hq1 ⟨he1.1,qY he1.2.1 (h.sl 0 rfl).2⟩ rfl (zp1 rfl (zc 2 hc2 rfl (zp3 rfl (qh (t:=22) hF rfl ?_ ?_))))<;>intro hF
  ·refine X0 5 rfl ?_
   obtain ⟨y2,hy2,hF,he2,b2,_,q2,cs3,hp2,hq2,hr3,hc3⟩:=(h.sl 0 rfl).1.ix hF
   obtain rfl:=qbh hr3
   refine zx hp2 hq2 ⟨he2.1,qY he2.2.1 (h.sl 0 rfl).2⟩ rfl (X0 3 rfl (zc 3 hc3 rfl (X0 2 rfl (qr rfl hF ?_ ?_))))<;>intro hF
   ·refine X0 5 rfl ?_
    obtain rfl:=qb hF;replace hF:=hK1
    exact ri h hF rfl
   exact X0 7 rfl (rK ⟨_,hF,rfl,h⟩ rfl)
  exact X0 7 rfl (qdx rfl rfl (X0 7 rfl (rK ⟨_,hF,rfl,h⟩ rfl)))
 refine qw rfl ?_
 obtain rfl:=qb hF;replace hF:=hK1
 exact X0 4 rfl (ri h hF rfl)
def qeC (_:Nat) (b:qd) (a_instance:Int):Option qk :=
 (idx b.Aa.Ab a_instance).bind fun y1 =>
 (idx b.Ac.Ak y1.Av).bind fun y2 =>
 some y2
theorem qhl {A:Nat→Prop} (hA:∀ b,A b→old w b) {b:qd} {a_instance:Int} (ha1:GoT.R w A b cs1) {r:qk} (hF:qeC n b a_instance=some r):RetG Tryz.prog 90 [GoT.v qd cs1,.int .i64 a_instance] w A r:=by
 obtain ⟨p1,k1,p2,k2,p3,k3,p4,k4,p5,k5,rfl,s1,s2,s3,s4,s5⟩:=qP ha1
 have hg:=Rg.start hA
 refine qgB Tryz.func90 rfl (m:=17) rfl rfl (fun h=>?_)
 refine zSR (qV h rfl rfl fun w1 bb1 h=>qy qa h rfl rfl rfl fun w2 bb2 h=>zNS (rA [] [1] h rfl fun w3 h=>M2 127 [0,1,2,3,4,5,6] 0 0 (h.pick [1] rfl) rfl ?_))
 obtain ⟨y1,hy1,hF,he1,b1,_,q1,cs2,hp1,hq1,hr1,hc1⟩:=s2.ix hF
 obtain ⟨p6,k6,rfl,s6⟩:=qai hr1
 refine Ae 7 255 hp1 hq1 he1 (h.pick [1] rfl) rfl (M0 511 [8] (h.pick [1] rfl) rfl (Al 9 1023 1 hc1 (h.pick [1] rfl) rfl ?_))
 obtain ⟨y2,hy2,hF,he2,b2,_,q2,cs3,hp2,hq2,hr2,hc2⟩:=s1.ix hF
 obtain ⟨p7,k7,p8,k8,p9,k9,rfl,s7,s8,s9⟩:=qE hr2
 refine Ae 10 2047 hp2 hq2 he2 (h.pick [1] rfl) rfl (Al 11 4095 0 hc2 (h.pick [1] rfl) rfl (Ao 12 8191 rfl (zs 0 h rfl fun w4 h=>Ag (h.pick [1] rfl) (Ad ?_))))
 obtain rfl:=qb hF
 have hv1:GoRs.Rs (ρ:=qk) h.wc (reg A w h.wc) y2 [GoT.v qk (qt y2 p7 p8 p9 k7 k8 k9)]:=⟨_,rfl,(hg.outR h (qh6 y2 (hg.inS h s7) (hg.inS h s8) (hg.inS h s9)))⟩
 exact qk1 qa (ρ:=qk) (r:=y2) [GoT.v qk (qt y2 p7 p8 p9 k7 k8 k9)] h ⟨⟨_,_,_,rfl,rfl,h.box 0 rfl,rfl⟩,trivial⟩ hv1
def qfF (n:Nat) (b:qd) (place:Int):Option Bool :=
 (qfu n (⟨b.Ac.Ak⟩:qi) (⟨b.Aa.Ab,b.Aa.Ai,b.Aa.Af⟩:qc) place).bind fun o=>match o with
  | (r2,_) =>
   bif decide (r2.instance_ ≥ 0) then
    (qeC n b r2.instance_).bind fun r4 =>
    (idx r4.Ap r2.pin).bind fun y1 =>
    some y1.Ba
   else
    some false
theorem qiU {b:qd} {place:Int} (ha1:GoT.R w (old w) b cs1) {r:Bool} (hF:qfF n b place=some r):RetV Tryz.prog 89 [GoT.v qd cs1,.int .i64 place] w r:=by
 obtain ⟨p1,k1,p2,k2,p3,k3,p4,k4,p5,k5,rfl,s1,s2,s3,s4,s5⟩:=qP ha1
 refine zV 31 Tryz.func89 rfl fun h=>zSR (qV h rfl rfl fun w1 bb1 h=>X2 9 0 0 h rfl ?_)
 obtain ⟨r1,hr1,hF⟩:=qe hF
 obtain ⟨r2,r3⟩:=r1
 refine qep (r2,r3) h (cB 86 rfl) (qgK (qdU _ (h.oldS s1)) (qaL _ (h.oldS s2) (h.oldS s3) (h.oldS s4)) hr1) rfl rfl rfl rfl fun w2 S1 us1 hv1 hr2=>?_
 obtain ⟨S2,S3,cs2,us2,rfl,hv2,hr3⟩:=hv1.cons hr2
 obtain rfl:=qbh (hv2.sh.own 0 rfl)
 obtain ⟨rfl,h⟩:=hv2.lastB hr3
 refine zp3 rfl (qy qa h rfl rfl rfl fun w3 bb2 h=>zs 0 h rfl fun w4 h=>X0 3 rfl (rA [] [0,2] h rfl fun w5 h=>M1 15 [0,1,2,3] 0 (h.pick [0,2] rfl) rfl (qnw (t:=19) hF rfl ?_ ?_)))<;>intro hF
 ·refine qgF 4 rfl (by kernel_rfl) (bits 16 31) (by kernel_rfl) (by kernel_rfl) (fun w' hw=>qfq qa (hw.box 1 rfl) (j:=0) rfl rfl rfl) (h.pick [0,2] rfl) rfl (qgF 5 rfl (by kernel_rfl) (bits 16 63) (by kernel_rfl) (by kernel_rfl) (fun w' hw=>v_p qa rfl w') (h.pick [0,2] rfl) rfl (qgF 6 rfl (by kernel_rfl) (bits 16 127) (by kernel_rfl) (by kernel_rfl) (fun w' hw=>qfq qa (hw.box 0 rfl) (j:=0) rfl rfl rfl) (h.pick [0,2] rfl) rfl (qgF 9 rfl (by kernel_rfl) (bits 16 639) (by kernel_rfl) (by kernel_rfl) (fun w' hw=>v_p qa rfl w') (h.pick [0,2] rfl) rfl (qgF 10 rfl (by kernel_rfl) (bits 16 1663) (by kernel_rfl) (by kernel_rfl) (fun w' hw=>qfq qa (hw.box 0 rfl) (j:=1) rfl rfl rfl) (h.pick [0,2] rfl) rfl (Ao 7 1791 rfl (X0 1 rfl ?_))))))
  have hg1:Rg (old w) w (old w) w:=.start (fun _ h=>h)
  obtain ⟨r4,hr5,hF⟩:=qe hF
  refine qfI r4 hg1 h (cB 90 rfl) (qhl (hg1.atB h) (hg1.inBR h ha1) hr5) rfl rfl rfl rfl fun w6 us3 S5 h hv4=>?_
  obtain ⟨cs3,rfl,hr6⟩:=qeY hv4
  have hr7:=hr6
  obtain ⟨p6,k6,p7,k7,p8,k8,rfl,s6,s7,s8⟩:=qE hr6
  replace h:=h.grpAdd 0 rfl hr7
  refine Ag (h.pick [1,3] rfl) (qgF 8 rfl (by kernel_rfl) (bits 16 2047) (by kernel_rfl) (by kernel_rfl) (fun w' hw=>v_p qa rfl w') (h.pick [1,3] rfl) rfl ?_)
  obtain ⟨y1,hy1,hF,he1,b1,_,q1,cs4,hp1,hq1,hr8,hc1⟩:=(qfC (h.grp 0 0 rfl rfl)).1.1.ix hF
  obtain rfl:=qcS hr8
  refine qgF 11 rfl (by kernel_rfl) (bits 16 4095) (by kernel_rfl) (by kernel_rfl) (fun w' hw=>qn2 qa hp1 hq1 ⟨he1.1,qY he1.2.1 (qfC (h.grp 0 0 rfl rfl)).1.2⟩ rfl rfl rfl rfl rfl rfl) (h.pick [1,3] rfl) rfl (qgF 12 rfl (by kernel_rfl) (bits 16 8191) (by kernel_rfl) (by kernel_rfl) (fun w' hw=>v_p qa rfl w') (h.pick [1,3] rfl) rfl (Ao 13 16383 rfl (X0 1 rfl (zc 3 hc1 rfl (G0 65535 [14,15] (h.pick [1,3] rfl) rfl (Ad ?_))))))
  replace h:=h.pick [1,2,3] rfl
  exact rb h hF rfl
 exact qij 4 rfl (by kernel_rfl) rfl (bits 16 31) (by kernel_rfl) (by kernel_rfl) (h.pick [0,2] rfl) rfl (qij 5 rfl (by kernel_rfl) rfl (bits 16 63) (by kernel_rfl) (by kernel_rfl) (h.pick [0,2] rfl) rfl (qij 6 rfl (by kernel_rfl) rfl (bits 16 127) (by kernel_rfl) (by kernel_rfl) (h.pick [0,2] rfl) rfl (qij 7 rfl (by kernel_rfl) rfl (bits 16 255) (by kernel_rfl) (by kernel_rfl) (h.pick [0,2] rfl) rfl (qij 8 rfl (by kernel_rfl) rfl (bits 16 511) (by kernel_rfl) (by kernel_rfl) (h.pick [0,2] rfl) rfl (qij 9 rfl (by kernel_rfl) rfl (bits 16 1023) (by kernel_rfl) (by kernel_rfl) (h.pick [0,2] rfl) rfl (qij 10 rfl (by kernel_rfl) rfl (bits 16 2047) (by kernel_rfl) (by kernel_rfl) (h.pick [0,2] rfl) rfl (qij 11 rfl (by kernel_rfl) rfl (bits 16 4095) (by kernel_rfl) (by kernel_rfl) (h.pick [0,2] rfl) rfl (qij 12 rfl (by kernel_rfl) rfl (bits 16 8191) (by kernel_rfl) (by kernel_rfl) (h.pick [0,2] rfl) rfl (qij 13 rfl (by kernel_rfl) rfl (bits 16 16383) (by kernel_rfl) (by kernel_rfl) (h.pick [0,2] rfl) rfl (M0 65535 [14,15] (h.pick [0,2] rfl) rfl (Ad (rb h hF rfl))))))))))))
def qcp (a_instance:Int) (pin:Int) (r1:(List Tl05Place)):Nat→Int→Option (Flow Int Int)
 | 0,_=>none
 | n+1,i1 =>
  bif decide (i1<(r1.length:Int)) then
   (idx r1 i1).bind fun y1 =>
   bif (y1.instance_==a_instance) then
    (idx r1 i1).bind fun y2 =>
    bif (y2.pin==pin) then some (.ret i1) else
    qcp a_instance pin r1 n (W64 (i1+1))
   else
    qcp a_instance pin r1 n (W64 (i1+1))
  else
   some (.nxt i1)
def qfo (n:Nat) (d:qc) (a_instance:Int) (pin:Int):Option Int :=
 (qbD n d).bind fun r1 =>
 (qcp a_instance pin r1 n 0).bind fun o=>match o with
 | .ret r=>some r
 | .nxt _ =>
  some (-1)
theorem qju {d:qc} {a_instance:Int} {pin:Int} (ha1:GoT.R w (old w) d cs1) {r:Int} (hF:qfo n d a_instance pin=some r):RetV Tryz.prog 91 [GoT.v qc cs1,.int .i64 a_instance,.int .i64 pin] w r:=by
 obtain ⟨p1,k1,p2,k2,p3,k3,rfl,s1,s2,s3⟩:=qak ha1
 refine zV 34 Tryz.func91 rfl fun h=>zSR (qV h rfl rfl fun w1 bb1 h=>X1 5 0 h rfl (zcL h hF (qci (h.old ha1)) rfl fun r1 w2 S1 p4 k4 h hF=>X0 7 rfl ?_))
 obtain ⟨o1,hF,hK1⟩:=qe hF
 refine qq ?_
 replace h:=h.pick [0] rfl
 refine rL (fun m e w'=>∃ (i1:Int),qcp a_instance pin r1 m i1=some o1∧e=[(1,.int .i64 a_instance),(2,.int .i64 pin),(7,.slice p4 r1.length k4),(8,.int .i64 i1)]∧SH w w' [Ch.own S1 (r1:List Tl05Place) [.slice p4 r1.length k4]]) n ⟨_,hF,rfl,h⟩ rfl ?_
 rintro m1 e1 w3 ⟨i1,hF,rfl,h⟩
 rcases m1 with _|m1
 ·cases hF
 refine X0 8 rfl (qr rfl hF ?_ ?_)<;>intro hF
 ·refine X0 7 rfl ?_
  obtain ⟨y1,hy1,hF,he1,b1,_,q1,cs2,hp1,hq1,hr2,hc2⟩:=(h.sl 0 rfl).1.ix hF
  obtain rfl:=qbh hr2
  refine zx hp1 hq1 ⟨he1.1,qY he1.2.1 (h.sl 0 rfl).2⟩ rfl (zp1 rfl (zc 0 hc2 rfl (zp3 rfl (qh (t:=24) hF rfl ?_ ?_))))<;>intro hF
  ·refine X0 5 rfl ?_
   obtain ⟨y2,hy2,hF,he2,b2,_,q2,cs3,hp2,hq2,hr3,hc3⟩:=(h.sl 0 rfl).1.ix hF
   obtain rfl:=qbh hr3
   refine zx hp2 hq2 ⟨he2.1,qY he2.2.1 (h.sl 0 rfl).2⟩ rfl (X0 3 rfl (zc 1 hc3 rfl (X0 6 rfl (qr rfl hF ?_ ?_))))<;>intro hF
   ·refine X0 5 rfl ?_
    obtain rfl:=qb hF;replace hF:=hK1
    exact ri h hF rfl
   exact X0 7 rfl (rK ⟨_,hF,rfl,h⟩ rfl)
  exact X0 9 rfl (qdx rfl rfl (X0 7 rfl (rK ⟨_,hF,rfl,h⟩ rfl)))
 refine qw rfl ?_
 obtain rfl:=qb hF;replace hF:=hK1
 exact X0 4 rfl (ri h hF rfl)
def qbr (a_0:qd) (r6:(List Int)):Nat→(List Int)→Int→Option ((List Int) × Int)
 | 0,_,_=>none
 | n+1,x1,i1 =>
  bif decide (i1<(r6.length:Int)) then
   (idx r6 i1).bind fun y1 =>
   (qfF n a_0 y1).bind fun r7 =>
   bif (!r7) then
    (idx r6 i1).bind fun y2 =>
    (appS x1 ([y2]:List Int)).bind fun x2 =>
    qbr a_0 r6 n x2 (W64 (i1+1))
   else
    qbr a_0 r6 n x1 (W64 (i1+1))
  else
   some (x1,i1)
def qcM (a_0:qd) (r2:Tl05Place) (r8:qk):Nat→Int→Option (Flow (List Int) Int)
 | 0,_=>none
 | n+1,i2 =>
  bif decide (i2<(r8.Am.length:Int)) then
   (
    (idx r8.Am i2).bind fun y3 =>
    bif (y3.Ay==r2.pin) then
     (idx r8.Am i2).bind fun y4 =>
     some (decide (y4.Aq≤3))
    else
     some false).bind fun b3 =>
   bif b3 then
    (qfo n (⟨a_0.Aa.Ab,a_0.Aa.Ai,a_0.Aa.Af⟩:qc) r2.instance_ (W64 ((r8.Ap.length:Int)-1))).bind fun r9 =>
    some (.ret ([r9]:List Int))
   else
    qcM a_0 r2 r8 n (W64 (i2+1))
  else
   some (.nxt i2)
def qfE (n:Nat) (a_0:qd) (a_1:Int):Option (List Int) :=
 (qfu n (⟨a_0.Ac.Ak⟩:qi) (⟨a_0.Aa.Ab,a_0.Aa.Ai,a_0.Aa.Af⟩:qc) a_1).bind fun o=>match o with
  | (r2,_) =>
   (qeP n (⟨a_0.Ac.Ak⟩:qi) (⟨a_0.Aa.Ab,a_0.Aa.Ai,a_0.Aa.Af⟩:qc) a_1).bind fun r4 =>
   (qfs n (⟨a_0.Aa.Ab,a_0.Aa.Ai,a_0.Aa.Af⟩:qc) r4).bind fun r5 =>
   bif (r5==a_1) then
    (qd5 n (⟨a_0.Aa.Ab,a_0.Aa.Ai,a_0.Aa.Af⟩:qc) r4).bind fun r6 =>
    (qbr a_0 r6 n ([]:List Int) 0).bind fun o=>match o with
    | (x1,_) =>
     some x1
   else
    bif decide (r2.instance_<0) then some ([]:List Int) else
    (qeC n a_0 r2.instance_).bind fun r8 =>
    (qcM a_0 r2 r8 n 0).bind fun o=>match o with
    | .ret r=>some r
    | .nxt _ =>
     some ([]:List Int)
theorem qiX {a_0:qd} {a_1:Int} (ha1:GoT.R w (old w) a_0 cs1) {r:(List Int)} (hF:qfE n a_0 a_1=some r):RetV Tryz.prog 41 [GoT.v qd cs1,.int .i64 a_1] w r:=by
 obtain ⟨p1,k1,p2,k2,p3,k3,p4,k4,p5,k5,rfl,s1,s2,s3,s4,s5⟩:=qP ha1
 refine zV 104 Tryz.func41 rfl fun h=>zSR (qV h rfl rfl fun w1 bb1 h=>X0 4 rfl (qp qa [] _ ([]:List Int) h rfl rfl rfl rfl rfl rfl rfl rfl rfl trivial rfl fun w2 p6 S1 h=>X2 9 1 1 h rfl ?_))
 obtain ⟨r1,hr1,hF⟩:=qe hF
 obtain ⟨r2,r3⟩:=r1
 refine qep (r2,r3) h (cB 86 rfl) (qgK (qdU _ (h.oldS s1)) (qaL _ (h.oldS s2) (h.oldS s3) (h.oldS s4)) hr1) rfl rfl rfl rfl fun w3 S2 us1 hv1 hr2=>?_
 obtain ⟨S3,S4,cs2,us2,rfl,hv2,hr3⟩:=hv1.cons hr2
 obtain rfl:=qbh (hv2.sh.own 0 rfl)
 obtain ⟨rfl,h⟩:=hv2.lastB hr3
 refine zp3 rfl (qy qa h rfl rfl rfl fun w4 bb2 h=>zs 0 h rfl fun w5 h=>X2 9 3 3 h rfl (zcI h hF (qip (qdU _ (h.oldS s1)) (qaL _ (h.oldS s2) (h.oldS s3) (h.oldS s4))) rfl fun r4 w6 h hF=>X1 8 3 h rfl (zcI h hF (qiM (qaL _ (h.oldS s2) (h.oldS s3) (h.oldS s4))) rfl fun r5 w7 h hF=>X0 3 rfl (qr rfl hF ?_ ?_))))<;>intro hF
 ·refine X1 5 3 h rfl (zcL h hF (qfB (qaL _ (h.oldS s2) (h.oldS s3) (h.oldS s4))) rfl fun r6 w8 S6 p7 k6 h hF=>X0 7 rfl ?_)
  obtain ⟨o1,hF,hK1⟩:=qe hF
  refine qq ?_
  replace h:=h.pick [0,3,4] rfl
  refine rL (fun m e w'=>∃ (S7:Nat→Prop) (p8:Option Addr) (ln1:Nat) (k7:Nat) (x1:(List Int)) (i1:Int),qbr a_0 r6 m x1 i1=some o1∧e=[(2,.pointer (some ⟨bb1,0,none⟩)),(5,.slice p8 ln1 k7),(9,.slice p7 r6.length k6),(10,.int .i64 i1)]∧SH w w' [Ch.own S6 (r6:List Int) [.slice p7 r6.length k6],Ch.own S7 (x1:List Int) [.slice p8 ln1 k7],Ch.box bb1 (qT a_0 p1 p2 p3 p4 p5 k1 k2 k3 k4 k5) 34]) n ⟨_,_,_,_,_,_,hF,rfl,h⟩ rfl ?_
  rintro m1 e1 w9 ⟨S7,p8,ln1,k7,x1,i1,hF,rfl,h⟩
  obtain rfl:=(h.sl 1 rfl).2
  rcases m1 with _|m1
  ·cases hF
  refine X0 8 rfl (qr rfl hF ?_ ?_)<;>intro hF
  ·refine X0 4 rfl (rD (Y1 1 2 h rfl ?_))
   refine zd2 rfl ?_
   obtain ⟨y1,hy1,hF,he1,b1,_,q1,cs3,hp1,hq1,rfl,hc3⟩:=(h.sl 0 rfl).1.ix hF
   refine zdx hp1 hq1 ⟨he1.1,qY he1.2.1 (h.sl 0 rfl).2⟩ rfl (zdc 0 hc3 rfl ?_)
   obtain ⟨r7,hr9,hF⟩:=qe hF
   refine qdZ r7 (vsB _) (cB 89 rfl) (fun _ hb=>qiU ((h.ext hb).old ha1) hr9) rfl rfl rfl rfl (zd1 rfl (dN h fun w10 h=>qr rfl hF ?_ ?_))<;>intro hF
   ·refine X0 4 rfl ?_
    obtain ⟨y2,hy2,hF,he2,b2,_,q2,cs4,hp2,hq2,rfl,hc5⟩:=(h.sl 0 rfl).1.ix hF
    refine zx hp2 hq2 ⟨he2.1,qY he2.2.1 (h.sl 0 rfl).2⟩ rfl (zc 0 hc5 rfl (qp qa [.tmp 56] _ ([y2]:List Int) h rfl rfl rfl rfl rfl rfl rfl rfl rfl ⟨rfl,trivial⟩ rfl fun w11 p9 S8 h=>?_))
    obtain ⟨x2,hx1,hF⟩:=qe hF
    obtain ⟨g1,hx1⟩:=qx hx1
    refine qaq qa 2 h rfl (h.sl 0 rfl).1 (h.sl 0 rfl).2 rfl rfl rfl rfl rfl rfl rfl rfl rfl g1 hx1 rfl fun w12 p10 k8 S9 h=>X0 8 rfl ?_
    replace h:=h.pick [1,2,3] rfl
    exact rK ⟨_,_,_,_,_,_,hF,rfl,h⟩ rfl
   exact X0 7 rfl (rK ⟨_,_,_,_,_,_,hF,rfl,h⟩ rfl)
  refine qw rfl ?_
  obtain rfl:=qb hF;replace hF:=hK1
  refine X0 5 rfl ?_
  obtain rfl:=qb hF
  exact rO 1 h rfl ⟨rfl,trivial⟩
 refine X1 8 0 h rfl (qr rfl hF ?_ ?_)<;>intro hF
 ·refine X0 5 rfl ?_
  obtain rfl:=qb hF
  exact rO 2 h rfl ⟨rfl,trivial⟩
 refine X2 6 3 0 h rfl ?_
 have hg1:Rg (old w) w (old w) w:=.start (fun _ h=>h)
 obtain ⟨r8,hr11,hF⟩:=qe hF
 refine qfI r8 hg1 h (cB 90 rfl) (qhl (hg1.atB h) (hg1.inBR h ha1) hr11) rfl rfl rfl rfl fun w13 us3 S10 h hv4=>?_
 obtain ⟨cs5,rfl,hr12⟩:=qeY hv4
 have hr13:=hr12
 obtain ⟨p11,k9,p12,k10,p13,k11,rfl,s6,s7,s8⟩:=qE hr12
 replace h:=h.grpAdd 0 rfl hr13
 refine qy qa h rfl rfl rfl fun w14 bb3 h=>zs 0 h rfl fun w15 h=>X0 6 rfl ?_
 obtain ⟨o2,hF,hK2⟩:=qe hF
 refine qq ?_
 replace h:=h.pick [0,1,2,4,5] rfl
 refine rL (fun m e w'=>∃ (i2:Int),qcM a_0 r2 r8 m i2=some o2∧e=[(2,.pointer (some ⟨bb1,0,none⟩)),(5,.slice p6 0 0),(6,.pointer (some ⟨bb2,0,none⟩)),(11,.pointer (some ⟨bb3,0,none⟩)),(12,.int .i64 i2)]∧SH w w' [Ch.box bb3 (qt r8 p11 p12 p13 k9 k10 k11) 128,Ch.grp (old w) S10 [fct (r8:qk) [.string r8.Ar,.int .i64 r8.Aq,.slice p11 r8.Ap.length k9,.slice p12 r8.Am.length k10,.slice p13 r8.Az.length k11,.int .i64 r8.Bm,.int .i64 r8.Bi]],Ch.box bb2 (qfR r2) 113,Ch.own S1 (([]:List Int):List Int) [.slice p6 0 0],Ch.box bb1 (qT a_0 p1 p2 p3 p4 p5 k1 k2 k3 k4 k5) 34]) n ⟨_,hF,rfl,h⟩ rfl ?_
 rintro m2 e2 w16 ⟨i2,hF,rfl,h⟩
 rcases m2 with _|m2
 ·cases hF
 refine X1 9 0 h rfl (qr rfl hF ?_ ?_)<;>intro hF
 ·refine X0 4 rfl ?_
  obtain ⟨KF1,hKF1,o3,hF,hK3⟩:=bindE hF
  refine qb5 (fun e w'=>∃ (b3:Bool),KF1 b3=some o2∧e=[(2,.pointer (some ⟨bb1,0,none⟩)),(5,.slice p6 0 0),(6,.pointer (some ⟨bb2,0,none⟩)),(11,.pointer (some ⟨bb3,0,none⟩)),(12,.int .i64 i2),(92,.bool b3)]∧SH w w' [Ch.box bb3 (qt r8 p11 p12 p13 k9 k10 k11) 128,Ch.grp (old w) S10 [fct (r8:qk) [.string r8.Ar,.int .i64 r8.Aq,.slice p11 r8.Ap.length k9,.slice p12 r8.Am.length k10,.slice p13 r8.Az.length k11,.int .i64 r8.Bm,.int .i64 r8.Bi]],Ch.box bb2 (qfR r2) 113,Ch.own S1 (([]:List Int):List Int) [.slice p6 0 0],Ch.box bb1 (qT a_0 p1 p2 p3 p4 p5 k1 k2 k3 k4 k5) 34]) ?_ ?_
  ·refine rD (Y1 2 0 h rfl ?_)
   refine zd1 rfl ?_
   obtain ⟨y3,hy3,hF,he3,b4,_,q3,cs6,hp3,hq3,hr15,hc9⟩:=(qfC (h.grpS 1 0 rfl rfl)).2.1.1.ix hF
   have hr16:=hr15
   obtain ⟨p15,k12,p16,k13,rfl,s9,s10⟩:=qaj hr15
   replace h:=h.grpAdd 1 rfl hr16
   refine zdx hp3 hq3 ⟨he3.1,qY he3.2.1 (qfC (h.grpS 1 1 rfl rfl)).2.1.2⟩ rfl (zd1 rfl (zdc 1 hc9 rfl (Y1 2 2 h rfl ?_)))
   refine zd2 rfl (qaT (t:=84) hF rfl ?_ ?_)<;>intro hF
   ·refine Y1 4 0 h rfl ?_
    refine Y0 3 rfl ?_
    obtain ⟨y4,hy4,hF,he4,b5,_,q4,cs7,hp4,hq4,hr17,hc10⟩:=(qfC (h.grpS 1 1 rfl rfl)).2.1.1.ix hF
    have hr18:=hr17
    obtain ⟨p17,k14,p18,k15,rfl,s11,s12⟩:=qaj hr17
    replace h:=h.grpAdd 1 rfl hr18
    refine zdx hp4 hq4 ⟨he4.1,qY he4.2.1 (qfC (h.grpS 1 2 rfl rfl)).2.1.2⟩ rfl (Y0 3 rfl (zdc 0 hc10 rfl (Y0 3 rfl (dN h fun w19 h=>?_))))
    replace h:=h.grpKeep [2] 1 rfl
    obtain rfl:=qb hF
    exact rG ⟨_,hK3,rfl,h⟩ rfl
   refine Y0 8 rfl (dN h fun w20 h=>?_)
   replace h:=h.grpKeep [1] 1 rfl
   obtain rfl:=qb hF
   exact rG ⟨_,hK3,rfl,h⟩ rfl
  rintro e3 w21 ⟨b3,hF,rfl,h⟩
  subst hKF1
  refine qr rfl hF ?_ ?_<;>intro hF
  ·refine X3 10 4 2 0 h rfl (zcI h hF (qju (qaL _ (h.oldS (s2.mono hg1.old)) (h.oldS (s3.mono hg1.old)) (h.oldS (s4.mono hg1.old)))) rfl fun r9 w17 h hF=>qp qa [.tmp 101] _ ([r9]:List Int) h rfl rfl rfl rfl rfl rfl rfl rfl rfl ⟨rfl,trivial⟩ rfl fun w18 p14 S11 h=>X0 2 rfl ?_)
   replace h:=h.pick [0,1,3,4,5] rfl
   obtain rfl:=qb hF;replace hF:=hK2
   obtain rfl:=qb hF
   exact rO 0 h rfl ⟨rfl,trivial⟩
  exact X0 7 rfl (rK ⟨_,hF,rfl,h⟩ rfl)
 refine qw rfl ?_
 obtain rfl:=qb hF;replace hF:=hK2
 refine X0 5 rfl ?_
 replace h:=h.pick [0,2,3,4] rfl
 obtain rfl:=qb hF
 exact rO 2 h rfl ⟨rfl,trivial⟩
def qdd (_:Nat) (a:qS):Option (List qI) :=
 bif (a.Aq==2) then some ([(⟨0,0⟩:qI),(⟨0,1⟩:qI)]:List qI) else
 bif (a.Aq==3) then some ([(⟨1,0⟩:qI),(⟨1,1⟩:qI)]:List qI) else
 bif (a.Aq != 1) then some [] else
 bif (a.Bg==1) then some ([(⟨0,0⟩:qI),(⟨1,1⟩:qI)]:List qI) else
 bif (a.Bg==2) then some ([(⟨0,1⟩:qI),(⟨1,0⟩:qI)]:List qI) else
 some ([(⟨0,0⟩:qI),(⟨0,1⟩:qI),(⟨1,0⟩:qI),(⟨1,1⟩:qI)]:List qI)
theorem qg2 {a:qS} (ha1:GoT.R w (old w) a cs1) {r:(List qI)} (hF:qdd n a=some r):RetV Tryz.prog 125 [GoT.v qS cs1] w r:=by
 obtain ⟨p1,k1,p2,k2,rfl,s1,s2⟩:=qaj ha1
 refine zV 44 Tryz.func125 rfl fun h=>zSR (qV h rfl rfl fun w1 bb1 h=>X0 4 rfl (r_v (qd3 qa [0,1] [.const (.int .i64 (0)),.const (.int .i64 (0))] rfl rfl rfl rfl rfl rfl rfl rfl rfl) rfl (r_v (qd3 qa [0,1] [.const (.int .i64 (1)),.const (.int .i64 (1))] rfl rfl rfl rfl rfl rfl rfl rfl rfl) rfl (qp qa [.tmp 5,.tmp 6] _ ([(⟨0,0⟩:qI),(⟨1,1⟩:qI)]:List qI) h rfl rfl rfl rfl rfl rfl rfl rfl rfl ⟨(qbO (⟨0,0⟩:qI)),(qbO (⟨1,1⟩:qI)),trivial⟩ rfl fun w2 p3 S1 h=>X0 4 rfl (r_v (qd3 qa [0,1] [.const (.int .i64 (0)),.const (.int .i64 (1))] rfl rfl rfl rfl rfl rfl rfl rfl rfl) rfl (r_v (qd3 qa [0,1] [.const (.int .i64 (1)),.const (.int .i64 (0))] rfl rfl rfl rfl rfl rfl rfl rfl rfl) rfl (qp qa [.tmp 8,.tmp 9] _ ([(⟨0,1⟩:qI),(⟨1,0⟩:qI)]:List qI) h rfl rfl rfl rfl rfl rfl rfl rfl rfl ⟨(qbO (⟨0,1⟩:qI)),(qbO (⟨1,0⟩:qI)),trivial⟩ rfl fun w3 p4 S2 h=>X1 11 2 h rfl (qr rfl hF ?_ ?_))))))))<;>intro hF
 ·refine zSR (r_v (qd3 qa [0,1] [.const (.int .i64 (0)),.const (.int .i64 (0))] rfl rfl rfl rfl rfl rfl rfl rfl rfl) rfl (r_v (qd3 qa [0,1] [.const (.int .i64 (0)),.const (.int .i64 (1))] rfl rfl rfl rfl rfl rfl rfl rfl rfl) rfl (qp qa [.tmp 15,.tmp 16] _ ([(⟨0,0⟩:qI),(⟨0,1⟩:qI)]:List qI) h rfl rfl rfl rfl rfl rfl rfl rfl rfl ⟨(qbO (⟨0,0⟩:qI)),(qbO (⟨0,1⟩:qI)),trivial⟩ rfl fun w4 p5 S3 h=>X0 2 rfl ?_)))
  obtain rfl:=qb hF
  exact rO 0 h rfl ⟨rfl,trivial⟩
 refine X1 7 2 h rfl (qr rfl hF ?_ ?_)<;>intro hF
 ·refine zSR (r_v (qd3 qa [0,1] [.const (.int .i64 (1)),.const (.int .i64 (0))] rfl rfl rfl rfl rfl rfl rfl rfl rfl) rfl (r_v (qd3 qa [0,1] [.const (.int .i64 (1)),.const (.int .i64 (1))] rfl rfl rfl rfl rfl rfl rfl rfl rfl) rfl (qp qa [.tmp 22,.tmp 23] _ ([(⟨1,0⟩:qI),(⟨1,1⟩:qI)]:List qI) h rfl rfl rfl rfl rfl rfl rfl rfl rfl ⟨(qbO (⟨1,0⟩:qI)),(qbO (⟨1,1⟩:qI)),trivial⟩ rfl fun w5 p6 S4 h=>X0 2 rfl ?_)))
  obtain rfl:=qb hF
  exact rO 0 h rfl ⟨rfl,trivial⟩
 refine X1 7 2 h rfl (qr rfl hF ?_ ?_)<;>intro hF
 ·refine X0 4 rfl ?_
  obtain rfl:=qb hF
  exact qa9 qa (ρ:=(List qI)) [GoT.v (List qI) [.slice none 0 0]] h ⟨rfl,trivial⟩ (PV.done h (qbA qfA))
 refine X1 7 2 h rfl (qr rfl hF ?_ ?_)<;>intro hF
 ·refine X0 5 rfl ?_
  obtain rfl:=qb hF
  exact rO 1 h rfl ⟨rfl,trivial⟩
 refine X1 7 2 h rfl (qr rfl hF ?_ ?_)<;>intro hF
 ·refine X0 5 rfl ?_
  obtain rfl:=qb hF
  exact rO 0 h rfl ⟨rfl,trivial⟩
 refine X0 4 rfl (r_v (qd3 qa [0,1] [.const (.int .i64 (0)),.const (.int .i64 (0))] rfl rfl rfl rfl rfl rfl rfl rfl rfl) rfl (r_v (qd3 qa [0,1] [.const (.int .i64 (0)),.const (.int .i64 (1))] rfl rfl rfl rfl rfl rfl rfl rfl rfl) rfl (r_v (qd3 qa [0,1] [.const (.int .i64 (1)),.const (.int .i64 (0))] rfl rfl rfl rfl rfl rfl rfl rfl rfl) rfl (r_v (qd3 qa [0,1] [.const (.int .i64 (1)),.const (.int .i64 (1))] rfl rfl rfl rfl rfl rfl rfl rfl rfl) rfl (qp qa [.tmp 39,.tmp 40,.tmp 41,.tmp 42] _ ([(⟨0,0⟩:qI),(⟨0,1⟩:qI),(⟨1,0⟩:qI),(⟨1,1⟩:qI)]:List qI) h rfl rfl rfl rfl rfl rfl rfl rfl rfl ⟨(qbO (⟨0,0⟩:qI)),(qbO (⟨0,1⟩:qI)),(qbO (⟨1,0⟩:qI)),(qbO (⟨1,1⟩:qI)),trivial⟩ rfl fun w6 p7 S5 h=>X0 2 rfl ?_)))))
 obtain rfl:=qb hF
 exact rO 0 h rfl ⟨rfl,trivial⟩
def qa3 (first:Int) (i1:Int) (y2:qS) (r1:(List qI)):Nat→(List qaD)→Int→Option ((List qaD) × Int)
 | 0,_,_=>none
 | n+1,x2,i2 =>
  bif decide (i2<(r1.length:Int)) then
   (idx r1 i2).bind fun y3 =>
   (appS x2 ([(⟨W64 ((W64 (2*(W64 (first+y2.Ay))))+y3.e0),W64 ((W64 (2*(W64 (first+y2.To))))+y3.e1),1,i1⟩:qaD)]:List qaD)).bind fun x3 =>
   qa3 first i1 y2 r1 n x3 (W64 (i2+1))
  else
   some (x2,i2)
def qa0 (first:Int) (y1:qk):Nat→(List qaD)→Int→Option ((List qaD) × Int)
 | 0,_,_=>none
 | n+1,x1,i1 =>
  bif decide (i1<(y1.Am.length:Int)) then
   (idx y1.Am i1).bind fun y2 =>
   (qdd n y2).bind fun r1 =>
   (qa3 first i1 y2 r1 n x1 0).bind fun o=>match o with
   | (x2,_) =>
    qa0 first y1 n x2 (W64 (i1+1))
  else
   some (x1,i1)
def qdf (n:Nat) (b:qd) (x:ql) (first:Int):Option (List qaD) :=
 (idx b.Ac.Ak x.Av).bind fun y1 =>
 (qa0 first y1 n ([]:List qaD) 0).bind fun o=>match o with
 | (x1,_) =>
  some x1
theorem qg0 {b:qd} {x:ql} {first:Int} (ha1:GoT.R w (old w) b cs1) (ha2:GoT.R w (old w) x cs2) {r:(List qaD)} (hF:qdf n b x first=some r):RetV Tryz.prog 72 [GoT.v qd cs1,GoT.v ql cs2,.int .i64 first] w r:=by
 obtain ⟨p1,k1,p2,k2,p3,k3,p4,k4,p5,k5,rfl,s1,s2,s3,s4,s5⟩:=qP ha1
 obtain ⟨p6,k6,rfl,s6⟩:=qai ha2
 refine zV 57 Tryz.func72 rfl fun h=>zSR (qV h rfl rfl fun w1 bb1 h=>qV h rfl rfl fun w2 bb2 h=>X2 14 1 0 h rfl ?_)
 obtain ⟨y1,hy1,hF,he1,b1,_,q1,cs3,hp1,hq1,hr1,hc1⟩:=s1.ix hF
 obtain ⟨p7,k7,p8,k8,p9,k9,rfl,s7,s8,s9⟩:=qE hr1
 refine zxe hp1 hq1 he1 rfl (zp1 rfl (zc 3 (hc1.below h.below) rfl (X0 3 rfl ?_)))
 replace h:=h.nil (α:=qaD)
 obtain ⟨o1,hF,hK1⟩:=qe hF
 refine qq ?_
 replace h:=h.pick [0] rfl
 refine rL (fun m e w'=>∃ (S1:Nat→Prop) (p10:Option Addr) (ln1:Nat) (k10:Nat) (x1:(List qaD)) (i1:Int),qa0 first y1 m x1 i1=some o1∧e=[(2,.int .i64 first),(7,.slice p10 ln1 k10),(19,.slice p8 y1.Am.length k8),(20,.int .i64 (y1.Am.length:Int)),(21,.int .i64 i1)]∧SH w w' [Ch.own S1 (x1:List qaD) [.slice p10 ln1 k10]]) n ⟨_,_,_,_,_,_,hF,rfl,h⟩ rfl ?_
 rintro m1 e1 w3 ⟨S1,p10,ln1,k10,x1,i1,hF,rfl,h⟩
 obtain rfl:=(h.sl 0 rfl).2
 rcases m1 with _|m1
 ·cases hF
 refine X0 5 rfl (qr rfl hF ?_ ?_)<;>intro hF
 ·refine X0 6 rfl ?_
  obtain ⟨y2,hy2,hF,he2,b2,_,q2,cs4,hp2,hq2,hr2,hc3⟩:=s8.ix hF
  obtain ⟨p11,k11,p12,k12,rfl,s10,s11⟩:=qaj hr2
  refine zxe hp2 hq2 he2 rfl (zc 0 (hc3.below h.below) rfl (qy qa h rfl rfl rfl fun w4 bb3 h=>zp1 rfl (zs 0 h rfl fun w5 h=>X1 4 0 h rfl (zcL h hF (qg2 (qfL y2 (h.oldS s10) (h.oldS s11))) rfl fun r1 w6 S2 p13 k13 h hF=>X0 3 rfl ?_))))
  obtain ⟨o2,hF,hK2⟩:=qe hF
  refine qq (rL (fun m e w'=>∃ (S3:Nat→Prop) (p14:Option Addr) (ln2:Nat) (k14:Nat) (x2:(List qaD)) (i2:Int),qa3 first i1 y2 r1 m x2 i2=some o2∧e=[(2,.int .i64 first),(7,.slice p14 ln2 k14),(8,.int .i64 i1),(9,.pointer (some ⟨bb3,0,none⟩)),(19,.slice p8 y1.Am.length k8),(20,.int .i64 (y1.Am.length:Int)),(21,.int .i64 i1),(27,.slice p13 r1.length k13),(28,.int .i64 (r1.length:Int)),(29,.int .i64 i2)]∧SH w w' [Ch.own S2 (r1:List qI) [.slice p13 r1.length k13],Ch.box bb3 (qeo y2 p11 p12 k11 k12) 133,Ch.own S3 (x2:List qaD) [.slice p14 ln2 k14]]) m1 ⟨_,_,_,_,_,_,hF,rfl,h⟩ rfl ?_)
  rintro m2 e2 w7 ⟨S3,p14,ln2,k14,x2,i2,hF,rfl,h⟩
  obtain rfl:=(h.sl 2 rfl).2
  rcases m2 with _|m2
  ·cases hF
  refine X0 5 rfl (qr rfl hF ?_ ?_)<;>intro hF
  ·refine zKSBSR ?_
   obtain ⟨y3,hy3,hF,he3,b3,_,q3,cs5,hp3,hq3,hr4,hc5⟩:=(h.sl 0 rfl).1.ix hF
   obtain rfl:=qk8 hr4
   refine zx hp3 hq3 ⟨he3.1,qY he3.2.1 (h.sl 0 rfl).2⟩ rfl (zc 0 hc5 rfl (qy qa h rfl rfl rfl fun w8 bb4 h=>zs 0 h rfl fun w9 h=>X1 8 2 h rfl (r_v (qn8 (iv:=0) qa rfl rfl (by decide) ⟨rfl,rfl⟩ rfl rfl) rfl (X2 7 0 2 h rfl (r_v (qn8 (iv:=1) qa rfl rfl (by decide) ⟨rfl,rfl⟩ rfl rfl) rfl (X1 3 0 h rfl (r_v (qay qa [0,1,2,3] [.tmp 41,.tmp 49,.const (.int .i64 (1)),.tmp 50] rfl rfl rfl rfl rfl rfl rfl rfl) rfl (qp qa [.tmp 51] _ ([(⟨W64 ((W64 (2*(W64 (first+y2.Ay))))+y3.e0),W64 ((W64 (2*(W64 (first+y2.To))))+y3.e1),1,i1⟩:qaD)]:List qaD) h rfl rfl rfl rfl rfl rfl rfl rfl rfl ⟨(qkH (⟨W64 ((W64 (2*(W64 (first+y2.Ay))))+y3.e0),W64 ((W64 (2*(W64 (first+y2.To))))+y3.e1),1,i1⟩:qaD)),trivial⟩ rfl fun w10 p15 S4 h=>?_))))))))
   obtain ⟨x3,hx1,hF⟩:=qe hF
   obtain ⟨g1,hx1⟩:=qx hx1
   refine qaq qa 4 h rfl (h.sl 0 rfl).1 (h.sl 0 rfl).2 rfl rfl rfl rfl rfl rfl rfl rfl rfl g1 hx1 rfl fun w11 p16 k15 S5 h=>X0 7 rfl ?_
   replace h:=h.pick [2,3,4] rfl
   exact rK ⟨_,_,_,_,_,_,hF,rfl,h⟩ rfl
  refine qw rfl ?_
  obtain rfl:=qb hF;replace hF:=hK2
  refine X0 5 rfl ?_
  replace h:=h.pick [2] rfl
  exact rK ⟨_,_,_,_,_,_,hF,rfl,h⟩ rfl
 refine qw rfl ?_
 obtain rfl:=qb hF;replace hF:=hK1
 refine X0 5 rfl ?_
 obtain rfl:=qb hF
 exact rO 0 h rfl ⟨rfl,trivial⟩
def qeZ (_:Nat) (s:(List Int)):Option (List Int) :=
 appS ([]:List Int) s
theorem qho {s:(List Int)} (ha1:GoT.R w (old w) s cs1) {r:(List Int)} (hF:qeZ n s=some r):RetV Tryz.prog 102 [GoT.v (List Int) cs1] w r:=by
 obtain ⟨p,k,rfl,s1⟩:=ha1
 obtain ⟨g1,hx⟩:=qx (show appS ([]:List Int) s=some r from hF)
 cases p with
 | none =>
  obtain rfl:=qlc s1
  obtain rfl:[]=r:=hx
  exact zV 8 Tryz.func102 rfl fun h=>X0 8 rfl (r_v (qlL qa rfl rfl rfl rfl rfl) rfl (qbs (qdR rfl rfl (X0 4 rfl (qa9 qa (ρ:=(List Int)) [GoT.v (List Int) [.slice none 0 0]] h ⟨rfl,trivial⟩ (PV.done h (qbA qfA)))))))
 | some a =>
  refine zV 8 Tryz.func102 rfl fun h=>X0 8 rfl (r_v (qlL qa rfl rfl rfl rfl rfl) rfl (qbs (qdx rfl rfl (zKSR (qp qa [] _ ([]:List Int) h rfl rfl rfl rfl rfl rfl rfl rfl rfl trivial rfl fun w1 p1 S1 h=>zp1 rfl (qn9 qa 0 h rfl (h.oldS s1) rfl rfl rfl rfl rfl rfl rfl rfl rfl rfl g1 rfl fun w2 p2 k2 S2 h=>?_))))))
  rw [hx] at h
  exact X0 2 rfl (qa9 qa (ρ:=(List Int)) [GoT.v (List Int) [.slice p2 (([]:List Int).length+s.length) k2]] h ⟨rfl,trivial⟩ (PV.done h (qbA (qJ 0 h rfl))))
def qav (net:Int) (r1:(List Tplace)):Nat→(List Int)→Int→Option ((List Int) × Int)
 | 0,_,_=>none
 | n+1,x1,i1 =>
  bif decide (i1<(r1.length:Int)) then
   (idx r1 i1).bind fun y1 =>
   bif (y1.net==net) then
    bif (!y1.drives) then
     (appS x1 ([i1]:List Int)).bind fun x2 =>
     qav net r1 n x2 (W64 (i1+1))
    else
     qav net r1 n x1 (W64 (i1+1))
   else
    qav net r1 n x1 (W64 (i1+1))
  else
   some (x1,i1)
def qeh (n:Nat) (d:qc) (net:Int):Option (List Int) :=
 (qbj n d).bind fun r1 =>
 (qav net r1 n ([]:List Int) 0).bind fun o=>match o with
 | (x1,_) =>
  some x1
theorem qhA {d:qc} {net:Int} (ha1:GoT.R w (old w) d cs1) {r:(List Int)} (hF:qeh n d net=some r):RetV Tryz.prog 126 [GoT.v qc cs1,.int .i64 net] w r:=by
 obtain ⟨p1,k1,p2,k2,p3,k3,rfl,s1,s2,s3⟩:=qak ha1
 refine zV 31 Tryz.func126 rfl fun h=>zSR (qV h rfl rfl fun w1 bb1 h=>X1 10 0 h rfl (zcL h hF (qcY (h.old ha1)) rfl fun r1 w2 S1 p4 k4 h hF=>X0 3 rfl ?_))
 replace h:=h.nil (α:=Int)
 obtain ⟨o1,hF,hK1⟩:=qe hF
 refine qq ?_
 replace h:=h.pick [0,1] rfl
 refine rL (fun m e w'=>∃ (S2:Nat→Prop) (p5:Option Addr) (ln1:Nat) (k5:Nat) (x1:(List Int)) (i1:Int),qav net r1 m x1 i1=some o1∧e=[(1,.int .i64 net),(5,.slice p5 ln1 k5),(9,.slice p4 r1.length k4),(10,.int .i64 (r1.length:Int)),(11,.int .i64 i1)]∧SH w w' [Ch.own S2 (x1:List Int) [.slice p5 ln1 k5],Ch.own S1 (r1:List Tplace) [.slice p4 r1.length k4]]) n ⟨_,_,_,_,_,_,hF,rfl,h⟩ rfl ?_
 rintro m1 e1 w3 ⟨S2,p5,ln1,k5,x1,i1,hF,rfl,h⟩
 obtain rfl:=(h.sl 0 rfl).2
 rcases m1 with _|m1
 ·cases hF
 refine X0 5 rfl (qr rfl hF ?_ ?_)<;>intro hF
 ·refine X0 6 rfl ?_
  obtain ⟨y1,hy1,hF,he1,b1,_,q1,cs2,hp1,hq1,hr2,hc2⟩:=(h.sl 1 rfl).1.ix hF
  obtain rfl:=qaA hr2
  refine zx hp1 hq1 ⟨he1.1,qY he1.2.1 (h.sl 1 rfl).2⟩ rfl (zc 0 hc2 rfl (qy qa h rfl rfl rfl fun w4 bb2 h=>zp1 rfl (zs 0 h rfl fun w5 h=>X1 8 0 h rfl (qh (t:=20) hF rfl ?_ ?_))))<;>intro hF
  ·refine X1 8 0 h rfl (qr rfl hF ?_ ?_)<;>intro hF
   ·refine X0 3 rfl (qp qa [.tmp 26] _ ([i1]:List Int) h rfl rfl rfl rfl rfl rfl rfl rfl rfl ⟨rfl,trivial⟩ rfl fun w6 p6 S3 h=>?_)
    obtain ⟨x2,hx1,hF⟩:=qe hF
    obtain ⟨g1,hx1⟩:=qx hx1
    refine qaq qa 2 h rfl (h.sl 0 rfl).1 (h.sl 0 rfl).2 rfl rfl rfl rfl rfl rfl rfl rfl rfl g1 hx1 rfl fun w7 p7 k6 S4 h=>X0 7 rfl ?_
    replace h:=h.pick [2,3] rfl
    exact rK ⟨_,_,_,_,_,_,hF,rfl,h⟩ rfl
   refine X0 6 rfl ?_
   replace h:=h.pick [1,2] rfl
   exact rK ⟨_,_,_,_,_,_,hF,rfl,h⟩ rfl
  refine X0 5 rfl (qdx rfl rfl (X0 6 rfl ?_))
  replace h:=h.pick [1,2] rfl
  exact rK ⟨_,_,_,_,_,_,hF,rfl,h⟩ rfl
 refine qw rfl ?_
 obtain rfl:=qb hF;replace hF:=hK1
 refine X0 5 rfl ?_
 obtain rfl:=qb hF
 exact rO 0 h rfl ⟨rfl,trivial⟩
def qee (_:Nat) (d:qc) (l:qi) (p:Tplace):Option Int :=
 bif decide (p.instance_<0) then some 0 else
 (idx d.Ab p.instance_).bind fun y1 =>
 (idx l.Ak y1.Av).bind fun y2 =>
 (idx y2.Ap p.pin).bind fun y3 =>
 some y3.Bb
theorem qhG {d:qc} {l:qi} {p:Tplace} (ha1:GoT.R w (old w) d cs1) (ha2:GoT.R w (old w) l cs2) (ha3:GoT.R w (old w) p cs3) {r:Int} (hF:qee n d l p=some r):RetV Tryz.prog 127 [GoT.v qc cs1,GoT.v qi cs2,GoT.v Tplace cs3] w r:=by
 obtain ⟨p1,k1,p2,k2,p3,k3,rfl,s1,s2,s3⟩:=qak ha1
 obtain ⟨p4,k4,rfl,s4⟩:=qbg ha2
 obtain rfl:=qaA ha3
 refine zV 27 Tryz.func127 rfl fun h=>zSR (qV h rfl rfl fun w1 bb1 h=>qV h rfl rfl fun w2 bb2 h=>qV h rfl rfl fun w3 bb3 h=>X1 9 0 h rfl (qr rfl hF ?_ ?_))<;>intro hF
 ·exact X0 4 rfl (ri h hF rfl)
 refine zKS (rD (Y1 2 1 h rfl ?_))
 refine Y1 2 2 h rfl ?_
 refine Y1 2 0 h rfl ?_
 obtain ⟨y1,hy1,hF,he1,b1,_,q1,cs4,hp1,hq1,hr1,hc2⟩:=s1.ix hF
 obtain ⟨p5,k5,rfl,s5⟩:=qai hr1
 refine zdxe hp1 hq1 he1 rfl (zd1 rfl (zdc 1 (hc2.below h.below) rfl ?_))
 obtain ⟨y2,hy2,hF,he2,b2,_,q2,cs5,hp2,hq2,hr2,hc3⟩:=s4.ix hF
 obtain ⟨p6,k6,p7,k7,p8,k8,rfl,s6,s7,s8⟩:=qE hr2
 refine zdxe hp2 hq2 he2 rfl (zd1 rfl (zdc 2 (hc3.below h.below) rfl (Y1 2 0 h rfl ?_)))
 obtain ⟨y3,hy3,hF,he3,b3,_,q3,cs6,hp3,hq3,hr3,hc4⟩:=s6.ix hF
 obtain rfl:=qcS hr3
 exact zdxe hp3 hq3 he3 rfl (zd1 rfl (zdc 2 (hc4.below h.below) rfl (zd1 rfl (dN h fun w4 h=>ri h hF rfl))))
def qa1 (y1:qK):Nat→(List Int)→Int→Option ((List Int) × Int)
 | 0,_,_=>none
 | n+1,x2,i2 =>
  bif decide (i2 > 0) then
   (idx y1.Aj i2).bind fun y7 =>
   (idx x2 y7).bind fun y8 =>
   (idx x2 i2).bind fun y9 =>
   (idx x2 y7).bind fun _ =>
   qa1 y1 n (setS x2 y7 (W64 (y8+y9))) (W64 (i2-1))
  else
   some (x2,i2)
def qa2 (a_0:qd) (y1:qK) (r2:(List Tplace)) (r3:(List Int)):Nat→(List Int)→Int→Option ((List Int) × Int)
 | 0,_,_=>none
 | n+1,x1,i1 =>
  bif decide (i1<(r3.length:Int)) then
   (idx r3 i1).bind fun y2 =>
   (idx y1.As i1).bind fun y3 =>
   (idx x1 y3).bind fun y4 =>
   (idx r2 y2).bind fun y5 =>
   (qee n (⟨a_0.Aa.Ab,a_0.Aa.Ai,a_0.Aa.Af⟩:qc) (⟨a_0.Ac.Ak⟩:qi) y5).bind fun r4 =>
   (idx x1 y3).bind fun _ =>
   qa2 a_0 y1 r2 r3 n (setS x1 y3 (W64 (y4+r4))) (W64 (i1+1))
  else
   some (x1,i1)
def qb9 (n:Nat) (a_0:qd) (a_1:Int):Option (List Int) :=
 (idx a_0.Ah a_1).bind fun y1 =>
 (qeZ n y1.Bb).bind fun r1 =>
 (qbj n (⟨a_0.Aa.Ab,a_0.Aa.Ai,a_0.Aa.Af⟩:qc)).bind fun r2 =>
 (qeh n (⟨a_0.Aa.Ab,a_0.Aa.Ai,a_0.Aa.Af⟩:qc) a_1).bind fun r3 =>
 (qa2 a_0 y1 r2 r3 n r1 0).bind fun o=>match o with
 | (x1,_) =>
  (qa1 y1 n x1 (W64 ((r1.length:Int)-1))).bind fun o=>match o with
  | (x2,_) =>
   some x2
theorem qdD {a_0:qd} {a_1:Int} (ha1:GoT.R w (old w) a_0 cs1) {r:(List Int)} (hF:qb9 n a_0 a_1=some r):RetV Tryz.prog 74 [GoT.v qd cs1,.int .i64 a_1] w r:=by
 obtain ⟨p1,k1,p2,k2,p3,k3,p4,k4,p5,k5,rfl,s1,s2,s3,s4,s5⟩:=qP ha1
 refine zV 74 Tryz.func74 rfl fun h=>zSR (qV h rfl rfl fun w1 bb1 h=>X1 7 0 h rfl ?_)
 obtain ⟨y1,hy1,hF,he1,b1,_,q1,cs2,hp1,hq1,hr1,hc1⟩:=s5.ix hF
 obtain ⟨p6,k6,p7,k7,p8,k8,p9,k9,rfl,s6,s7,s8,s9⟩:=qbt hr1
 refine zxe hp1 hq1 he1 rfl (zc 0 (hc1.below h.below) rfl (qy qa h rfl rfl rfl fun w2 bb2 h=>zs 0 h rfl fun w3 h=>X1 5 0 h rfl (zcL h hF (qho ⟨_,_,rfl,(h.oldS s8)⟩) rfl fun r1 w4 S1 p10 k10 h hF=>X1 6 2 h rfl (zcL h hF (qcY (qaL _ (h.oldS s2) (h.oldS s3) (h.oldS s4))) rfl fun r2 w5 S2 p11 k11 h hF=>X1 8 3 h rfl (zcL h hF (qhA (qaL _ (h.oldS s2) (h.oldS s3) (h.oldS s4))) rfl fun r3 w6 S3 p12 k12 h hF=>X0 3 rfl ?_)))))
 obtain ⟨o1,hF,hK1⟩:=qe hF
 refine qq (rL (fun m e w'=>∃ (x1:(List Int)) (i1:Int),qa2 a_0 y1 r2 r3 m x1 i1=some o1∧e=[(2,.pointer (some ⟨bb1,0,none⟩)),(5,.pointer (some ⟨bb2,0,none⟩)),(6,.slice p10 r1.length k10),(7,.slice p11 r2.length k11),(25,.slice p12 r3.length k12),(26,.int .i64 (r3.length:Int)),(27,.int .i64 i1)]∧SH w w' [Ch.own S3 (r3:List Int) [.slice p12 r3.length k12],Ch.own S2 (r2:List Tplace) [.slice p11 r2.length k11],Ch.own S1 (x1:List Int) [.slice p10 r1.length k10],Ch.box bb2 (qef y1 p6 p7 p8 p9 k6 k7 k8 k9) 118,Ch.box bb1 (qT a_0 p1 p2 p3 p4 p5 k1 k2 k3 k4 k5) 34]) n ⟨_,_,hF,rfl,h⟩ rfl ?_)
 rintro m1 e1 w7 ⟨x1,i1,hF,rfl,h⟩
 rcases m1 with _|m1
 ·cases hF
 refine X0 5 rfl (qr rfl hF ?_ ?_)<;>intro hF
 ·refine X0 6 rfl ?_
  obtain ⟨y2,hy2,hF,he2,b2,_,q2,cs3,hp2,hq2,rfl,hc3⟩:=(h.sl 0 rfl).1.ix hF
  refine zx hp2 hq2 ⟨he2.1,qY he2.2.1 (h.sl 0 rfl).2⟩ rfl (zc 0 hc3 rfl (X0 3 rfl (rA [19] [1,2,3,4] h rfl fun w8 h=>M1 15 [0,1,2,3] 2 (h.pick [1,2,3,4] rfl) rfl ?_)))
  obtain ⟨y3,hy3,hF,he3,b3,_,q3,cs4,hp3,hq3,rfl,hc4⟩:=s9.ix hF
  refine Ae 4 31 hp3 hq3 he3 (h.pick [1,2,3,4] rfl) rfl (Al 5 63 0 hc4 (h.pick [1,2,3,4] rfl) rfl ?_)
  obtain ⟨y4,hy4,hF,he4,b4,_,q4,cs5,hp4,hq4,rfl,hc5⟩:=(h.sl 2 rfl).1.ix hF
  refine Ax 6 127 hp4 hq4 ⟨he4.1,qY he4.2.1 (h.sl 2 rfl).2⟩ (h.pick [1,2,3,4] rfl) rfl (Aw 7 255 (fun w' hw=>qfq qa (qcj (w1:=w) (S1:=fun _=>False) hw 1 rfl hy4 hp4 hq4 rfl) (j:=0) rfl rfl rfl) (h.pick [1,2,3,4] rfl) rfl ?_)
  refine M2 16383 [8,9,10,11,12,13] 3 3 (h.pick [1,2,3,4] rfl) rfl ?_
  obtain ⟨y5,hy5,hF,he5,b5,_,q5,cs6,hp5,hq5,hr8,hc6⟩:=(h.sl 1 rfl).1.ix hF
  obtain rfl:=qaA hr8
  refine Ax 14 32767 hp5 hq5 ⟨he5.1,qY he5.2.1 (h.sl 1 rfl).2⟩ (h.pick [1,2,3,4] rfl) rfl (Aw 15 65535 (fun w' hw=>qfq qa (qcj hw 0 rfl hy5 hp5 hq5 (qel (w:=w) (S:=fun _=>False) y5)) (j:=0) rfl rfl rfl) (h.pick [1,2,3,4] rfl) rfl ?_)
  refine Ao 16 131071 rfl (zcI h hF (qhG (qaL _ (h.oldS s2) (h.oldS s3) (h.oldS s4)) (qdU _ (h.oldS s1)) (qel y5)) rfl fun r4 w9 h hF=>G0 262143 [17] (h.pick [1,2,3,4] rfl) rfl ?_)
  obtain ⟨y6,hy6,hF,he6,b6,_,q6,cs7,hp6,hq6,rfl,hc7⟩:=(h.sl 2 rfl).1.ix hF
  exact Ax 18 524287 hp6 hq6 ⟨he6.1,qY he6.2.1 (h.sl 2 rfl).2⟩ (h.pick [1,2,3,4] rfl) rfl (Ao 19 1048575 rfl (qde qa 2 0 (W64 (y4+r4)) h rfl hy6 hp6 hq6 rfl hc7 rfl rfl rfl rfl rfl rfl rfl fun w10 h=>qen (fun hs=>absurd (hs 19 (by decide)) (by decide)) (Ad (X0 5 rfl (rK ⟨_,_,hF,rfl,h⟩ rfl)))))
 refine qw rfl ?_
 obtain rfl:=qb hF;replace hF:=hK1
 refine X0 8 rfl ?_
 obtain ⟨o2,hF,hK2⟩:=qe hF
 refine qq ?_
 replace h:=h.pick [2,3] rfl
 refine rL (fun m e w'=>∃ (x2:(List Int)) (i2:Int),qa1 y1 m x2 i2=some o2∧e=[(5,.pointer (some ⟨bb2,0,none⟩)),(6,.slice p10 r1.length k10),(10,.int .i64 i2)]∧SH w w' [Ch.own S1 (x2:List Int) [.slice p10 r1.length k10],Ch.box bb2 (qef y1 p6 p7 p8 p9 k6 k7 k8 k9) 118]) n ⟨_,_,hF,rfl,h⟩ rfl ?_
 rintro m2 e2 w11 ⟨x2,i2,hF,rfl,h⟩
 rcases m2 with _|m2
 ·cases hF
 refine X0 6 rfl (qr rfl hF ?_ ?_)<;>intro hF
 ·refine zKSB (rA [14] [0,1] h rfl fun w12 h=>M1 15 [0,1,2,3] 1 (h.pick [0,1] rfl) rfl ?_)
  obtain ⟨y7,hy7,hF,he7,b7,_,q7,cs8,hp7,hq7,rfl,hc9⟩:=s6.ix hF
  refine Ae 4 31 hp7 hq7 he7 (h.pick [0,1] rfl) rfl (Al 5 63 0 hc9 (h.pick [0,1] rfl) rfl ?_)
  obtain ⟨y8,hy8,hF,he8,b8,_,q8,cs9,hp8,hq8,rfl,hc10⟩:=(h.sl 0 rfl).1.ix hF
  refine Ax 6 127 hp8 hq8 ⟨he8.1,qY he8.2.1 (h.sl 0 rfl).2⟩ (h.pick [0,1] rfl) rfl (Aw 7 255 (fun w' hw=>qfq qa (qcj (w1:=w) (S1:=fun _=>False) hw 0 rfl hy8 hp8 hq8 rfl) (j:=0) rfl rfl rfl) (h.pick [0,1] rfl) rfl ?_)
  refine M0 1023 [8,9] (h.pick [0,1] rfl) rfl ?_
  obtain ⟨y9,hy9,hF,he9,b9,_,q9,cs10,hp9,hq9,rfl,hc11⟩:=(h.sl 0 rfl).1.ix hF
  refine Ax 10 2047 hp9 hq9 ⟨he9.1,qY he9.2.1 (h.sl 0 rfl).2⟩ (h.pick [0,1] rfl) rfl (Aw 11 4095 (fun w' hw=>qfq qa (qcj (w1:=w) (S1:=fun _=>False) hw 0 rfl hy9 hp9 hq9 rfl) (j:=0) rfl rfl rfl) (h.pick [0,1] rfl) rfl ?_)
  refine M0 8191 [12] (h.pick [0,1] rfl) rfl ?_
  obtain ⟨y10,hy10,hF,he10,b10,_,q10,cs11,hp10,hq10,rfl,hc12⟩:=(h.sl 0 rfl).1.ix hF
  exact Ax 13 16383 hp10 hq10 ⟨he10.1,qY he10.2.1 (h.sl 0 rfl).2⟩ (h.pick [0,1] rfl) rfl (Ao 14 32767 rfl (qde qa 0 0 (W64 (y8+y9)) h rfl hy10 hp10 hq10 rfl hc12 rfl rfl rfl rfl rfl rfl rfl fun w13 h=>qen (fun hs=>absurd (hs 14 (by decide)) (by decide)) (Ad (X0 6 rfl (rK ⟨_,_,hF,rfl,h⟩ rfl)))))
 refine qw rfl ?_
 obtain rfl:=qb hF;replace hF:=hK2
 refine X0 5 rfl ?_
 obtain rfl:=qb hF
 exact rO 0 h rfl ⟨rfl,trivial⟩
def qaU (y1:qK) (r1:(List Int)) (x1:(List Int)):Nat→(List Int)→Int→Option ((List Int) × Int)
 | 0,_,_=>none
 | n+1,x2,i1 =>
  bif decide (i1<(x1.length:Int)) then
   (idx y1.Aj i1).bind fun y2 =>
   (idx x2 y2).bind fun y3 =>
   (idx y1.Bc i1).bind fun y4 =>
   (idx r1 i1).bind fun y5 =>
   (idx x2 i1).bind fun _ =>
   qaU y1 r1 x1 n (setS x2 i1 (W64 (y3+(W64 (y4*y5))))) (W64 (i1+1))
  else
   some (x2,i1)
def qd9 (n:Nat) (b:qd) (net:Int):Option (List Int) :=
 (idx b.Ah net).bind fun y1 =>
 (qb9 n b net).bind fun r1 =>
 (mkS (r1.length:Int) (0:Int)).bind fun x1 =>
 (qaU y1 r1 x1 n x1 1).bind fun o=>match o with
 | (x2,_) =>
  some x2
theorem qgL {b:qd} {net:Int} (ha1:GoT.R w (old w) b cs1) {r:(List Int)} (hF:qd9 n b net=some r):RetV Tryz.prog 128 [GoT.v qd cs1,.int .i64 net] w r:=by
 obtain ⟨p1,k1,p2,k2,p3,k3,p4,k4,p5,k5,rfl,s1,s2,s3,s4,s5⟩:=qP ha1
 refine zV 49 Tryz.func128 rfl fun h=>zSR (qV h rfl rfl fun w1 bb1 h=>X0 3 rfl (rA [] [0] h rfl fun w2 h=>M1 7 [0,1,2] 0 (h.pick [0] rfl) rfl ?_))
 obtain ⟨y1,hy1,hF,he1,b1,_,q1,cs2,hp1,hq1,hr1,hc1⟩:=s5.ix hF
 obtain ⟨p6,k6,p7,k7,p8,k8,p9,k9,rfl,s6,s7,s8,s9⟩:=qbt hr1
 refine Ae 3 15 hp1 hq1 he1 (h.pick [0] rfl) rfl (Al 4 31 0 hc1 (h.pick [0] rfl) rfl (M1 127 [5,6] 0 (h.pick [0] rfl) rfl ?_))
 obtain ⟨r1,hr2,hF⟩:=qe hF
 refine qjD (fun e w'=>∃ (bb6:Nat) (S5:Nat→Prop) (p14:Option Addr) (k14:Nat),e=[(5,.pointer (some ⟨bb6,0,none⟩)),(6,.slice p14 r1.length k14)]∧SH w w' [Ch.box bb6 (qef y1 p6 p7 p8 p9 k6 k7 k8 k9) 118,Ch.own S5 (r1:List Int) [.slice p14 r1.length k14],Ch.box bb1 (qT b p1 p2 p3 p4 p5 k1 k2 k3 k4 k5) 34]) 0 (bits 11 2047) ?_ ?_
 ·intro K
  refine At 7 8 255 383 rfl ?_ ?_
  ·exact qiy r1 h (cB 74 rfl) (qdD (h.old ha1) hr2) rfl rfl rfl rfl fun w10 S4 p13 k13 h=>Ag (h.pick [1] rfl) (Ao 8 511 rfl (qy qa h rfl rfl rfl fun w11 bb5 h=>Ag (h.pick [2] rfl) (Ao 9 1023 rfl (zs 0 h rfl fun w12 h=>G0 2047 [10] (h.pick [2] rfl) rfl (qjl [(5,_),(6,_)] ⟨rfl,rfl,trivial⟩ (K _ _ ⟨_,_,_,_,rfl,h⟩))))))
  refine qy qa h rfl rfl rfl fun w10 bb5 h=>Ag (h.pick [1] rfl) (Ao 7 511 rfl (qiy r1 h (cB 74 rfl) (qdD (h.old ha1) hr2) rfl rfl rfl rfl fun w11 S4 p13 k13 h=>Ag (h.pick [2] rfl) (Ao 9 1023 rfl (zs 1 h rfl fun w12 h=>G0 2047 [10] (h.pick [2] rfl) rfl ?_))))
  replace h:=h.pick [1,0,2] rfl
  exact qjl [(5,_),(6,_)] ⟨rfl,rfl,trivial⟩ (K _ _ ⟨_,_,_,_,rfl,h⟩)
 rintro e2 w13 ⟨bb6,S5,p14,k14,rfl,h⟩
 refine Ad (X0 4 rfl ?_)
 obtain ⟨x1,hx1,hF⟩:=qe hF
 obtain ⟨g1,g2,hx1⟩:=qfU hx1
 refine qgy qa Int h rfl rfl rfl rfl rfl rfl rfl rfl rfl g1 g2 hx1 rfl fun w14 S6 p15 h=>X0 7 rfl ?_
 obtain ⟨o1,hF,hK1⟩:=qe hF
 refine qq ?_
 replace h:=h.pick [0,1,2] rfl
 refine rL (fun m e w'=>∃ (x2:(List Int)) (i1:Int),qaU y1 r1 x1 m x2 i1=some o1∧e=[(5,.pointer (some ⟨bb6,0,none⟩)),(6,.slice p14 r1.length k14),(7,.slice p15 x1.length x1.length),(8,.int .i64 i1)]∧SH w w' [Ch.own S6 (x2:List Int) [.slice p15 x1.length x1.length],Ch.box bb6 (qef y1 p6 p7 p8 p9 k6 k7 k8 k9) 118,Ch.own S5 (r1:List Int) [.slice p14 r1.length k14]]) n ⟨_,_,hF,rfl,h⟩ rfl ?_
 rintro m1 e3 w15 ⟨x2,i1,hF,rfl,h⟩
 rcases m1 with _|m1
 ·cases hF
 refine X0 8 rfl (qr rfl hF ?_ ?_)<;>intro hF
 ·refine zKSB (rA [22] [0,1,2] h rfl fun w16 h=>M1 63 [0,1,2,3,4,5] 1 (h.pick [0,1,2] rfl) rfl ?_)
  obtain ⟨y2,hy2,hF,he2,b2,_,q2,cs3,hp2,hq2,rfl,hc3⟩:=s6.ix hF
  refine Ae 6 127 hp2 hq2 he2 (h.pick [0,1,2] rfl) rfl (Al 7 255 0 hc3 (h.pick [0,1,2] rfl) rfl ?_)
  obtain ⟨y3,hy3,hF,he3,b3,_,q3,cs4,hp3,hq3,rfl,hc4⟩:=(h.sl 0 rfl).1.ix hF
  refine Ax 8 511 hp3 hq3 ⟨he3.1,qY he3.2.1 (h.sl 0 rfl).2⟩ (h.pick [0,1,2] rfl) rfl (Aw 9 1023 (fun w' hw=>qfq qa (qcj (w1:=w) (S1:=fun _=>False) hw 0 rfl hy3 hp3 hq3 rfl) (j:=0) rfl rfl rfl) (h.pick [0,1,2] rfl) rfl ?_)
  refine M1 8191 [10,11,12] 1 (h.pick [0,1,2] rfl) rfl ?_
  obtain ⟨y4,hy4,hF,he4,b4,_,q4,cs5,hp4,hq4,rfl,hc5⟩:=s7.ix hF
  refine Ae 13 16383 hp4 hq4 he4 (h.pick [0,1,2] rfl) rfl (Al 14 32767 0 hc5 (h.pick [0,1,2] rfl) rfl (M0 131071 [15,16] (h.pick [0,1,2] rfl) rfl ?_))
  obtain ⟨y5,hy5,hF,he5,b5,_,q5,cs6,hp5,hq5,rfl,hc6⟩:=(h.sl 2 rfl).1.ix hF
  refine Ax 17 262143 hp5 hq5 ⟨he5.1,qY he5.2.1 (h.sl 2 rfl).2⟩ (h.pick [0,1,2] rfl) rfl (Aw 18 524287 (fun w' hw=>qfq qa (qcj (w1:=w) (S1:=fun _=>False) hw 2 rfl hy5 hp5 hq5 rfl) (j:=0) rfl rfl rfl) (h.pick [0,1,2] rfl) rfl ?_)
  refine M0 2097151 [19,20] (h.pick [0,1,2] rfl) rfl ?_
  obtain ⟨y6,hy6,hF,he6,b6,_,q6,cs7,hp6,hq6,rfl,hc7⟩:=(h.sl 0 rfl).1.ix hF
  exact Ax 21 4194303 hp6 hq6 ⟨he6.1,qY he6.2.1 (h.sl 0 rfl).2⟩ (h.pick [0,1,2] rfl) rfl (Ao 22 8388607 rfl (qde qa 0 0 (W64 (y3+(W64 (y4*y5)))) h rfl hy6 hp6 hq6 rfl hc7 rfl rfl rfl rfl rfl rfl rfl fun w17 h=>qen (fun hs=>absurd (hs 22 (by decide)) (by decide)) (Ad (X0 6 rfl (rK ⟨_,_,hF,rfl,h⟩ rfl)))))
 refine qw rfl ?_
 obtain rfl:=qb hF;replace hF:=hK1
 refine X0 5 rfl ?_
 obtain rfl:=qb hF
 exact rO 0 h rfl ⟨rfl,trivial⟩
def qaN (r1:(List Int)) (y1:qK):Nat→(List Int)→Int→Option ((List Int) × Int)
 | 0,_,_=>none
 | n+1,x1,i1 =>
  bif decide (i1<(y1.As.length:Int)) then
   (idx y1.As i1).bind fun y2 =>
   (idx r1 y2).bind fun y3 =>
   (appS x1 ([y3]:List Int)).bind fun x2 =>
   qaN r1 y1 n x2 (W64 (i1+1))
  else
   some (x1,i1)
def qcz (n:Nat) (b:qd) (net:Int):Option (List Int) :=
 (qd9 n b net).bind fun r1 =>
 (idx b.Ah net).bind fun y1 =>
 (qaN r1 y1 n ([]:List Int) 0).bind fun o=>match o with
 | (x1,_) =>
  some x1
theorem qgs {b:qd} {net:Int} (ha1:GoT.R w (old w) b cs1) {r:(List Int)} (hF:qcz n b net=some r):RetV Tryz.prog 75 [GoT.v qd cs1,.int .i64 net] w r:=by
 obtain ⟨p1,k1,p2,k2,p3,k3,p4,k4,p5,k5,rfl,s1,s2,s3,s4,s5⟩:=qP ha1
 refine zV 32 Tryz.func75 rfl fun h=>zSR (qV h rfl rfl fun w1 bb1 h=>X1 6 0 h rfl (zcL h hF (qgL (h.old ha1)) rfl fun r1 w2 S1 p6 k6 h hF=>X1 12 1 h rfl ?_))
 obtain ⟨y1,hy1,hF,he1,b1,_,q1,cs2,hp1,hq1,hr2,hc1⟩:=s5.ix hF
 obtain ⟨p7,k7,p8,k8,p9,k9,p10,k10,rfl,s6,s7,s8,s9⟩:=qbt hr2
 refine zxe hp1 hq1 he1 rfl (zp1 rfl (zc 3 (hc1.below h.below) rfl (X0 3 rfl ?_)))
 replace h:=h.nil (α:=Int)
 obtain ⟨o1,hF,hK1⟩:=qe hF
 refine qq ?_
 replace h:=h.pick [0,1] rfl
 refine rL (fun m e w'=>∃ (S2:Nat→Prop) (p11:Option Addr) (ln1:Nat) (k11:Nat) (x1:(List Int)) (i1:Int),qaN r1 y1 m x1 i1=some o1∧e=[(5,.slice p6 r1.length k6),(6,.slice p11 ln1 k11),(17,.slice p10 y1.As.length k10),(18,.int .i64 (y1.As.length:Int)),(19,.int .i64 i1)]∧SH w w' [Ch.own S2 (x1:List Int) [.slice p11 ln1 k11],Ch.own S1 (r1:List Int) [.slice p6 r1.length k6]]) n ⟨_,_,_,_,_,_,hF,rfl,h⟩ rfl ?_
 rintro m1 e1 w3 ⟨S2,p11,ln1,k11,x1,i1,hF,rfl,h⟩
 obtain rfl:=(h.sl 0 rfl).2
 rcases m1 with _|m1
 ·cases hF
 refine X0 5 rfl (qr rfl hF ?_ ?_)<;>intro hF
 ·refine zKSBSR ?_
  obtain ⟨y2,hy2,hF,he2,b2,_,q2,cs3,hp2,hq2,rfl,hc3⟩:=s9.ix hF
  refine zxe hp2 hq2 he2 rfl (zc 0 (hc3.below h.below) rfl (X0 6 rfl ?_))
  obtain ⟨y3,hy3,hF,he3,b3,_,q3,cs4,hp3,hq3,rfl,hc4⟩:=(h.sl 1 rfl).1.ix hF
  refine zx hp3 hq3 ⟨he3.1,qY he3.2.1 (h.sl 1 rfl).2⟩ rfl (zc 0 hc4 rfl (qp qa [.tmp 27] _ ([y3]:List Int) h rfl rfl rfl rfl rfl rfl rfl rfl rfl ⟨rfl,trivial⟩ rfl fun w4 p12 S3 h=>?_))
  obtain ⟨x2,hx1,hF⟩:=qe hF
  obtain ⟨g1,hx1⟩:=qx hx1
  refine qaq qa 1 h rfl (h.sl 0 rfl).1 (h.sl 0 rfl).2 rfl rfl rfl rfl rfl rfl rfl rfl rfl g1 hx1 rfl fun w5 p13 k12 S4 h=>X0 7 rfl ?_
  replace h:=h.pick [1,2] rfl
  exact rK ⟨_,_,_,_,_,_,hF,rfl,h⟩ rfl
 refine qw rfl ?_
 obtain rfl:=qb hF;replace hF:=hK1
 refine X0 5 rfl ?_
 obtain rfl:=qb hF
 exact rO 0 h rfl ⟨rfl,trivial⟩
def qcm (x6:(List Int)) (i4:Int) (i5:Int) (y7:Int):Nat→(List qaD)→Int→Option ((List qaD) × Int)
 | 0,_,_=>none
 | n+1,x14,i6 =>
  bif decide (i6<2) then
   (idx x6 i4).bind fun y8 =>
   (appS x14 ([(⟨W64 ((W64 (2*y8))+i6),W64 ((W64 (2*y7))+i6),2,i5⟩:qaD)]:List qaD)).bind fun x15 =>
   qcm x6 i4 i5 y7 n x15 (W64 (i6+1))
  else
   some (x14,i6)
def qcs (x6:(List Int)) (i4:Int) (y6:(List Int)):Nat→(List qaD)→Int→Option ((List qaD) × Int)
 | 0,_,_=>none
 | n+1,x13,i5 =>
  bif decide (i5<(y6.length:Int)) then
   (idx y6 i5).bind fun y7 =>
   (qcm x6 i4 i5 y7 n x13 0).bind fun o=>match o with
   | (x14,_) =>
    qcs x6 i4 y6 n x14 (W64 (i5+1))
  else
   some (x13,i5)
def qdb (a_0:qd) (x5:(List (List Int))) (x6:(List Int)):Nat→(List (List Int))→(List Int)→(List qaD)→Int→Option ((List (List Int)) × (List Int) × (List qaD) × Int)
 | 0,_,_,_,_=>none
 | n+1,x8,x9,x10,i4 =>
  bif decide (i4<(a_0.Ah.length:Int)) then
   (qb9 n a_0 i4).bind fun r4 =>
   (idx r4 0).bind fun y5 =>
   (appS x9 ([y5]:List Int)).bind fun x11 =>
   (qcz n a_0 i4).bind fun r5 =>
   (appS x8 ([r5]:List (List Int))).bind fun x12 =>
   (idx x5 i4).bind fun y6 =>
   (qcs x6 i4 y6 n x10 0).bind fun o=>match o with
   | (x13,_) =>
    qdb a_0 x5 x6 n x12 x11 x13 (W64 (i4+1))
  else
   some (x8,x9,x10,i4)
def qbP (r1:(List Tplace)):Nat→(List (List Int))→(List Int)→Int→Option ((List (List Int)) × (List Int) × Int)
 | 0,_,_,_=>none
 | n+1,x5,x6,i3 =>
  bif decide (i3<(r1.length:Int)) then
   (idx r1 i3).bind fun y2 =>
   bif y2.drives then
    (idx x6 y2.net).bind fun _ =>
    qbP r1 n x5 (setS x6 y2.net i3) (W64 (i3+1))
   else
    (idx x5 y2.net).bind fun y4 =>
    (appS y4 ([i3]:List Int)).bind fun x7 =>
    qbP r1 n (setS x5 y2.net x7) x6 (W64 (i3+1))
  else
   some (x5,x6,i3)
def qc8 (a_0:qd):Nat→(List qaD)→Int→Int→Option ((List qaD) × Int × Int)
 | 0,_,_,_=>none
 | n+1,x1,i1,i2 =>
  bif decide (i2<(a_0.Aa.Ab.length:Int)) then
   (idx a_0.Aa.Ab i2).bind fun y1 =>
   (qdf n a_0 y1 i1).bind fun r2 =>
   (appS x1 r2).bind fun x2 =>
   (qao n y1.Ai).bind fun r3 =>
   qc8 a_0 n x2 (W64 (i1+r3)) (W64 (i2+1))
  else
   some (x1,i1,i2)
def qdX (n:Nat) (a_0:qd):Option (Option Tview) :=
 (qbj n (⟨a_0.Aa.Ab,a_0.Aa.Ai,a_0.Aa.Af⟩:qc)).bind fun r1 =>
 (qc8 a_0 n ([]:List qaD) 0 0).bind fun o=>match o with
 | (x1,_,_) =>
  (mkS (a_0.Ah.length:Int) (0:Int)).bind fun x3 =>
  (mkS (a_0.Ah.length:Int) ([]:(List Int))).bind fun x4 =>
  (qbP r1 n x4 x3 0).bind fun o=>match o with
  | (x5,x6,_) =>
   (qdb a_0 x5 x6 n ([]:List (List Int)) ([]:List Int) x1 0).bind fun o=>match o with
   | (x8,x9,x10,_) =>
    some (some (⟨(⟨(⟨a_0.Ac.Ak⟩:qi),(⟨a_0.Aa.Ab,a_0.Aa.Ai,a_0.Aa.Af⟩:qc),a_0.Ah⟩:qd),r1,x10,x9,x8,[]⟩:Tview))
theorem qeR {A:Nat→Prop} (hA:∀ b,A b→old w b) {a_0:qd} (ha1:GoT.R w A a_0 cs1) {r:(Option Tview)} (hF:qdX n a_0=some r):RetG Tryz.prog 35 [GoT.v qd cs1] w A r:=by
 obtain ⟨p1,k1,p2,k2,p3,k3,p4,k4,p5,k5,rfl,s1,s2,s3,s4,s5⟩:=qP ha1
 have hg:=Rg.start hA
 refine qgB Tryz.func35 rfl (m:=156) rfl rfl (fun h=>?_)
 refine zSR (qV h rfl rfl fun w1 bb1 h=>X0 3 rfl (rA [] [0] h rfl fun w2 h=>M2 7 [0,1,2] 0 0 (h.pick [0] rfl) rfl (Ao 3 15 rfl (zcL h hF (qcY (qaL _ (h.oldS (s2.mono hg.old)) (h.oldS (s3.mono hg.old)) (h.oldS (s4.mono hg.old)))) rfl fun r1 w3 S1 p6 k6 h hF=>Ag (h.pick [1] rfl) (Aw 4 31 (fun w' hw=>qay qa [0,1] [.tmp 15,.tmp 18] rfl rfl rfl rfl rfl rfl rfl rfl) (h.pick [1] rfl) rfl ?_)))))
 refine Ao 5 63 rfl (qV h rfl rfl fun w4 bb2 h=>G0 127 [6] (h.pick [2] rfl) rfl (Ad (X1 13 2 h rfl ?_)))
 replace h:=h.nil (α:=qaD)
 obtain ⟨o1,hF,hK1⟩:=qe hF
 refine qq (rL (fun m e w'=>∃ (S2:Nat→Prop) (p7:Option Addr) (ln1:Nat) (k7:Nat) (x1:(List qaD)) (i1:Int) (i2:Int),qc8 a_0 m x1 i1 i2=some o1∧e=[(1,.pointer (some ⟨bb1,0,none⟩)),(3,.pointer (some ⟨bb2,0,none⟩)),(4,.int .i64 i1),(23,.slice p2 a_0.Aa.Ab.length k2),(24,.int .i64 (a_0.Aa.Ab.length:Int)),(25,.int .i64 i2)]∧SH w w' [Ch.own S2 (x1:List qaD) [.slice p7 ln1 k7],Ch.box bb2 [.slice p1 a_0.Ac.Ak.length k1,.slice p2 a_0.Aa.Ab.length k2,.slice p3 a_0.Aa.Ai.length k3,.slice p4 a_0.Aa.Af.length k4,.slice p5 a_0.Ah.length k5,.slice p6 r1.length k6,.slice p7 ln1 k7,.slice none 0 0,.slice none 0 0,.slice none 0 0] 93,Ch.own S1 (r1:List Tplace) [.slice p6 r1.length k6],Ch.box bb1 (qT a_0 p1 p2 p3 p4 p5 k1 k2 k3 k4 k5) 34]) n ⟨_,_,_,_,_,_,_,hF,rfl,h⟩ rfl ?_)
 rintro m1 e1 w5 ⟨S2,p7,ln1,k7,x1,i1,i2,hF,rfl,h⟩
 obtain rfl:=(h.sl 0 rfl).2
 rcases m1 with _|m1
 ·cases hF
 refine X0 5 rfl (qr rfl hF ?_ ?_)<;>intro hF
 ·refine zKSBSR ?_
  obtain ⟨y1,hy1,hF,he1,b1,_,q1,cs2,hp1,hq1,hr2,hc2⟩:=s2.ix hF
  obtain ⟨p8,k8,rfl,s6⟩:=qai hr2
  refine zxe hp1 hq1 he1 rfl (zc 0 (hc2.below h.below) rfl (qy qa h rfl rfl rfl fun w6 bb3 h=>zs 0 h rfl fun w7 h=>zNS (rA [12] [0,2,4] h rfl fun w8 h=>M3 255 [0,1,2,3,4,5,6,7] 1 2 0 (h.pick [0,2,4] rfl) rfl (Ao 8 511 rfl (zcL h hF (qg0 (h.old (GoT.mono ha1 hg.old)) (qik y1 (h.oldS (s6.mono hg.old)))) rfl fun r2 w9 S3 p9 k9 h hF=>Ag (h.pick [1,3,5] rfl) (Ao 9 1023 rfl ?_))))))
  obtain ⟨x2,hx1,hF⟩:=qe hF
  obtain ⟨g1,hx1⟩:=qx hx1
  refine qaq qa 2 h rfl (h.sl 0 rfl).1 (h.sl 0 rfl).2 rfl rfl rfl rfl rfl rfl rfl rfl rfl g1 hx1 rfl fun w10 p10 k10 S4 h=>Ag (h.pick [1,3,5] rfl) (Ao 10 2047 rfl (zp1 rfl (G0 4095 [11] (h.pick [1,3,5] rfl) rfl (Ao 12 8191 rfl (zs 3 h rfl fun w11 h=>qen (fun hs=>absurd (hs 12 (by decide)) (by decide)) (Ad (X1 4 1 h rfl (zcI h hF (qa6 ⟨_,_,rfl,(h.oldS (s6.mono hg.old))⟩) rfl fun r3 w12 h hF=>X0 8 rfl ?_))))))))
  replace h:=h.pick [2,3,4,5] rfl
  exact rK ⟨_,_,_,_,_,_,_,hF,rfl,h⟩ rfl
 refine qw rfl ?_
 obtain rfl:=qb hF;replace hF:=hK1
 refine X1 5 3 h rfl ?_
 obtain ⟨x3,hx2,hF⟩:=qe hF
 obtain ⟨g2,g3,hx2⟩:=qfU hx2
 refine qgy qa Int h rfl rfl rfl rfl rfl rfl rfl rfl rfl g2 g3 hx2 rfl fun w13 S5 p11 h=>X1 7 4 h rfl ?_
 obtain ⟨x4,hx3,hF⟩:=qe hF
 obtain ⟨g4,g5,hx3⟩:=qfU hx3
 refine qgy qa (List Int) h rfl rfl rfl rfl rfl rfl rfl rfl rfl g4 g5 hx3 rfl fun w14 S6 p12 h=>X1 12 3 h rfl ?_
 obtain ⟨o2,hF,hK2⟩:=qe hF
 refine qq (rL (fun m e w'=>∃ (S7:Nat→Prop) (x5:(List (List Int))) (x6:(List Int)) (i3:Int),qbP r1 m x5 x6 i3=some o2∧e=[(1,.pointer (some ⟨bb1,0,none⟩)),(3,.pointer (some ⟨bb2,0,none⟩)),(7,.slice p11 x3.length x3.length),(8,.slice p12 x4.length x4.length),(58,.slice p6 r1.length k6),(59,.int .i64 (r1.length:Int)),(60,.int .i64 i3)]∧SH w w' [Ch.own S7 (x5:List (List Int)) [.slice p12 x4.length x4.length],Ch.own S5 (x6:List Int) [.slice p11 x3.length x3.length],Ch.own S2 (x1:List qaD) [.slice p7 x1.length k7],Ch.box bb2 [.slice p1 a_0.Ac.Ak.length k1,.slice p2 a_0.Aa.Ab.length k2,.slice p3 a_0.Aa.Ai.length k3,.slice p4 a_0.Aa.Af.length k4,.slice p5 a_0.Ah.length k5,.slice p6 r1.length k6,.slice p7 x1.length k7,.slice none 0 0,.slice none 0 0,.slice none 0 0] 93,Ch.own S1 (r1:List Tplace) [.slice p6 r1.length k6],Ch.box bb1 (qT a_0 p1 p2 p3 p4 p5 k1 k2 k3 k4 k5) 34]) n ⟨_,_,_,_,hF,rfl,h⟩ rfl ?_)
 rintro m2 e2 w15 ⟨S7,x5,x6,i3,hF,rfl,h⟩
 rcases m2 with _|m2
 ·cases hF
 refine X0 5 rfl (qr rfl hF ?_ ?_)<;>intro hF
 ·refine X0 6 rfl ?_
  obtain ⟨y2,hy2,hF,he2,b2,_,q2,cs3,hp2,hq2,hr5,hc4⟩:=(h.sl 4 rfl).1.ix hF
  obtain rfl:=qaA hr5
  refine zx hp2 hq2 ⟨he2.1,qY he2.2.1 (h.sl 4 rfl).2⟩ rfl (zc 0 hc4 rfl (qy qa h rfl rfl rfl fun w16 bb4 h=>zp1 rfl (zs 0 h rfl fun w17 h=>X1 6 0 h rfl (qr rfl hF ?_ ?_))))<;>intro hF
  ·refine X1 5 0 h rfl ?_
   obtain ⟨y3,hy3,hF,he3,b3,_,q3,cs4,hp3,hq3,rfl,hc6⟩:=(h.sl 2 rfl).1.ix hF
   refine zx hp3 hq3 ⟨he3.1,qY he3.2.1 (h.sl 2 rfl).2⟩ rfl (qde qa 2 0 i3 h rfl hy3 hp3 hq3 rfl hc6 rfl rfl rfl rfl rfl rfl rfl fun w18 h=>X0 6 rfl ?_)
   replace h:=h.pick [1,2,3,4,5,6] rfl
   exact rK ⟨_,_,_,_,hF,rfl,h⟩ rfl
  obtain ⟨y4,hy4,hF⟩:=qe hF
  have he4:=qcw hy4
  replace h:=h.pick [1,0,2,3,4,5,6] rfl
  obtain ⟨S8,S9,cs5,h⟩:=h.take hy4
  obtain ⟨p13,k11,rfl,-⟩:=h.own 0 rfl
  refine rA [12] [1,2] h rfl fun w19 h=>M2 63 [0,1,2,3,4,5] 1 1 (h.pick [1,2] rfl) rfl ?_
  obtain ⟨b4,hp4,-,-,hl2⟩:=h.holeAt 1 rfl
  obtain ⟨q4,hq4⟩:∃ q,q=0+(y2.net).toNat*GoT.k (List Int):=⟨_,rfl⟩
  refine Ax 6 127 hp4 hq4 ⟨he4.1,qY he4.2.1 hl2⟩ (h.pick [1,2] rfl) rfl (Aw 7 255 (fun w' hw=>qfq qa (qeU hw 0 rfl hp4 hq4) (j:=0) rfl rfl rfl) (h.pick [1,2] rfl) rfl ?_)
  refine M0 511 [8] (h.pick [1,2] rfl) rfl (Ao 9 1023 rfl (qp qa [.tmp 80] _ ([i3]:List Int) h rfl rfl rfl rfl rfl rfl rfl rfl rfl ⟨rfl,trivial⟩ rfl fun w20 p14 S10 h=>Ag (h.pick [2,3] rfl) (Ao 10 2047 rfl ?_)))
  obtain ⟨x7,hx4,hF⟩:=qe hF
  obtain ⟨g6,hx4⟩:=qx hx4
  refine qaq qa 1 h rfl (h.sl 0 rfl).1 (h.sl 0 rfl).2 rfl rfl rfl rfl rfl rfl rfl rfl rfl g6 hx4 rfl fun w21 p15 k12 S11 h=>Ag (h.pick [2,3] rfl) ?_
  obtain ⟨b5,hp5,-,-,hl4⟩:=h.holeAt 2 rfl
  obtain ⟨q5,hq5⟩:∃ q,q=0+(y2.net).toNat*GoT.k (List Int):=⟨_,rfl⟩
  refine Ax 11 4095 hp5 hq5 ⟨he4.1,qY he4.2.1 hl4⟩ (h.pick [2,3] rfl) rfl (Ao 12 8191 rfl (qjV qa 2 0 h rfl hp5 hq5 rfl rfl rfl rfl rfl rfl fun w22 h=>?_))
  replace h:SH _ _ [Ch.own S10 (([i3]:List Int):List Int) [.slice p14 1 1],Ch.own S11 (x7:List Int) [.slice p15 x7.length k12],Ch.hole S9 (x5:List (List Int)) p12 x4.length x4.length (y2.net).toNat [.slice p15 x7.length k12],Ch.box bb4 (qhI y2) 95,Ch.own S5 (x6:List Int) [.slice p11 x3.length x3.length],Ch.own S2 (x1:List qaD) [.slice p7 x1.length k7],Ch.box bb2 [.slice p1 a_0.Ac.Ak.length k1,.slice p2 a_0.Aa.Ab.length k2,.slice p3 a_0.Aa.Ai.length k3,.slice p4 a_0.Aa.Af.length k4,.slice p5 a_0.Ah.length k5,.slice p6 r1.length k6,.slice p7 x1.length k7,.slice none 0 0,.slice none 0 0,.slice none 0 0] 93,Ch.own S1 (r1:List Tplace) [.slice p6 r1.length k6],Ch.box bb1 (qT a_0 p1 p2 p3 p4 p5 k1 k2 k3 k4 k5) 34]:=h
  refine qen (fun hs=>absurd (hs 12 (by decide)) (by decide)) (Ad (X0 5 rfl ?_))
  replace h:=h.pick [1,2,0,3,4,5,6,7,8] rfl
  replace h:=h.put
  obtain ⟨S12,h⟩:=qjh (S:=_) h
  replace h:=h.pick [0,3,4,5,6,7] rfl
  exact rK ⟨_,_,_,_,hF,rfl,h⟩ rfl
 refine qw rfl ?_
 obtain rfl:=qb hF;replace hF:=hK2
 refine X1 8 5 h rfl ?_
 replace h:=h.nil (α:=Int)
 replace h:=h.nil (α:=(List Int))
 obtain ⟨o3,hF,hK3⟩:=qe hF
 refine qq (rL (fun m e w'=>∃ (S13:Nat→Prop) (p16:Option Addr) (ln2:Nat) (k13:Nat) (x8:(List (List Int))) (S14:Nat→Prop) (p17:Option Addr) (ln3:Nat) (k14:Nat) (x9:(List Int)) (S15:Nat→Prop) (p18:Option Addr) (ln4:Nat) (k15:Nat) (x10:(List qaD)) (i4:Int),qdb a_0 x5 x6 m x8 x9 x10 i4=some o3∧e=[(1,.pointer (some ⟨bb1,0,none⟩)),(3,.pointer (some ⟨bb2,0,none⟩)),(7,.slice p11 x3.length x3.length),(8,.slice p12 x4.length x4.length),(87,.int .i64 (a_0.Ah.length:Int)),(88,.int .i64 i4)]∧SH w w' [Ch.own S13 (x8:List (List Int)) [.slice p16 ln2 k13],Ch.own S14 (x9:List Int) [.slice p17 ln3 k14],Ch.own S7 (x5:List (List Int)) [.slice p12 x4.length x4.length],Ch.own S5 (x6:List Int) [.slice p11 x3.length x3.length],Ch.own S15 (x10:List qaD) [.slice p18 ln4 k15],Ch.box bb2 [.slice p1 a_0.Ac.Ak.length k1,.slice p2 a_0.Aa.Ab.length k2,.slice p3 a_0.Aa.Ai.length k3,.slice p4 a_0.Aa.Af.length k4,.slice p5 a_0.Ah.length k5,.slice p6 r1.length k6,.slice p18 ln4 k15,.slice p17 ln3 k14,.slice p16 ln2 k13,.slice none 0 0] 93,Ch.own S1 (r1:List Tplace) [.slice p6 r1.length k6],Ch.box bb1 (qT a_0 p1 p2 p3 p4 p5 k1 k2 k3 k4 k5) 34]) n ⟨_,_,_,_,_,_,_,_,_,_,_,_,_,_,_,_,hF,rfl,h⟩ rfl ?_)
 rintro m3 e3 w23 ⟨S13,p16,ln2,k13,x8,S14,p17,ln3,k14,x9,S15,p18,ln4,k15,x10,i4,hF,rfl,h⟩
 obtain rfl:=(h.sl 0 rfl).2
 obtain rfl:=(h.sl 1 rfl).2
 obtain rfl:=(h.sl 4 rfl).2
 rcases m3 with _|m3
 ·cases hF
 refine X0 5 rfl (qr rfl hF ?_ ?_)<;>intro hF
 ·refine X0 9 rfl (rA [14] [5,7] h rfl fun w24 h=>M2 127 [0,1,2,3,4,5,6] 0 1 (h.pick [5,7] rfl) rfl (Ao 7 255 rfl (zcL h hF (qdD (h.old (GoT.mono ha1 hg.old))) rfl fun r4 w25 S16 p19 k16 h hF=>Ag (h.pick [6,8] rfl) ?_)))
  obtain ⟨y5,hy5,hF,he5,b6,_,q6,cs6,hp6,hq6,rfl,hc8⟩:=(h.sl 0 rfl).1.ix hF
  refine Ax 8 511 hp6 hq6 ⟨he5.1,qY he5.2.1 (h.sl 0 rfl).2⟩ (h.pick [6,8] rfl) rfl (Ao 9 1023 rfl (zc 0 hc8 rfl (Ag (h.pick [6,8] rfl) (Ao 10 2047 rfl (qp qa [.tmp 100] _ ([y5]:List Int) h rfl rfl rfl rfl rfl rfl rfl rfl rfl ⟨rfl,trivial⟩ rfl fun w26 p20 S17 h=>Ag (h.pick [7,9] rfl) (Ao 11 4095 rfl ?_))))))
  obtain ⟨x11,hx5,hF⟩:=qe hF
  obtain ⟨g7,hx5⟩:=qx hx5
  refine qaq qa 3 h rfl (h.sl 0 rfl).1 (h.sl 0 rfl).2 rfl rfl rfl rfl rfl rfl rfl rfl rfl g7 hx5 rfl fun w27 p21 k17 S18 h=>Ag (h.pick [7,9] rfl) (Ao 12 8191 rfl (zp1 rfl (G0 16383 [13] (h.pick [7,9] rfl) rfl (Ao 14 32767 rfl (zs 7 h rfl fun w28 h=>qen (fun hs=>absurd (hs 14 (by decide)) (by decide)) (Ad (qeq (rA [12] [7,9] h rfl fun w29 h=>M2 127 [0,1,2,3,4,5,6] 0 1 (h.pick [7,9] rfl) rfl (Ao 7 255 rfl (zcL h hF (qgs (h.old (GoT.mono ha1 hg.old))) rfl fun r5 w30 S19 p22 k18 h hF=>Ag (h.pick [8,10] rfl) (Ao 8 511 rfl (qdC qa [.tmp 112] _ ([r5]:List (List Int)) [1,2,3,4,5,6,7,8,9,10] h rfl rfl rfl rfl rfl rfl rfl rfl rfl (qbY (qJ 0 h rfl) qfn rfl) rfl rfl fun w31 p23 S20 h=>Ag (h.pick [8,10] rfl) (Ao 9 1023 rfl ?_)))))))))))))
  obtain ⟨x12,hx6,hF⟩:=qe hF
  obtain ⟨g8,hx6⟩:=qx hx6
  replace h:=h.pick [0,3,1,2,4,5,6,7,8,9,10] rfl
  refine qiN qa h rfl rfl rfl rfl rfl rfl rfl rfl rfl g8 hx6 rfl fun w32 p24 k19 S21 h=>Ag (h.pick [7,9] rfl) (Ao 10 2047 rfl (zp1 rfl (G0 4095 [11] (h.pick [7,9] rfl) rfl (Ao 12 8191 rfl (zs 7 h rfl fun w33 h=>qen (fun hs=>absurd (hs 12 (by decide)) (by decide)) (Ad (X0 4 rfl ?_)))))))
  obtain ⟨y6,hy6,hF⟩:=qe hF
  have he6:=qcw hy6
  replace h:=h.lrn0 4 rfl
  obtain ⟨b7,o_5,q7,cs7,hp7,hq7,-,hr10,hc9⟩:=(qjn (h.lrnO 4 rfl)).1.at hy6
  have hr11:=hr10
  obtain ⟨p25,k20,rfl,s7⟩:=hr10
  replace h:=h.lrnAdd 4 rfl hr11
  refine zx hp7 hq7 ⟨he6.1,qY he6.2.1 (qjn (h.lrnO 4 rfl)).2⟩ rfl (zc 0 hc9 rfl (X0 3 rfl ?_))
  obtain ⟨o4,hF,hK4⟩:=qe hF
  refine qq ?_
  replace h:=h.pick [0,3,4,5,6,7,8,9] rfl
  refine rL (fun m e w'=>∃ (S22:Nat→Prop) (p26:Option Addr) (ln5:Nat) (k21:Nat) (x13:(List qaD)) (i5:Int),qcs x6 i4 y6 m x13 i5=some o4∧e=[(1,.pointer (some ⟨bb1,0,none⟩)),(3,.pointer (some ⟨bb2,0,none⟩)),(7,.slice p11 x3.length x3.length),(8,.slice p12 x4.length x4.length),(11,.int .i64 i4),(87,.int .i64 (a_0.Ah.length:Int)),(88,.int .i64 i4),(120,.slice p25 y6.length k20),(121,.int .i64 (y6.length:Int)),(122,.int .i64 i5)]∧SH w w' [Ch.own S21 (x12:List (List Int)) [.slice p24 x12.length k19],Ch.own S18 (x11:List Int) [.slice p21 x11.length k17],Ch.lrn S7 (x5:List (List Int)) [.slice p12 x4.length x4.length] [fct (y6:(List Int)) [.slice p25 y6.length k20]],Ch.own S5 (x6:List Int) [.slice p11 x3.length x3.length],Ch.own S22 (x13:List qaD) [.slice p26 ln5 k21],Ch.box bb2 [.slice p1 a_0.Ac.Ak.length k1,.slice p2 a_0.Aa.Ab.length k2,.slice p3 a_0.Aa.Ai.length k3,.slice p4 a_0.Aa.Af.length k4,.slice p5 a_0.Ah.length k5,.slice p6 r1.length k6,.slice p26 ln5 k21,.slice p21 x11.length k17,.slice p24 x12.length k19,.slice none 0 0] 93,Ch.own S1 (r1:List Tplace) [.slice p6 r1.length k6],Ch.box bb1 (qT a_0 p1 p2 p3 p4 p5 k1 k2 k3 k4 k5) 34]) m3 ⟨_,_,_,_,_,_,hF,rfl,h⟩ rfl ?_
  rintro m4 e4 w34 ⟨S22,p26,ln5,k21,x13,i5,hF,rfl,h⟩
  obtain rfl:=(h.sl 4 rfl).2
  rcases m4 with _|m4
  ·cases hF
  refine X0 5 rfl (qr rfl hF ?_ ?_)<;>intro hF
  ·refine X0 6 rfl ?_
   obtain ⟨y7,hy7,hF,he7,b8,_,q8,cs8,hp8,hq8,rfl,hc11⟩:=(qjn (GoT.mono (h.lrnS 2 0 rfl rfl) (h.lrnB 2 rfl))).1.ix hF
   refine zx hp8 hq8 ⟨he7.1,qY he7.2.1 (qjn (GoT.mono (h.lrnS 2 0 rfl rfl) (h.lrnB 2 rfl))).2⟩ rfl (zc 0 hc11 rfl (X0 7 rfl ?_))
   obtain ⟨o5,hF,hK5⟩:=qe hF
   refine qq (rL (fun m e w'=>∃ (S23:Nat→Prop) (p27:Option Addr) (ln6:Nat) (k22:Nat) (x14:(List qaD)) (i6:Int),qcm x6 i4 i5 y7 m x14 i6=some o5∧e=[(1,.pointer (some ⟨bb1,0,none⟩)),(3,.pointer (some ⟨bb2,0,none⟩)),(7,.slice p11 x3.length x3.length),(8,.slice p12 x4.length x4.length),(11,.int .i64 i4),(12,.int .i64 i5),(13,.int .i64 y7),(87,.int .i64 (a_0.Ah.length:Int)),(88,.int .i64 i4),(120,.slice p25 y6.length k20),(121,.int .i64 (y6.length:Int)),(122,.int .i64 i5),(127,.int .i64 i6)]∧SH w w' [Ch.own S21 (x12:List (List Int)) [.slice p24 x12.length k19],Ch.own S18 (x11:List Int) [.slice p21 x11.length k17],Ch.lrn S7 (x5:List (List Int)) [.slice p12 x4.length x4.length] [fct (y6:(List Int)) [.slice p25 y6.length k20]],Ch.own S5 (x6:List Int) [.slice p11 x3.length x3.length],Ch.own S23 (x14:List qaD) [.slice p27 ln6 k22],Ch.box bb2 [.slice p1 a_0.Ac.Ak.length k1,.slice p2 a_0.Aa.Ab.length k2,.slice p3 a_0.Aa.Ai.length k3,.slice p4 a_0.Aa.Af.length k4,.slice p5 a_0.Ah.length k5,.slice p6 r1.length k6,.slice p27 ln6 k22,.slice p21 x11.length k17,.slice p24 x12.length k19,.slice none 0 0] 93,Ch.own S1 (r1:List Tplace) [.slice p6 r1.length k6],Ch.box bb1 (qT a_0 p1 p2 p3 p4 p5 k1 k2 k3 k4 k5) 34]) m4 ⟨_,_,_,_,_,_,hF,rfl,h⟩ rfl ?_)
   rintro m5 e5 w35 ⟨S23,p27,ln6,k22,x14,i6,hF,rfl,h⟩
   obtain rfl:=(h.sl 4 rfl).2
   rcases m5 with _|m5
   ·cases hF
   refine X0 5 rfl (qr rfl hF ?_ ?_)<;>intro hF
   ·refine X0 8 rfl (rA [22] [3,5] h rfl fun w36 h=>M1 127 [0,1,2,3,4,5,6] 1 (h.pick [3,5] rfl) rfl ?_)
    obtain ⟨y8,hy8,hF,he8,b9,_,q9,cs9,hp9,hq9,rfl,hc13⟩:=(h.sl 3 rfl).1.ix hF
    refine Ax 7 255 hp9 hq9 ⟨he8.1,qY he8.2.1 (h.sl 3 rfl).2⟩ (h.pick [3,5] rfl) rfl (Aw 8 511 (fun w' hw=>qfq qa (qcj (w1:=w) (S1:=fun _=>False) hw 0 rfl hy8 hp9 hq9 rfl) (j:=0) rfl rfl rfl) (h.pick [3,5] rfl) rfl ?_)
    refine M0 131071 [9,10,11,12,13,14,15,16] (h.pick [3,5] rfl) rfl (Aw 17 262143 (fun w' hw=>qay qa [0,1,2,3] [.tmp 141,.tmp 145,.const (.int .i64 (2)),.tmp 146] rfl rfl rfl rfl rfl rfl rfl rfl) (h.pick [3,5] rfl) rfl ?_)
    refine Ao 18 524287 rfl (qp qa [.tmp 147] _ ([(⟨W64 ((W64 (2*y8))+i6),W64 ((W64 (2*y7))+i6),2,i5⟩:qaD)]:List qaD) h rfl rfl rfl rfl rfl rfl rfl rfl rfl ⟨(qkH (⟨W64 ((W64 (2*y8))+i6),W64 ((W64 (2*y7))+i6),2,i5⟩:qaD)),trivial⟩ rfl fun w37 p28 S24 h=>Ag (h.pick [4,6] rfl) (Ao 19 1048575 rfl ?_))
    obtain ⟨x15,hx7,hF⟩:=qe hF
    obtain ⟨g9,hx7⟩:=qx hx7
    refine qaq qa 5 h rfl (h.sl 0 rfl).1 (h.sl 0 rfl).2 rfl rfl rfl rfl rfl rfl rfl rfl rfl g9 hx7 rfl fun w38 p29 k23 S25 h=>Ag (h.pick [4,6] rfl) (Ao 20 2097151 rfl (zp1 rfl (G0 4194303 [21] (h.pick [4,6] rfl) rfl (Ao 22 8388607 rfl (zs 6 h rfl fun w39 h=>qen (fun hs=>absurd (hs 22 (by decide)) (by decide)) (Ad (X0 5 rfl ?_)))))))
    replace h:=h.pick [1,2,3,4,5,6,7,8] rfl
    exact rK ⟨_,_,_,_,_,_,hF,rfl,h⟩ rfl
   refine qw rfl ?_
   obtain rfl:=qb hF;replace hF:=hK5
   exact X0 5 rfl (rK ⟨_,_,_,_,_,_,hF,rfl,h⟩ rfl)
  refine qw rfl ?_
  obtain rfl:=qb hF;replace hF:=hK4
  refine X0 5 rfl ?_
  replace h:=h.unlrn 2 rfl
  exact rK ⟨_,_,_,_,_,_,_,_,_,_,_,_,_,_,_,_,hF,rfl,h⟩ rfl
 refine qw rfl ?_
 obtain rfl:=qb hF;replace hF:=hK3
 refine X0 5 rfl ?_
 obtain rfl:=qb hF
 have hv1:GoRs.Rs (ρ:=(Option Tview)) h.wc (reg A w h.wc) (some (⟨(⟨(⟨a_0.Ac.Ak⟩:qi),(⟨a_0.Aa.Ab,a_0.Aa.Ai,a_0.Aa.Af⟩:qc),a_0.Ah⟩:qd),r1,x10,x9,x8,[]⟩:Tview)) [GoT.v (Option Tview) [.pointer (some ⟨bb2,0,none⟩)]]:=⟨_,rfl,(hg.outR h (Rg.boxR (x:=(⟨(⟨(⟨a_0.Ac.Ak⟩:qi),(⟨a_0.Aa.Ab,a_0.Aa.Ai,a_0.Aa.Af⟩:qc),a_0.Ah⟩:qd),r1,x10,x9,x8,[]⟩:Tview)) 5 h rfl (⟨[.slice p1 a_0.Ac.Ak.length k1,.slice p2 a_0.Aa.Ab.length k2,.slice p3 a_0.Aa.Ai.length k3,.slice p4 a_0.Aa.Af.length k4,.slice p5 a_0.Ah.length k5],[.slice p6 r1.length k6,.slice p18 x10.length k15,.slice p17 x9.length k14,.slice p16 x8.length k13,.slice none 0 0],rfl,⟨[.slice p1 a_0.Ac.Ak.length k1],[.slice p2 a_0.Aa.Ab.length k2,.slice p3 a_0.Aa.Ai.length k3,.slice p4 a_0.Aa.Af.length k4,.slice p5 a_0.Ah.length k5],rfl,⟨_,_,rfl,(hg.inS h s1)⟩,⟨[.slice p2 a_0.Aa.Ab.length k2,.slice p3 a_0.Aa.Ai.length k3,.slice p4 a_0.Aa.Af.length k4],[.slice p5 a_0.Ah.length k5],rfl,⟨[.slice p2 a_0.Aa.Ab.length k2],[.slice p3 a_0.Aa.Ai.length k3,.slice p4 a_0.Aa.Af.length k4],rfl,⟨_,_,rfl,(hg.inS h s2)⟩,⟨[.slice p3 a_0.Aa.Ai.length k3],[.slice p4 a_0.Aa.Af.length k4],rfl,⟨_,_,rfl,(hg.inS h s3)⟩,⟨_,_,rfl,(hg.inS h s4)⟩⟩⟩,⟨_,_,rfl,(hg.inS h s5)⟩⟩⟩,⟨[.slice p6 r1.length k6],[.slice p18 x10.length k15,.slice p17 x9.length k14,.slice p16 x8.length k13,.slice none 0 0],rfl,(Rg.ownR 6 h rfl),⟨[.slice p18 x10.length k15],[.slice p17 x9.length k14,.slice p16 x8.length k13,.slice none 0 0],rfl,(Rg.ownR 4 h rfl),⟨[.slice p17 x9.length k14],[.slice p16 x8.length k13,.slice none 0 0],rfl,(Rg.ownR 1 h rfl),⟨[.slice p16 x8.length k13],[.slice none 0 0],rfl,(Rg.ownR 0 h rfl),⟨_,_,rfl,qmn⟩⟩⟩⟩⟩⟩)))⟩
 exact qk1 qa (ρ:=(Option Tview)) (r:=(some (⟨(⟨(⟨a_0.Ac.Ak⟩:qi),(⟨a_0.Aa.Ab,a_0.Aa.Ai,a_0.Aa.Af⟩:qc),a_0.Ah⟩:qd),r1,x10,x9,x8,[]⟩:Tview))) [GoT.v (Option Tview) [.pointer (some ⟨bb2,0,none⟩)]] h ⟨rfl,trivial⟩ hv1
def qbp (_:Nat) (v:(Option Tview)) (p:Tplace):Option Bool :=
 bif decide (p.instance_ ≥ 0) then
  (v).bind fun y1 =>
  (idx y1.Bd.Aa.Ab p.instance_).bind fun y2 =>
  (idx y1.Bd.Ac.Ak y2.Av).bind fun y3 =>
  (idx y3.Ap p.pin).bind fun y4 =>
  some y4.Ba
 else
  some false
theorem qdK {v:(Option Tview)} {p:Tplace} (ha1:GoT.R w (old w) v cs1) (ha2:GoT.R w (old w) p cs2) {r:Bool} (hF:qbp n v p=some r):RetV Tryz.prog 78 [GoT.v (Option Tview) cs1,GoT.v Tplace cs2] w r:=by
 obtain ⟨p1,rfl,s1⟩:=qeK ha1
 obtain rfl:=qaA ha2
 refine zV 35 Tryz.func78 rfl fun h=>zSR (qV h rfl rfl fun w1 bb1 h=>X0 3 rfl (rD (Y1 2 0 h rfl ?_)))
 refine zd2 rfl (qaT (t:=8) hF rfl ?_ ?_)<;>intro hF
 ·refine Y0 3 rfl ?_
  obtain ⟨y1,hy1,hF⟩:=qe hF
  obtain ⟨b1,o_1,cs3,rfl,-,hr1,hc1⟩:=PtR.get s1 hy1
  obtain ⟨p2,k1,p3,k2,p4,k3,p5,k4,p6,k5,p7,k6,p8,k7,p9,k8,p10,k9,p11,k10,rfl,s2,s3,s4,s5,s6,s7,s8,s9,s10,s11⟩:=qeV hr1
  refine Y0 8 rfl (zdc 0 (hc1.below h.below) rfl (Y0 11 rfl (zdc 1 (hc1.below h.below) rfl (Y1 4 0 h rfl ?_))))
  refine Y0 1 rfl ?_
  obtain ⟨y2,hy2,hF,he1,b2,_,q1,cs4,hp1,hq1,hr2,hc2⟩:=s3.ix hF
  obtain ⟨p12,k11,rfl,s12⟩:=qai hr2
  refine zdxe hp1 hq1 he1 rfl (Y0 3 rfl (zdc 1 (hc2.below h.below) rfl (Y0 1 rfl ?_)))
  obtain ⟨y3,hy3,hF,he2,b3,_,q2,cs5,hp2,hq2,hr3,hc3⟩:=s2.ix hF
  obtain ⟨p13,k12,p14,k13,p15,k14,rfl,s13,s14,s15⟩:=qE hr3
  refine zdxe hp2 hq2 he2 rfl (Y0 3 rfl (zdc 2 (hc3.below h.below) rfl (Y1 4 0 h rfl ?_)))
  refine Y0 1 rfl ?_
  obtain ⟨y4,hy4,hF,he3,b4,_,q3,cs6,hp3,hq3,hr4,hc4⟩:=s13.ix hF
  obtain rfl:=qcS hr4
  exact zdxe hp3 hq3 he3 rfl (Y0 3 rfl (zdc 3 (hc4.below h.below) rfl (zd2 rfl (dN h fun w2 h=>rb h hF rfl))))
 exact Y0 27 rfl (dN h fun w3 h=>rb h hF rfl)
def qbu (_:Nat) (b:qd) (a_instance:Int):Option qk :=
 (idx b.Aa.Ab a_instance).bind fun y1 =>
 (idx b.Ac.Ak y1.Av).bind fun y2 =>
 some y2
theorem qem {A:Nat→Prop} (hA:∀ b,A b→old w b) {b:qd} {a_instance:Int} (ha1:GoT.R w A b cs1) {r:qk} (hF:qbu n b a_instance=some r):RetG Tryz.prog 79 [GoT.v qd cs1,.int .i64 a_instance] w A r:=by
 obtain ⟨p1,k1,p2,k2,p3,k3,p4,k4,p5,k5,rfl,s1,s2,s3,s4,s5⟩:=qP ha1
 have hg:=Rg.start hA
 refine qgB Tryz.func79 rfl (m:=17) rfl rfl (fun h=>?_)
 refine zSR (qV h rfl rfl fun w1 bb1 h=>qy qa h rfl rfl rfl fun w2 bb2 h=>zNS (rA [] [1] h rfl fun w3 h=>M2 127 [0,1,2,3,4,5,6] 0 0 (h.pick [1] rfl) rfl ?_))
 obtain ⟨y1,hy1,hF,he1,b1,_,q1,cs2,hp1,hq1,hr1,hc1⟩:=s2.ix hF
 obtain ⟨p6,k6,rfl,s6⟩:=qai hr1
 refine Ae 7 255 hp1 hq1 he1 (h.pick [1] rfl) rfl (M0 511 [8] (h.pick [1] rfl) rfl (Al 9 1023 1 hc1 (h.pick [1] rfl) rfl ?_))
 obtain ⟨y2,hy2,hF,he2,b2,_,q2,cs3,hp2,hq2,hr2,hc2⟩:=s1.ix hF
 obtain ⟨p7,k7,p8,k8,p9,k9,rfl,s7,s8,s9⟩:=qE hr2
 refine Ae 10 2047 hp2 hq2 he2 (h.pick [1] rfl) rfl (Al 11 4095 0 hc2 (h.pick [1] rfl) rfl (Ao 12 8191 rfl (zs 0 h rfl fun w4 h=>Ag (h.pick [1] rfl) (Ad ?_))))
 obtain rfl:=qb hF
 have hv1:GoRs.Rs (ρ:=qk) h.wc (reg A w h.wc) y2 [GoT.v qk (qt y2 p7 p8 p9 k7 k8 k9)]:=⟨_,rfl,(hg.outR h (qh6 y2 (hg.inS h s7) (hg.inS h s8) (hg.inS h s9)))⟩
 exact qk1 qa (ρ:=qk) (r:=y2) [GoT.v qk (qt y2 p7 p8 p9 k7 k8 k9)] h ⟨⟨_,_,_,rfl,rfl,h.box 0 rfl,rfl⟩,trivial⟩ hv1
def qgr (_:Nat) (a:qS):Option Bool :=
 bif (a.Aq==1) then some true else
 bif (a.Aq==2) then some true else
 some (a.Aq==3)
theorem qiI {a:qS} (ha1:GoT.R w (old w) a cs1) {r:Bool} (hF:qgr n a=some r):RetV Tryz.prog 82 [GoT.v qS cs1] w r:=by
 obtain ⟨p1,k1,p2,k2,rfl,s1,s2⟩:=qaj ha1
 refine zV 16 Tryz.func82 rfl fun h=>zSR (qV h rfl rfl fun w1 bb1 h=>X1 8 0 h rfl (qh (t:=6) hF rfl ?_ ?_))<;>intro hF
 ·exact X0 11 rfl (rb h hF rfl)
 refine X1 8 0 h rfl (qh (t:=11) hF rfl ?_ ?_)<;>intro hF
 ·exact X0 6 rfl (rb h hF rfl)
 exact X1 9 0 h rfl (rb h hF rfl)
def qcA (n:Nat) (a:qS) (v0:Tplace):Option Bool :=
 (qgr n a).bind fun r1 =>
 bif r1 then some (a.Ay==v0.pin) else
 some false
theorem qgt {a:qS} {v0:Tplace} (ha1:GoT.R w (old w) a cs1) {p3:Option Addr} (ha2:GoT.R w (old w) (some v0) [.pointer p3]) {r:Bool} (hF:qcA n a v0=some r):RetV Tryz.prog 81 [GoT.v qS cs1,.pointer p3] w r:=by
 obtain ⟨p1,k1,p2,k2,rfl,s1,s2⟩:=qaj ha1
 obtain ⟨b1,o_1,cs2,rfl,-,hr1,hc1⟩:=PtR.get ha2 rfl
 obtain rfl:=qaA hr1
 refine zV 13 Tryz.func81 rfl fun h=>zSR (qV h rfl rfl fun w1 bb1 h=>X1 5 0 h rfl (zcB h hF (qiI (h.old ha1)) rfl fun r1 w2 h hF=>zp1 rfl (qh (t:=6) hF rfl ?_ ?_)))<;>intro hF
 ·exact X1 7 0 h rfl (zc 1 (hc1.below h.below) rfl (X0 5 rfl (rb h hF rfl)))
 exact X0 8 rfl (rb h hF rfl)
def qz (s:(List qS)) (f_0:Tplace):Nat→Int→Option (Flow Int Int)
 | 0,_=>none
 | n+1,i1 =>
  bif decide (i1<(s.length:Int)) then
   (idx s i1).bind fun y1 =>
   (qcA n y1 f_0).bind fun r1 =>
   bif r1 then some (.ret i1) else
   qz s f_0 n (W64 (i1+1))
  else
   some (.nxt i1)
def qat (n:Nat) (s:(List qS)) (f_0:Tplace):Option Int :=
 (qz s f_0 n 0).bind fun o=>match o with
 | .ret r=>some r
 | .nxt _ =>
  some (-1)
theorem qcN {s:(List qS)} {f_0:Tplace} (ha1:GoT.R w (old w) s cs1) {p2:Option Addr} (ha2:GoT.R w (old w) (some f_0) [.pointer p2]) {r:Int} (hF:qat n s f_0=some r):RetV Tryz.prog 129 [GoT.v (List qS) cs1,.func (.func 81) #[] #[.pointer p2]] w r:=by
 obtain ⟨p1,k1,rfl,s1⟩:=ha1
 obtain ⟨b1,o_1,cs2,rfl,-,hr1,hc1⟩:=PtR.get ha2 rfl
 obtain rfl:=qaA hr1
 refine zV 19 Tryz.func129 rfl fun h=>X0 11 rfl ?_
 obtain ⟨o1,hF,hK1⟩:=qe hF
 refine qq (rL (fun m e w'=>∃ (i1:Int),qz s f_0 m i1=some o1∧e=[(0,.slice p1 s.length k1),(1,.func (.func 81) #[] #[.pointer (some ⟨b1,o_1,none⟩)]),(7,.int .i64 (s.length:Int)),(8,.int .i64 i1)]∧SH w w' []) n ⟨_,hF,rfl,h⟩ rfl ?_)
 rintro m1 e1 w1 ⟨i1,hF,rfl,h⟩
 rcases m1 with _|m1
 ·cases hF
 refine X0 5 rfl (qr rfl hF ?_ ?_)<;>intro hF
 ·refine X0 13 rfl ?_
  obtain ⟨y1,hy1,hF,he1,b2,_,q1,cs3,hp1,hq1,hr2,hc3⟩:=s1.ix hF
  obtain ⟨p3,k2,p4,k3,rfl,s2,s3⟩:=qaj hr2
  refine zxe hp1 hq1 he1 rfl (zc 0 (hc3.below h.below) rfl (zcB h hF (qgt (qfL y1 (h.oldS s2) (h.oldS s3)) (h.old ha2)) rfl fun r1 w2 h hF=>qbs (qr rfl hF ?_ ?_)))<;>intro hF
  ·refine X0 5 rfl ?_
   obtain rfl:=qb hF;replace hF:=hK1
   exact ri h hF rfl
  exact X0 6 rfl (rK ⟨_,hF,rfl,h⟩ rfl)
 refine qw rfl ?_
 obtain rfl:=qb hF;replace hF:=hK1
 exact X0 4 rfl (ri h hF rfl)
def qZ (n:Nat) (s:(List qS)) (f_0:Tplace):Option Bool :=
 (qat n s f_0).bind fun r1 =>
 some (decide (r1 ≥ 0))
theorem qco {s:(List qS)} {f_0:Tplace} (ha1:GoT.R w (old w) s cs1) {p2:Option Addr} (ha2:GoT.R w (old w) (some f_0) [.pointer p2]) {r:Bool} (hF:qZ n s f_0=some r):RetV Tryz.prog 80 [GoT.v (List qS) cs1,.func (.func 81) #[] #[.pointer p2]] w r:=by
 obtain ⟨p1,k1,rfl,s1⟩:=ha1
 obtain ⟨b1,o_1,cs2,rfl,-,hr1,hc1⟩:=PtR.get ha2 rfl
 obtain rfl:=qaA hr1
 exact zV 9 Tryz.func80 rfl fun h=>X0 8 rfl (zcI h hF (qcN ⟨_,_,rfl,(h.oldS s1)⟩ (h.old ha2)) rfl fun r1 w1 h hF=>X0 3 rfl (rb h hF rfl))
def qae (a_0:(Option Tview)) (y1:Tview) (y2:Tplace):Nat→(List Int)→Int→Option ((List Int) × Int)
 | 0,_,_=>none
 | n+1,x1,i1 =>
  bif decide (i1<(y1.places.length:Int)) then
   (idx y1.places i1).bind fun y3 =>
   bif (y3.net==y2.net) then
    bif (!y3.drives) then
     (qbp n a_0 y3).bind fun r1 =>
     bif (!r1) then
      (appS x1 ([i1]:List Int)).bind fun x2 =>
      qae a_0 y1 y2 n x2 (W64 (i1+1))
     else
      qae a_0 y1 y2 n x1 (W64 (i1+1))
    else
     qae a_0 y1 y2 n x1 (W64 (i1+1))
   else
    qae a_0 y1 y2 n x1 (W64 (i1+1))
  else
   some (x1,i1)
def qcd (n:Nat) (a_0:(Option Tview)) (a_1:Int):Option (List Int) :=
 (a_0).bind fun y1 =>
 (idx y1.places a_1).bind fun y2 =>
 bif y2.drives then
  (qae a_0 y1 y2 n ([]:List Int) 0).bind fun o=>match o with
  | (x1,_) =>
   some x1
 else
  bif decide (y2.instance_<0) then some [] else
  (qbu n (⟨(⟨y1.Bd.Ac.Ak⟩:qi),(⟨y1.Bd.Aa.Ab,y1.Bd.Aa.Ai,y1.Bd.Aa.Af⟩:qc),y1.Bd.Ah⟩:qd) y2.instance_).bind fun r2 =>
  (qZ n r2.Am y2).bind fun r3 =>
  bif r3 then
   (qbk n r2).bind fun r4 =>
   some ([W64 ((W64 (a_1-y2.pin))+r4)]:List Int)
  else
   some []
theorem qe3 {a_0:(Option Tview)} {a_1:Int} (ha1:GoT.R w (old w) a_0 cs1) {r:(List Int)} (hF:qcd n a_0 a_1=some r):RetV Tryz.prog 37 [GoT.v (Option Tview) cs1,.int .i64 a_1] w r:=by
 obtain ⟨p1,rfl,s1⟩:=qeK ha1
 refine zV 73 Tryz.func37 rfl fun h=>X0 7 rfl ?_
 obtain ⟨y1,hy1,hF⟩:=qe hF
 obtain ⟨b1,o_1,cs2,rfl,-,hr1,hc1⟩:=PtR.get s1 hy1
 obtain ⟨p2,k1,p3,k2,p4,k3,p5,k4,p6,k5,p7,k6,p8,k7,p9,k8,p10,k9,p11,k10,rfl,s2,s3,s4,s5,s6,s7,s8,s9,s10,s11⟩:=qeV hr1
 refine zp2 rfl (zc 5 (hc1.below h.below) rfl (zp1 rfl ?_))
 obtain ⟨y2,hy2,hF,he1,b2,_,q1,cs3,hp1,hq1,hr2,hc2⟩:=s7.ix hF
 obtain rfl:=qaA hr2
 refine zxe hp1 hq1 he1 rfl (zc 0 (hc2.below h.below) rfl (qy qa h rfl rfl rfl fun w1 bb1 h=>zs 0 h rfl fun w2 h=>X1 11 0 h rfl (qr rfl hF ?_ ?_)))<;>intro hF
 ·refine X0 6 rfl (zc 5 (hc1.below h.below) rfl (X0 3 rfl ?_))
  replace h:=h.nil (α:=Int)
  obtain ⟨o1,hF,hK1⟩:=qe hF
  refine qq (rL (fun m e w'=>∃ (S1:Nat→Prop) (p12:Option Addr) (ln1:Nat) (k11:Nat) (x1:(List Int)) (i1:Int),qae a_0 y1 y2 m x1 i1=some o1∧e=[(0,.pointer (some ⟨b1,o_1,none⟩)),(5,.pointer (some ⟨bb1,0,none⟩)),(6,.slice p12 ln1 k11),(22,.slice p7 y1.places.length k6),(23,.int .i64 (y1.places.length:Int)),(24,.int .i64 i1)]∧SH w w' [Ch.own S1 (x1:List Int) [.slice p12 ln1 k11],Ch.box bb1 (qhI y2) 95]) n ⟨_,_,_,_,_,_,hF,rfl,h⟩ rfl ?_)
  rintro m1 e1 w3 ⟨S1,p12,ln1,k11,x1,i1,hF,rfl,h⟩
  obtain rfl:=(h.sl 0 rfl).2
  rcases m1 with _|m1
  ·cases hF
  refine X0 5 rfl (qr rfl hF ?_ ?_)<;>intro hF
  ·refine X0 6 rfl ?_
   obtain ⟨y3,hy3,hF,he2,b3,_,q2,cs4,hp2,hq2,hr3,hc5⟩:=s7.ix hF
   obtain rfl:=qaA hr3
   refine zxe hp2 hq2 he2 rfl (zc 0 (hc5.below h.below) rfl (qy qa h rfl rfl rfl fun w4 bb2 h=>zp1 rfl (zs 0 h rfl fun w5 h=>X2 9 0 2 h rfl (qh (t:=34) hF rfl ?_ ?_))))<;>intro hF
   ·refine X1 8 0 h rfl (qh (t:=39) hF rfl ?_ ?_)<;>intro hF
    ·refine X1 5 0 h rfl (zcB h hF (qdK (h.old s1) (qel y3)) rfl fun r1 w6 h hF=>X0 4 rfl (qr rfl hF ?_ ?_))<;>intro hF
     ·refine X0 3 rfl (qp qa [.tmp 46] _ ([i1]:List Int) h rfl rfl rfl rfl rfl rfl rfl rfl rfl ⟨rfl,trivial⟩ rfl fun w7 p13 S2 h=>?_)
      obtain ⟨x2,hx1,hF⟩:=qe hF
      obtain ⟨g1,hx1⟩:=qx hx1
      refine qaq qa 2 h rfl (h.sl 0 rfl).1 (h.sl 0 rfl).2 rfl rfl rfl rfl rfl rfl rfl rfl rfl g1 hx1 rfl fun w8 p14 k12 S3 h=>X0 7 rfl ?_
      replace h:=h.pick [2,3] rfl
      exact rK ⟨_,_,_,_,_,_,hF,rfl,h⟩ rfl
     refine X0 6 rfl ?_
     replace h:=h.pick [1,2] rfl
     exact rK ⟨_,_,_,_,_,_,hF,rfl,h⟩ rfl
    refine X0 6 rfl (qdx rfl rfl (X0 6 rfl ?_))
    replace h:=h.pick [1,2] rfl
    exact rK ⟨_,_,_,_,_,_,hF,rfl,h⟩ rfl
   refine X0 11 rfl (qdx rfl rfl (X0 6 rfl ?_))
   replace h:=h.pick [1,2] rfl
   exact rK ⟨_,_,_,_,_,_,hF,rfl,h⟩ rfl
  refine qw rfl ?_
  obtain rfl:=qb hF;replace hF:=hK1
  refine X0 5 rfl ?_
  obtain rfl:=qb hF
  exact rO 0 h rfl ⟨rfl,trivial⟩
 refine X1 8 0 h rfl (qr rfl hF ?_ ?_)<;>intro hF
 ·refine X0 4 rfl ?_
  obtain rfl:=qb hF
  exact qa9 qa (ρ:=(List Int)) [GoT.v (List Int) [.slice none 0 0]] h ⟨rfl,trivial⟩ (PV.done h (qbA qfA))
 refine zKS (rA [] [0] h rfl fun w9 h=>M0 7 [0,1,2] (h.pick [0] rfl) rfl (Al 3 15 0 hc1 (h.pick [0] rfl) rfl (M1 63 [4,5] 0 (h.pick [0] rfl) rfl ?_)))
 obtain ⟨r2,hr5,hF⟩:=qe hF
 refine qjD (fun e w'=>∃ (bb7:Nat) (p27:Option Addr) (k25:Nat) (p28:Option Addr) (k26:Nat) (p29:Option Addr) (k27:Nat) (S8:Nat→Prop),e=[(1,.int .i64 a_1),(5,.pointer (some ⟨bb1,0,none⟩)),(9,.pointer (some ⟨bb7,0,none⟩))]∧SH w w' [Ch.box bb7 (qt r2 p27 p28 p29 k25 k26 k27) 128,Ch.grp (old w) S8 [fct (r2:qk) [.string r2.Ar,.int .i64 r2.Aq,.slice p27 r2.Ap.length k25,.slice p28 r2.Am.length k26,.slice p29 r2.Az.length k27,.int .i64 r2.Bm,.int .i64 r2.Bi]],Ch.box bb1 (qhI y2) 95]) 0 (bits 9 511) ?_ ?_
 ·intro K
  refine At 6 7 127 191 rfl ?_ ?_
  ·have hg3:Rg (old w) w (old w) w:=.start (fun _ h=>h)
   refine qfI r2 hg3 h (cB 79 rfl) (qem (hg3.atB h) (qit _ (hg3.inBS h s2) (hg3.inBS h s3) (hg3.inBS h s4) (hg3.inBS h s5) (hg3.inBS h s6)) hr5) rfl rfl rfl rfl fun w17 us3 S7 h hv3=>?_
   obtain ⟨cs7,rfl,hr10⟩:=qeY hv3
   have hr11:=hr10
   obtain ⟨p24,k22,p25,k23,p26,k24,rfl,s18,s19,s20⟩:=qE hr10
   replace h:=h.grpAdd 0 rfl hr11
   exact Ag (h.pick [1] rfl) (Ao 7 255 rfl (qy qa h rfl rfl rfl fun w18 bb6 h=>Ag (h.pick [2] rfl) (Ao 8 511 rfl (zs 0 h rfl fun w19 h=>Ag (h.pick [2] rfl) (qjl [(1,_),(5,_),(9,_)] ⟨rfl,rfl,rfl,trivial⟩ (K _ _ ⟨_,_,_,_,_,_,_,_,rfl,h⟩))))))
  refine qy qa h rfl rfl rfl fun w17 bb6 h=>Ag (h.pick [1] rfl) (Ao 6 255 rfl ?_)
  have hg3:Rg (old w) w (old w) w:=.start (fun _ h=>h)
  refine qfI r2 hg3 h (cB 79 rfl) (qem (hg3.atB h) (qit _ (hg3.inBS h s2) (hg3.inBS h s3) (hg3.inBS h s4) (hg3.inBS h s5) (hg3.inBS h s6)) hr5) rfl rfl rfl rfl fun w18 us3 S7 h hv3=>?_
  obtain ⟨cs7,rfl,hr10⟩:=qeY hv3
  have hr11:=hr10
  obtain ⟨p24,k22,p25,k23,p26,k24,rfl,s18,s19,s20⟩:=qE hr10
  replace h:=h.grpAdd 0 rfl hr11
  refine Ag (h.pick [2] rfl) (Ao 8 511 rfl (zs 1 h rfl fun w19 h=>Ag (h.pick [2] rfl) ?_))
  replace h:=h.pick [1,0,2] rfl
  exact qjl [(1,_),(5,_),(9,_)] ⟨rfl,rfl,rfl,trivial⟩ (K _ _ ⟨_,_,_,_,_,_,_,_,rfl,h⟩)
 rintro e3 w20 ⟨bb7,p27,k25,p28,k26,p29,k27,S8,rfl,h⟩
 refine Ad (X1 6 0 h rfl (zcB h hF (qco ⟨_,_,rfl,(qfC (h.grp 1 0 rfl rfl)).2.1.1⟩ (qgm (x:=y2) 2 h rfl (qel y2))) rfl fun r3 w21 h hF=>qbs (qr rfl hF ?_ ?_)))<;>intro hF
 ·refine qeq (rA [] [0,2] h rfl fun w22 h=>M2 31 [0,1,2,3,4] 1 0 (h.pick [0,2] rfl) rfl (Ao 5 63 rfl (zcI h hF (qdv (h.grp 1 0 rfl rfl)) rfl fun r4 w23 h hF=>G0 127 [6] (h.pick [0,2] rfl) rfl (Ao 7 255 rfl (qp qa [.tmp 71] _ ([W64 ((W64 (a_1-y2.pin))+r4)]:List Int) h rfl rfl rfl rfl rfl rfl rfl rfl rfl ⟨rfl,trivial⟩ rfl fun w24 p30 S9 h=>G0 511 [8] (h.pick [1,3] rfl) rfl (Ad ?_))))))
  replace h:=h.pick [0,1,3] rfl
  obtain rfl:=qb hF
  exact rO 0 h rfl ⟨rfl,trivial⟩
 refine X0 5 rfl ?_
 replace h:=h.pick [0,2] rfl
 obtain rfl:=qb hF
 exact qa9 qa (ρ:=(List Int)) [GoT.v (List Int) [.slice none 0 0]] h ⟨rfl,trivial⟩ (PV.done h (qbA qfA))
end Go.Fw


namespace Go.Fw
open Go Go.Proofs
open Go.RowKit (Below)
set_option maxRecDepth 100000
set_option maxHeartbeats 6400000
variable {n:Nat} {w:World} {cs1 cs2 cs3 cs4 cs5 cs6 cs7 cs8 cs9:List Value}
def qfK (n:Nat) (b:qd):Option Int :=
 (qbD n (⟨b.Aa.Ab,b.Aa.Ai,b.Aa.Af⟩:qc)).bind fun r1 =>
 some (r1.length:Int)
theorem qi9 {b:qd} (ha1:GoT.R w (old w) b cs1) {r:Int} (hF:qfK n b=some r):RetV Tryz.prog 40 [GoT.v qd cs1] w r:=by
 obtain ⟨p1,k1,p2,k2,p3,k3,p4,k4,p5,k5,rfl,s1,s2,s3,s4,s5⟩:=qP ha1
 exact zV 7 Tryz.func40 rfl fun h=>zSR (qV h rfl rfl fun w1 bb1 h=>X1 6 0 h rfl (zcL h hF (qci (qaL _ (h.oldS s2) (h.oldS s3) (h.oldS s4))) rfl fun r1 w2 S1 p6 k6 h hF=>X0 3 rfl (ri h hF rfl)))
def qcu (n:Nat) (b:qd) (place:Int):Option ((List Int) × Int) :=
 (qf7 n b).bind fun r1 =>
 bif (!r1) then some ([],1) else
 (qfK n b).bind fun r2 =>
 (qan n place 0 (W64 (r2-1))).bind fun r3 =>
 bif (!r3) then some ([],2) else
 (qfE n b place).bind fun r4 =>
 some (r4,0)
theorem qfc {b:qd} {place:Int} (ha1:GoT.R w (old w) b cs1) {r:((List Int) × Int)} (hF:qcu n b place=some r):RetV Tryz.prog 10 [GoT.v qd cs1,.int .i64 place] w r:=by
 obtain ⟨p1,k1,p2,k2,p3,k3,p4,k4,p5,k5,rfl,s1,s2,s3,s4,s5⟩:=qP ha1
 refine zV 18 Tryz.func10 rfl fun h=>zSR (qV h rfl rfl fun w1 bb1 h=>X1 7 0 h rfl (zcB h hF (qjp (h.old ha1)) rfl fun r1 w2 h hF=>X0 2 rfl (qr rfl hF ?_ ?_)))<;>intro hF
 ·refine X0 5 rfl ?_
  obtain rfl:=qb hF
  exact qa9 qa (ρ:=((List Int) × Int)) [GoT.v (List Int) [.slice none 0 0],GoT.v Int [.int .i64 1]] h ⟨rfl,rfl,trivial⟩ (PV.done h (qbU h qfA (qbA (qN (S:=fun _=>False) rfl)) (by rfl)))
 refine X1 6 0 h rfl (zcI h hF (qi9 (h.old ha1)) rfl fun r2 w3 h hF=>zp1 rfl (zcB h hF qac rfl fun r3 w4 h hF=>X0 2 rfl (qr rfl hF ?_ ?_)))<;>intro hF
 ·refine X0 5 rfl ?_
  obtain rfl:=qb hF
  exact qa9 qa (ρ:=((List Int) × Int)) [GoT.v (List Int) [.slice none 0 0],GoT.v Int [.int .i64 2]] h ⟨rfl,rfl,trivial⟩ (PV.done h (qbU h qfA (qbA (qN (S:=fun _=>False) rfl)) (by rfl)))
 refine X1 5 0 h rfl (zcL h hF (qiX (h.old ha1)) rfl fun r4 w5 S1 p6 k6 h hF=>X0 3 rfl ?_)
 obtain rfl:=qb hF
 exact qa9 qa (ρ:=((List Int) × Int)) [GoT.v (List Int) [.slice p6 r4.length k6],GoT.v Int [.int .i64 0]] h ⟨rfl,rfl,trivial⟩ (PV.done h (qbU h (qJ 0 h rfl) (qbA (qN (S:=fun _=>False) rfl)) (by rfl)))
def qbz (_:Nat) (list:(List Tplace)):Option Int :=
 some (list.length:Int)
theorem qeF {list:(List Tplace)} (ha1:GoT.R w (old w) list cs1) {r:Int} (hF:qbz n list=some r):RetV Tryz.prog 77 [GoT.v (List Tplace) cs1] w r:=by
 obtain ⟨p1,k1,rfl,s1⟩:=ha1
 exact zV 5 Tryz.func77 rfl fun h=>X0 10 rfl (ri h hF rfl)
def qfg (n:Nat) (v:(Option Tview)) (place:Int):Option Bool :=
 (v).bind fun y1 =>
 (qbz n y1.places).bind fun r1 =>
 (qau n place 0 (W64 (r1-1))).bind fun r2 =>
 some r2
theorem qhQ {v:(Option Tview)} {place:Int} (ha1:GoT.R w (old w) v cs1) {r:Bool} (hF:qfg n v place=some r):RetV Tryz.prog 36 [GoT.v (Option Tview) cs1,.int .i64 place] w r:=by
 obtain ⟨p1,rfl,s1⟩:=qeK ha1
 refine zV 13 Tryz.func36 rfl fun h=>X0 8 rfl ?_
 obtain ⟨y1,hy1,hF⟩:=qe hF
 obtain ⟨b1,o_1,cs2,rfl,-,hr1,hc1⟩:=PtR.get s1 hy1
 obtain ⟨p2,k1,p3,k2,p4,k3,p5,k4,p6,k5,p7,k6,p8,k7,p9,k8,p10,k9,p11,k10,rfl,s2,s3,s4,s5,s6,s7,s8,s9,s10,s11⟩:=qeV hr1
 exact zp2 rfl (zc 5 (hc1.below h.below) rfl (zcI h hF (qeF ⟨_,_,rfl,(h.oldS s7)⟩) rfl fun r1 w1 h hF=>zp1 rfl (zcB h hF qam rfl fun r2 w2 h hF=>X0 2 rfl (rb h hF rfl))))
def qdu (n:Nat) (b:qd) (place:Int):Option ((List Int) × Int) :=
 (qdS n b).bind fun r1 =>
 bif (!r1) then some ([],1) else
 (qdX n b).bind fun r2 =>
 (qfg n r2 place).bind fun r3 =>
 bif (!r3) then some ([],2) else
 (qcd n r2 place).bind fun r4 =>
 some (r4,0)
theorem qg6 {b:qd} {place:Int} (ha1:GoT.R w (old w) b cs1) {r:((List Int) × Int)} (hF:qdu n b place=some r):RetV Tryz.prog 9 [GoT.v qd cs1,.int .i64 place] w r:=by
 obtain ⟨p1,k1,p2,k2,p3,k3,p4,k4,p5,k5,rfl,s1,s2,s3,s4,s5⟩:=qP ha1
 refine zV 19 Tryz.func9 rfl fun h=>zSR (qV h rfl rfl fun w1 bb1 h=>X1 7 0 h rfl (zcB h hF (qeN (h.old ha1)) rfl fun r1 w2 h hF=>X0 2 rfl (qr rfl hF ?_ ?_)))<;>intro hF
 ·refine X0 5 rfl ?_
  obtain rfl:=qb hF
  exact qa9 qa (ρ:=((List Int) × Int)) [GoT.v (List Int) [.slice none 0 0],GoT.v Int [.int .i64 1]] h ⟨rfl,rfl,trivial⟩ (PV.done h (qbU h qfA (qbA (qN (S:=fun _=>False) rfl)) (by rfl)))
 refine X1 4 0 h rfl ?_
 have hg1:Rg (old w) w (old w) w:=.start (fun _ h=>h)
 obtain ⟨r2,hr2,hF⟩:=qe hF
 refine qiR r2 hg1 h (cB 35 rfl) (qeR (hg1.regOld h) (hg1.inR h ha1) hr2) rfl rfl rfl rfl fun w3 us1 B1 hg2 hu1 hz1 hv1=>?_
 have hL1:=h.ext hu1.below
 have hb1:=h.below.trans (hu1.below.mono h.below.size)
 replace h:=hz1
 obtain ⟨cs2,rfl,hr3⟩:=qeY hv1
 obtain ⟨p6,rfl,s6⟩:=qeK hr3
 refine X0 7 rfl (zcB h hF (qhQ (h.old (GoT.mono s6 hg2.old))) rfl fun r3 w4 h hF=>X0 2 rfl (qr rfl hF ?_ ?_))<;>intro hF
 ·refine X0 5 rfl ?_
  replace h:=h.unbase hg2.below (show NoD [] from trivial)
  obtain rfl:=qb hF
  exact qa9 qa (ρ:=((List Int) × Int)) [GoT.v (List Int) [.slice none 0 0],GoT.v Int [.int .i64 2]] h ⟨rfl,rfl,trivial⟩ (PV.done h (qbU h qfA (qbA (qN (S:=fun _=>False) rfl)) (by rfl)))
 refine X0 5 rfl (zcL h hF (qe3 (h.old (GoT.mono s6 hg2.old))) rfl fun r4 w5 S1 p7 k6 h hF=>X0 3 rfl ?_)
 replace h:=h.unbase hg2.below ⟨fun _ h=>h,trivial⟩
 obtain rfl:=qb hF
 exact qa9 qa (ρ:=((List Int) × Int)) [GoT.v (List Int) [.slice p7 r4.length k6],GoT.v Int [.int .i64 0]] h ⟨rfl,rfl,trivial⟩ (PV.done h (qbU h (qJ 0 h rfl) (qbA (qN (S:=fun _=>False) rfl)) (by rfl)))
def qec (n:Nat) (v:(Option Tview)) (p:Tplace):Option Bool :=
 bif decide (p.instance_<0) then
  bif p.drives then some true else
  (qbp n v p).bind fun r1 =>
  some r1
 else
  (qbp n v p).bind fun r2 =>
  some r2
theorem qhz {v:(Option Tview)} {p:Tplace} (ha1:GoT.R w (old w) v cs1) (ha2:GoT.R w (old w) p cs2) {r:Bool} (hF:qec n v p=some r):RetV Tryz.prog 44 [GoT.v (Option Tview) cs1,GoT.v Tplace cs2] w r:=by
 obtain ⟨p1,rfl,s1⟩:=qeK ha1
 obtain rfl:=qaA ha2
 refine zV 17 Tryz.func44 rfl fun h=>zSR (qV h rfl rfl fun w1 bb1 h=>X1 8 0 h rfl (qh (t:=8) hF rfl ?_ ?_))<;>intro hF
 ·refine X1 6 0 h rfl (qh (t:=12) hF rfl ?_ ?_)<;>intro hF
  ·exact X0 6 rfl (rb h hF rfl)
  exact X1 5 0 h rfl (zcB h hF (qdK (h.old s1) (h.old ha2)) rfl fun r1 w2 h hF=>X0 3 rfl (rb h hF rfl))
 exact X1 9 0 h rfl (zcB h hF (qdK (h.old s1) (h.old ha2)) rfl fun r2 w3 h hF=>X0 3 rfl (rb h hF rfl))
def qM (r2:(Option Tview)) (y1:Tview):Nat→(List Int)→Int→Option ((List Int) × Int)
 | 0,_,_=>none
 | n+1,x1,i1 =>
  bif decide (i1<(y1.places.length:Int)) then
   (idx y1.places i1).bind fun y2 =>
   (qec n r2 y2).bind fun r3 =>
   bif r3 then
    (appS x1 ([i1]:List Int)).bind fun x2 =>
    qM r2 y1 n x2 (W64 (i1+1))
   else
    qM r2 y1 n x1 (W64 (i1+1))
  else
   some (x1,i1)
def qbT (n:Nat) (b:qd):Option ((List Int) × Int) :=
 (qdS n b).bind fun r1 =>
 bif (!r1) then some ([],1) else
 (qdX n b).bind fun r2 =>
 (r2).bind fun y1 =>
 (qM r2 y1 n ([]:List Int) 0).bind fun o=>match o with
 | (x1,_) =>
  some (x1,0)
theorem qeW {b:qd} (ha1:GoT.R w (old w) b cs1) {r:((List Int) × Int)} (hF:qbT n b=some r):RetV Tryz.prog 43 [GoT.v qd cs1,.func (.func 44) #[] #[]] w r:=by
 obtain ⟨p1,k1,p2,k2,p3,k3,p4,k4,p5,k5,rfl,s1,s2,s3,s4,s5⟩:=qP ha1
 refine zV 35 Tryz.func43 rfl fun h=>zSR (qV h rfl rfl fun w1 bb1 h=>X1 7 0 h rfl (zcB h hF (qeN (h.old ha1)) rfl fun r1 w2 h hF=>X0 2 rfl (qr rfl hF ?_ ?_)))<;>intro hF
 ·refine X0 5 rfl ?_
  obtain rfl:=qb hF
  exact qa9 qa (ρ:=((List Int) × Int)) [GoT.v (List Int) [.slice none 0 0],GoT.v Int [.int .i64 1]] h ⟨rfl,rfl,trivial⟩ (PV.done h (qbU h qfA (qbA (qN (S:=fun _=>False) rfl)) (by rfl)))
 refine X1 4 0 h rfl ?_
 have hg1:Rg (old w) w (old w) w:=.start (fun _ h=>h)
 obtain ⟨r2,hr2,hF⟩:=qe hF
 refine qiR r2 hg1 h (cB 35 rfl) (qeR (hg1.regOld h) (hg1.inR h ha1) hr2) rfl rfl rfl rfl fun w3 us1 B1 hg2 hu1 hz1 hv1=>?_
 have hL1:=h.ext hu1.below
 have hb1:=h.below.trans (hu1.below.mono h.below.size)
 replace h:=hz1
 obtain ⟨cs2,rfl,hr3⟩:=qeY hv1
 obtain ⟨p6,rfl,s6⟩:=qeK hr3
 refine X0 10 rfl ?_
 obtain ⟨y1,hy1,hF⟩:=qe hF
 obtain ⟨b1,o_1,cs3,rfl,-,hr4,hc2⟩:=PtR.get s6 hy1
 obtain ⟨p7,k6,p8,k7,p9,k8,p10,k9,p11,k10,p12,k11,p13,k12,p14,k13,p15,k14,p16,k15,rfl,s7,s8,s9,s10,s11,s12,s13,s14,s15,s16⟩:=qeV hr4
 refine zp2 rfl (zc 5 (hc2.below h.below) rfl (X0 3 rfl ?_))
 replace h:=h.nil (α:=Int)
 obtain ⟨o1,hF,hK1⟩:=qe hF
 refine qq (rL (fun m e w'=>∃ (S1:Nat→Prop) (p17:Option Addr) (ln1:Nat) (k16:Nat) (x1:(List Int)) (i1:Int),qM r2 y1 m x1 i1=some o1∧e=[(1,.func (.func 44) #[] #[]),(6,.pointer (some ⟨b1,o_1,none⟩)),(7,.slice p17 ln1 k16),(18,.slice p12 y1.places.length k11),(19,.int .i64 (y1.places.length:Int)),(20,.int .i64 i1)]∧SH w3 w' [Ch.own S1 (x1:List Int) [.slice p17 ln1 k16]]) n ⟨_,_,_,_,_,_,hF,rfl,h⟩ rfl ?_)
 rintro m1 e1 w4 ⟨S1,p17,ln1,k16,x1,i1,hF,rfl,h⟩
 obtain rfl:=(h.sl 0 rfl).2
 rcases m1 with _|m1
 ·cases hF
 refine X0 5 rfl (qr rfl hF ?_ ?_)<;>intro hF
 ·refine X0 6 rfl ?_
  obtain ⟨y2,hy2,hF,he1,b2,_,q1,cs4,hp1,hq1,hr5,hc4⟩:=s12.ix hF
  obtain rfl:=qaA hr5
  refine zxe hp1 hq1 he1 rfl (zc 0 (hc4.below h.below) rfl (qy qa h rfl rfl rfl fun w5 bb2 h=>zp1 rfl (zs 0 h rfl fun w6 h=>X1 6 0 h rfl (zcB h hF (qhz (h.old (GoT.mono s6 hg2.old)) (qel y2)) rfl fun r3 w7 h hF=>qbs (qr rfl hF ?_ ?_)))))<;>intro hF
  ·refine X0 3 rfl (qp qa [.tmp 30] _ ([i1]:List Int) h rfl rfl rfl rfl rfl rfl rfl rfl rfl ⟨rfl,trivial⟩ rfl fun w8 p18 S2 h=>?_)
   obtain ⟨x2,hx1,hF⟩:=qe hF
   obtain ⟨g1,hx1⟩:=qx hx1
   refine qaq qa 2 h rfl (h.sl 0 rfl).1 (h.sl 0 rfl).2 rfl rfl rfl rfl rfl rfl rfl rfl rfl g1 hx1 rfl fun w9 p19 k17 S3 h=>X0 7 rfl ?_
   replace h:=h.pick [2] rfl
   exact rK ⟨_,_,_,_,_,_,hF,rfl,h⟩ rfl
  refine X0 6 rfl ?_
  replace h:=h.pick [1] rfl
  exact rK ⟨_,_,_,_,_,_,hF,rfl,h⟩ rfl
 refine qw rfl ?_
 obtain rfl:=qb hF;replace hF:=hK1
 refine X0 6 rfl ?_
 replace h:=h.unbase hg2.below ⟨fun _ h=>h,trivial⟩
 obtain rfl:=qb hF
 exact qa9 qa (ρ:=((List Int) × Int)) [GoT.v (List Int) [.slice p17 x1.length k16],GoT.v Int [.int .i64 0]] h ⟨rfl,rfl,trivial⟩ (PV.done h (qbU h (qJ 0 h rfl) (qbA (qN (S:=fun _=>False) rfl)) (by rfl)))
def qew (n:Nat) (b:qd):Option ((List Int) × Int) :=
 (qbT n b).bind fun o=>match o with
  | (r2,r3) =>
   some (r2,r3)
theorem qia {b:qd} (ha1:GoT.R w (old w) b cs1) {r:((List Int) × Int)} (hF:qew n b=some r):RetV Tryz.prog 12 [GoT.v qd cs1] w r:=by
 obtain ⟨p1,k1,p2,k2,p3,k3,p4,k4,p5,k5,rfl,s1,s2,s3,s4,s5⟩:=qP ha1
 refine zV 8 Tryz.func12 rfl fun h=>zSR (qV h rfl rfl fun w1 bb1 h=>X1 6 0 h rfl ?_)
 obtain ⟨r1,hr1,hF⟩:=qe hF
 obtain ⟨r2,r3⟩:=r1
 refine qep (r2,r3) h (cB 43 rfl) (qeW (h.old ha1) hr1) rfl rfl rfl rfl fun w2 S1 us1 hv1 hr2=>?_
 obtain ⟨S2,S3,p6,k6,us2,rfl,hv2,hr3⟩:=hv1.consL hr2
 obtain ⟨rfl,h⟩:=hv2.lastI hr3
 refine X0 5 rfl ?_
 obtain rfl:=qb hF
 exact qa9 qa (ρ:=((List Int) × Int)) [GoT.v (List Int) [.slice p6 r2.length k6],GoT.v Int [.int .i64 r3]] h ⟨rfl,rfl,trivial⟩ (PV.done h (qbU h (qJ 0 h rfl) (qbA (qN (S:=fun _=>False) rfl)) (by rfl)))
def qdk (n:Nat) (a:qS) (v0:Tplace):Option Bool :=
 (qe6 n a.Aq).bind fun r1 =>
 bif r1 then some (a.To==v0.pin) else
 some false
theorem qhs {a:qS} {v0:Tplace} (ha1:GoT.R w (old w) a cs1) {p3:Option Addr} (ha2:GoT.R w (old w) (some v0) [.pointer p3]) {r:Bool} (hF:qdk n a v0=some r):RetV Tryz.prog 94 [GoT.v qS cs1,.pointer p3] w r:=by
 obtain ⟨p1,k1,p2,k2,rfl,s1,s2⟩:=qaj ha1
 obtain ⟨b1,o_1,cs2,rfl,-,hr1,hc1⟩:=PtR.get ha2 rfl
 obtain rfl:=qaA hr1
 refine zV 14 Tryz.func94 rfl fun h=>zSR (qV h rfl rfl fun w1 bb1 h=>X1 6 0 h rfl (zcB h hF qhn rfl fun r1 w2 h hF=>zp1 rfl (qh (t:=7) hF rfl ?_ ?_)))<;>intro hF
 ·exact X1 7 0 h rfl (zc 1 (hc1.below h.below) rfl (X0 5 rfl (rb h hF rfl)))
 exact X0 8 rfl (rb h hF rfl)
def qH (s:(List qS)) (f_0:Tplace):Nat→Int→Option (Flow Int Int)
 | 0,_=>none
 | n+1,i1 =>
  bif decide (i1<(s.length:Int)) then
   (idx s i1).bind fun y1 =>
   (qdk n y1 f_0).bind fun r1 =>
   bif r1 then some (.ret i1) else
   qH s f_0 n (W64 (i1+1))
  else
   some (.nxt i1)
def qaJ (n:Nat) (s:(List qS)) (f_0:Tplace):Option Int :=
 (qH s f_0 n 0).bind fun o=>match o with
 | .ret r=>some r
 | .nxt _ =>
  some (-1)
theorem qdo {s:(List qS)} {f_0:Tplace} (ha1:GoT.R w (old w) s cs1) {p2:Option Addr} (ha2:GoT.R w (old w) (some f_0) [.pointer p2]) {r:Int} (hF:qaJ n s f_0=some r):RetV Tryz.prog 129 [GoT.v (List qS) cs1,.func (.func 94) #[] #[.pointer p2]] w r:=by
 obtain ⟨p1,k1,rfl,s1⟩:=ha1
 obtain ⟨b1,o_1,cs2,rfl,-,hr1,hc1⟩:=PtR.get ha2 rfl
 obtain rfl:=qaA hr1
 refine zV 19 Tryz.func129 rfl fun h=>X0 11 rfl ?_
 obtain ⟨o1,hF,hK1⟩:=qe hF
 refine qq (rL (fun m e w'=>∃ (i1:Int),qH s f_0 m i1=some o1∧e=[(0,.slice p1 s.length k1),(1,.func (.func 94) #[] #[.pointer (some ⟨b1,o_1,none⟩)]),(7,.int .i64 (s.length:Int)),(8,.int .i64 i1)]∧SH w w' []) n ⟨_,hF,rfl,h⟩ rfl ?_)
 rintro m1 e1 w1 ⟨i1,hF,rfl,h⟩
 rcases m1 with _|m1
 ·cases hF
 refine X0 5 rfl (qr rfl hF ?_ ?_)<;>intro hF
 ·refine X0 13 rfl ?_
  obtain ⟨y1,hy1,hF,he1,b2,_,q1,cs3,hp1,hq1,hr2,hc3⟩:=s1.ix hF
  obtain ⟨p3,k2,p4,k3,rfl,s2,s3⟩:=qaj hr2
  refine zxe hp1 hq1 he1 rfl (zc 0 (hc3.below h.below) rfl (zcB h hF (qhs (qfL y1 (h.oldS s2) (h.oldS s3)) (h.old ha2)) rfl fun r1 w2 h hF=>qbs (qr rfl hF ?_ ?_)))<;>intro hF
  ·refine X0 5 rfl ?_
   obtain rfl:=qb hF;replace hF:=hK1
   exact ri h hF rfl
  exact X0 6 rfl (rK ⟨_,hF,rfl,h⟩ rfl)
 refine qw rfl ?_
 obtain rfl:=qb hF;replace hF:=hK1
 exact X0 4 rfl (ri h hF rfl)
def qah (n:Nat) (s:(List qS)) (f_0:Tplace):Option Bool :=
 (qaJ n s f_0).bind fun r1 =>
 some (decide (r1 ≥ 0))
theorem qc0 {s:(List qS)} {f_0:Tplace} (ha1:GoT.R w (old w) s cs1) {p2:Option Addr} (ha2:GoT.R w (old w) (some f_0) [.pointer p2]) {r:Bool} (hF:qah n s f_0=some r):RetV Tryz.prog 80 [GoT.v (List qS) cs1,.func (.func 94) #[] #[.pointer p2]] w r:=by
 obtain ⟨p1,k1,rfl,s1⟩:=ha1
 obtain ⟨b1,o_1,cs2,rfl,-,hr1,hc1⟩:=PtR.get ha2 rfl
 obtain rfl:=qaA hr1
 exact zV 9 Tryz.func80 rfl fun h=>X0 8 rfl (zcI h hF (qdo ⟨_,_,rfl,(h.oldS s1)⟩ (h.old ha2)) rfl fun r1 w1 h hF=>X0 3 rfl (rb h hF rfl))
def qfZ (n:Nat) (v:(Option Tview)) (p:Tplace):Option Bool :=
 bif decide (p.instance_<0) then some (!p.drives) else
 (v).bind fun y1 =>
 (qbu n (⟨(⟨y1.Bd.Ac.Ak⟩:qi),(⟨y1.Bd.Aa.Ab,y1.Bd.Aa.Ai,y1.Bd.Aa.Af⟩:qc),y1.Bd.Ah⟩:qd) p.instance_).bind fun r1 =>
 (qah n r1.Am p).bind fun r2 =>
 some r2
theorem qin {v:(Option Tview)} {p:Tplace} (ha1:GoT.R w (old w) v cs1) (ha2:GoT.R w (old w) p cs2) {r:Bool} (hF:qfZ n v p=some r):RetV Tryz.prog 45 [GoT.v (Option Tview) cs1,GoT.v Tplace cs2] w r:=by
 obtain ⟨p1,rfl,s1⟩:=qeK ha1
 obtain rfl:=qaA ha2
 refine zV 21 Tryz.func45 rfl fun h=>zSR (qV h rfl rfl fun w1 bb1 h=>X1 9 0 h rfl (qr rfl hF ?_ ?_))<;>intro hF
 ·exact X1 7 0 h rfl (rb h hF rfl)
 refine zKS (rA [] [0] h rfl fun w2 h=>M0 1 [0] (h.pick [0] rfl) rfl ?_)
 obtain ⟨y1,hy1,hF⟩:=qe hF
 obtain ⟨b1,o_1,cs3,rfl,-,hr1,hc2⟩:=PtR.get s1 hy1
 obtain ⟨p2,k1,p3,k2,p4,k3,p5,k4,p6,k5,p7,k6,p8,k7,p9,k8,p10,k9,p11,k10,rfl,s2,s3,s4,s5,s6,s7,s8,s9,s10,s11⟩:=qeV hr1
 refine M0 7 [1,2] (h.pick [0] rfl) rfl (Al 3 15 0 hc2 (h.pick [0] rfl) rfl (M1 319 [4,5,8] 0 (h.pick [0] rfl) rfl (Ao 6 383 rfl ?_)))
 have hg1:Rg (old w) w (old w) w:=.start (fun _ h=>h)
 obtain ⟨r1,hr2,hF⟩:=qe hF
 refine qiR r1 hg1 h (cB 79 rfl) (qem (hg1.regOld h) (qit _ (hg1.inS h s2) (hg1.inS h s3) (hg1.inS h s4) (hg1.inS h s5) (hg1.inS h s6)) hr2) rfl rfl rfl rfl fun w3 us1 B1 hg2 hu1 hz1 hv1=>?_
 have hL1:=h.ext hu1.below
 have hc3:=Up.box 0 h hu1 rfl
 have s12:=Up.R hg1 h hu1 ha2
 have ha3:=Up.boxP (x:=p) hg1 0 h hu1 rfl (hg1.inR h ha2)
 have hc4:=Up.C h hu1 hc2
 have s13:=Up.S hg1 h hu1 s2
 have s14:=Up.S hg1 h hu1 s3
 have s15:=Up.S hg1 h hu1 s4
 have s16:=Up.S hg1 h hu1 s5
 have s17:=Up.S hg1 h hu1 s6
 have s18:=Up.S hg1 h hu1 s7
 have s19:=Up.S hg1 h hu1 s8
 have s20:=Up.S hg1 h hu1 s9
 have s21:=Up.S hg1 h hu1 s10
 have s22:=Up.S hg1 h hu1 s11
 have hb1:=h.below.trans (hu1.below.mono h.below.size)
 have hC1:=((h.pick [0] rfl)).ext hu1.below
 replace h:=hz1
 obtain ⟨cs4,rfl,hr3⟩:=qeY hv1
 have ha4:=hr3
 obtain ⟨p12,k11,p13,k12,p14,k13,rfl,s23,s24,s25⟩:=qE hr3
 refine qen (fun _=>(hC1.ext h.below)) (qio 7 rfl (bits 11 511) (by kernel_rfl) (by kernel_rfl) (fun w' hw=>v_p qa rfl w') (hC1.ext h.below) rfl (Ao 9 1023 rfl (zcB h hF (qc0 ⟨_,_,rfl,(h.oldS (s24.mono hg2.old))⟩ (h.old (GoT.mono ha3 hg2.old))) rfl fun r2 w4 h hF=>qen (fun _=>(hC1.ext h.below)) (qio 10 rfl (bits 11 2047) (by kernel_rfl) (by kernel_rfl) (fun w' hw=>v_p qa rfl w') (hC1.ext h.below) rfl (Ad ?_)))))
 replace h:=h.unbase hg2.below (show NoD [] from trivial)
 exact rb h hF rfl
def qR (r2:(Option Tview)) (y1:Tview):Nat→(List Int)→Int→Option ((List Int) × Int)
 | 0,_,_=>none
 | n+1,x1,i1 =>
  bif decide (i1<(y1.places.length:Int)) then
   (idx y1.places i1).bind fun y2 =>
   (qfZ n r2 y2).bind fun r3 =>
   bif r3 then
    (appS x1 ([i1]:List Int)).bind fun x2 =>
    qR r2 y1 n x2 (W64 (i1+1))
   else
    qR r2 y1 n x1 (W64 (i1+1))
  else
   some (x1,i1)
def qcb (n:Nat) (b:qd):Option ((List Int) × Int) :=
 (qdS n b).bind fun r1 =>
 bif (!r1) then some ([],1) else
 (qdX n b).bind fun r2 =>
 (r2).bind fun y1 =>
 (qR r2 y1 n ([]:List Int) 0).bind fun o=>match o with
 | (x1,_) =>
  some (x1,0)
theorem qfi {b:qd} (ha1:GoT.R w (old w) b cs1) {r:((List Int) × Int)} (hF:qcb n b=some r):RetV Tryz.prog 43 [GoT.v qd cs1,.func (.func 45) #[] #[]] w r:=by
 obtain ⟨p1,k1,p2,k2,p3,k3,p4,k4,p5,k5,rfl,s1,s2,s3,s4,s5⟩:=qP ha1
 refine zV 35 Tryz.func43 rfl fun h=>zSR (qV h rfl rfl fun w1 bb1 h=>X1 7 0 h rfl (zcB h hF (qeN (h.old ha1)) rfl fun r1 w2 h hF=>X0 2 rfl (qr rfl hF ?_ ?_)))<;>intro hF
 ·refine X0 5 rfl ?_
  obtain rfl:=qb hF
  exact qa9 qa (ρ:=((List Int) × Int)) [GoT.v (List Int) [.slice none 0 0],GoT.v Int [.int .i64 1]] h ⟨rfl,rfl,trivial⟩ (PV.done h (qbU h qfA (qbA (qN (S:=fun _=>False) rfl)) (by rfl)))
 refine X1 4 0 h rfl ?_
 have hg1:Rg (old w) w (old w) w:=.start (fun _ h=>h)
 obtain ⟨r2,hr2,hF⟩:=qe hF
 refine qiR r2 hg1 h (cB 35 rfl) (qeR (hg1.regOld h) (hg1.inR h ha1) hr2) rfl rfl rfl rfl fun w3 us1 B1 hg2 hu1 hz1 hv1=>?_
 have hL1:=h.ext hu1.below
 have hb1:=h.below.trans (hu1.below.mono h.below.size)
 replace h:=hz1
 obtain ⟨cs2,rfl,hr3⟩:=qeY hv1
 obtain ⟨p6,rfl,s6⟩:=qeK hr3
 refine X0 10 rfl ?_
 obtain ⟨y1,hy1,hF⟩:=qe hF
 obtain ⟨b1,o_1,cs3,rfl,-,hr4,hc2⟩:=PtR.get s6 hy1
 obtain ⟨p7,k6,p8,k7,p9,k8,p10,k9,p11,k10,p12,k11,p13,k12,p14,k13,p15,k14,p16,k15,rfl,s7,s8,s9,s10,s11,s12,s13,s14,s15,s16⟩:=qeV hr4
 refine zp2 rfl (zc 5 (hc2.below h.below) rfl (X0 3 rfl ?_))
 replace h:=h.nil (α:=Int)
 obtain ⟨o1,hF,hK1⟩:=qe hF
 refine qq (rL (fun m e w'=>∃ (S1:Nat→Prop) (p17:Option Addr) (ln1:Nat) (k16:Nat) (x1:(List Int)) (i1:Int),qR r2 y1 m x1 i1=some o1∧e=[(1,.func (.func 45) #[] #[]),(6,.pointer (some ⟨b1,o_1,none⟩)),(7,.slice p17 ln1 k16),(18,.slice p12 y1.places.length k11),(19,.int .i64 (y1.places.length:Int)),(20,.int .i64 i1)]∧SH w3 w' [Ch.own S1 (x1:List Int) [.slice p17 ln1 k16]]) n ⟨_,_,_,_,_,_,hF,rfl,h⟩ rfl ?_)
 rintro m1 e1 w4 ⟨S1,p17,ln1,k16,x1,i1,hF,rfl,h⟩
 obtain rfl:=(h.sl 0 rfl).2
 rcases m1 with _|m1
 ·cases hF
 refine X0 5 rfl (qr rfl hF ?_ ?_)<;>intro hF
 ·refine X0 6 rfl ?_
  obtain ⟨y2,hy2,hF,he1,b2,_,q1,cs4,hp1,hq1,hr5,hc4⟩:=s12.ix hF
  obtain rfl:=qaA hr5
  refine zxe hp1 hq1 he1 rfl (zc 0 (hc4.below h.below) rfl (qy qa h rfl rfl rfl fun w5 bb2 h=>zp1 rfl (zs 0 h rfl fun w6 h=>X1 6 0 h rfl (zcB h hF (qin (h.old (GoT.mono s6 hg2.old)) (qel y2)) rfl fun r3 w7 h hF=>qbs (qr rfl hF ?_ ?_)))))<;>intro hF
  ·refine X0 3 rfl (qp qa [.tmp 30] _ ([i1]:List Int) h rfl rfl rfl rfl rfl rfl rfl rfl rfl ⟨rfl,trivial⟩ rfl fun w8 p18 S2 h=>?_)
   obtain ⟨x2,hx1,hF⟩:=qe hF
   obtain ⟨g1,hx1⟩:=qx hx1
   refine qaq qa 2 h rfl (h.sl 0 rfl).1 (h.sl 0 rfl).2 rfl rfl rfl rfl rfl rfl rfl rfl rfl g1 hx1 rfl fun w9 p19 k17 S3 h=>X0 7 rfl ?_
   replace h:=h.pick [2] rfl
   exact rK ⟨_,_,_,_,_,_,hF,rfl,h⟩ rfl
  refine X0 6 rfl ?_
  replace h:=h.pick [1] rfl
  exact rK ⟨_,_,_,_,_,_,hF,rfl,h⟩ rfl
 refine qw rfl ?_
 obtain rfl:=qb hF;replace hF:=hK1
 refine X0 6 rfl ?_
 replace h:=h.unbase hg2.below ⟨fun _ h=>h,trivial⟩
 obtain rfl:=qb hF
 exact qa9 qa (ρ:=((List Int) × Int)) [GoT.v (List Int) [.slice p17 x1.length k16],GoT.v Int [.int .i64 0]] h ⟨rfl,rfl,trivial⟩ (PV.done h (qbU h (qJ 0 h rfl) (qbA (qN (S:=fun _=>False) rfl)) (by rfl)))
def qe9 (n:Nat) (b:qd):Option ((List Int) × Int) :=
 (qcb n b).bind fun o=>match o with
  | (r2,r3) =>
   some (r2,r3)
theorem qiQ {b:qd} (ha1:GoT.R w (old w) b cs1) {r:((List Int) × Int)} (hF:qe9 n b=some r):RetV Tryz.prog 13 [GoT.v qd cs1] w r:=by
 obtain ⟨p1,k1,p2,k2,p3,k3,p4,k4,p5,k5,rfl,s1,s2,s3,s4,s5⟩:=qP ha1
 refine zV 8 Tryz.func13 rfl fun h=>zSR (qV h rfl rfl fun w1 bb1 h=>X1 6 0 h rfl ?_)
 obtain ⟨r1,hr1,hF⟩:=qe hF
 obtain ⟨r2,r3⟩:=r1
 refine qep (r2,r3) h (cB 43 rfl) (qfi (h.old ha1) hr1) rfl rfl rfl rfl fun w2 S1 us1 hv1 hr2=>?_
 obtain ⟨S2,S3,p6,k6,us2,rfl,hv2,hr3⟩:=hv1.consL hr2
 obtain ⟨rfl,h⟩:=hv2.lastI hr3
 refine X0 5 rfl ?_
 obtain rfl:=qb hF
 exact qa9 qa (ρ:=((List Int) × Int)) [GoT.v (List Int) [.slice p6 r2.length k6],GoT.v Int [.int .i64 r3]] h ⟨rfl,rfl,trivial⟩ (PV.done h (qbU h (qJ 0 h rfl) (qbA (qN (S:=fun _=>False) rfl)) (by rfl)))
def qbf (s:(List Int)) (v:Int):Nat→Int→Option (Flow Int Int)
 | 0,_=>none
 | n+1,i1 =>
  bif decide (i1<(s.length:Int)) then
   (idx s i1).bind fun y1 =>
   bif (v==y1) then some (.ret i1) else
   qbf s v n (W64 (i1+1))
  else
   some (.nxt i1)
def qeX (n:Nat) (s:(List Int)) (v:Int):Option Int :=
 (qbf s v n 0).bind fun o=>match o with
 | .ret r=>some r
 | .nxt _ =>
  some (-1)
theorem qhq {s:(List Int)} {v:Int} (ha1:GoT.R w (old w) s cs1) {r:Int} (hF:qeX n s v=some r):RetV Tryz.prog 133 [GoT.v (List Int) cs1,.int .i64 v] w r:=by
 obtain ⟨p1,k1,rfl,s1⟩:=ha1
 refine zV 19 Tryz.func133 rfl fun h=>X0 11 rfl ?_
 obtain ⟨o1,hF,hK1⟩:=qe hF
 refine qq (rL (fun m e w'=>∃ (i1:Int),qbf s v m i1=some o1∧e=[(0,.slice p1 s.length k1),(1,.int .i64 v),(7,.int .i64 (s.length:Int)),(8,.int .i64 i1)]∧SH w w' []) n ⟨_,hF,rfl,h⟩ rfl ?_)
 rintro m1 e1 w1 ⟨i1,hF,rfl,h⟩
 rcases m1 with _|m1
 ·cases hF
 refine X0 5 rfl (qr rfl hF ?_ ?_)<;>intro hF
 ·refine X0 13 rfl ?_
  obtain ⟨y1,hy1,hF,he1,b1,_,q1,cs2,hp1,hq1,rfl,hc2⟩:=s1.ix hF
  refine zxe hp1 hq1 he1 rfl (zc 0 (hc2.below h.below) rfl (X0 2 rfl (qr rfl hF ?_ ?_)))<;>intro hF
  ·refine X0 5 rfl ?_
   obtain rfl:=qb hF;replace hF:=hK1
   exact ri h hF rfl
  exact X0 6 rfl (rK ⟨_,hF,rfl,h⟩ rfl)
 refine qw rfl ?_
 obtain rfl:=qb hF;replace hF:=hK1
 exact X0 4 rfl (ri h hF rfl)
def qcZ (n:Nat) (s:(List Int)) (v:Int):Option Bool :=
 (qeX n s v).bind fun r1 =>
 some (decide (r1 ≥ 0))
theorem qgI {s:(List Int)} {v:Int} (ha1:GoT.R w (old w) s cs1) {r:Bool} (hF:qcZ n s v=some r):RetV Tryz.prog 93 [GoT.v (List Int) cs1,.int .i64 v] w r:=by
 obtain ⟨p1,k1,rfl,s1⟩:=ha1
 exact zV 9 Tryz.func93 rfl fun h=>X0 8 rfl (zcI h hF (qhq ⟨_,_,rfl,(h.oldS s1)⟩) rfl fun r1 w1 h hF=>X0 3 rfl (rb h hF rfl))
def qa4 (v:(Option Tview)) (path:(List Int)):Nat→Int→Option (Flow Bool Int)
 | 0,_=>none
 | n+1,i1 =>
  bif decide (i1<(path.length:Int)) then
   (idx path (W64 (i1-1))).bind fun y1 =>
   (idx path i1).bind fun y2 =>
   (qcd n v y1).bind fun r1 =>
   (qcZ n r1 y2).bind fun r2 =>
   bif (!r2) then some (.ret false) else
   qa4 v path n (W64 (i1+1))
  else
   some (.nxt i1)
def qdc (n:Nat) (v:(Option Tview)) (path:(List Int)):Option Bool :=
 (
  (qao n path).bind fun r3 =>
  (qau n r3 1 60).bind fun r4 =>
  bif (!r4) then some true else
  (v).bind fun y3 =>
  (qbz n y3.places).bind fun r5 =>
  (qbi n path 0 (W64 (r5-1))).bind fun r6 =>
  some (!r6)).bind fun b1 =>
 bif b1 then some false else
 (qa4 v path n 1).bind fun o=>match o with
 | .ret r=>some r
 | .nxt _ =>
  some true
theorem qgS {v:(Option Tview)} {path:(List Int)} (ha1:GoT.R w (old w) v cs1) (ha2:GoT.R w (old w) path cs2) {r:Bool} (hF:qdc n v path=some r):RetV Tryz.prog 42 [GoT.v (Option Tview) cs1,GoT.v (List Int) cs2] w r:=by
 obtain ⟨p1,rfl,s1⟩:=qeK ha1
 obtain ⟨p2,k1,rfl,s2⟩:=ha2
 refine zV 40 Tryz.func42 rfl fun h=>X0 6 rfl ?_
 obtain ⟨KF1,hKF1,o2,hF,hK2⟩:=bindE hF
 refine qb5 (fun e w'=>∃ (b1:Bool),KF1 b1=some r∧e=[(0,.pointer p1),(1,.slice p2 path.length k1),(20,.bool b1)]∧SH w w' []) ?_ ?_
 ·refine X0 2 rfl (zcI h hF (qa6 ⟨_,_,rfl,(h.oldS s2)⟩) rfl fun r3 w5 h hF=>zcB h hF qam rfl fun r4 w6 h hF=>zp2 rfl (qh (t:=10) hF rfl ?_ ?_))<;>intro hF
  ·refine X0 11 rfl ?_
   obtain rfl:=qb hF
   exact rG ⟨_,hK2,rfl,h⟩ rfl
  refine X0 5 rfl ?_
  obtain ⟨y3,hy3,hF⟩:=qe hF
  obtain ⟨b4,o_3,cs5,rfl,-,hr7,hc6⟩:=PtR.get s1 hy3
  obtain ⟨p4,k3,p5,k4,p6,k5,p7,k6,p8,k7,p9,k8,p10,k9,p11,k10,p12,k11,p13,k12,rfl,s3,s4,s5,s6,s7,s8,s9,s10,s11,s12⟩:=qeV hr7
  refine X0 4 rfl (zc 5 (hc6.below h.below) rfl (X0 1 rfl (zcI h hF (qeF ⟨_,_,rfl,(h.oldS s8)⟩) rfl fun r5 w7 h hF=>X0 3 rfl (zcB h hF (qbE ⟨_,_,rfl,(h.oldS s2)⟩) rfl fun r6 w8 h hF=>X0 4 rfl ?_))))
  obtain rfl:=qb hF
  exact rG ⟨_,hK2,rfl,h⟩ rfl
 rintro e2 w9 ⟨b1,hF,rfl,h⟩
 subst hKF1
 refine qr rfl hF ?_ ?_<;>intro hF
 ·exact X0 4 rfl (rb h hF rfl)
 refine X0 6 rfl ?_
 obtain ⟨o1,hF,hK1⟩:=qe hF
 refine qq (rL (fun m e w'=>∃ (i1:Int),qa4 v path m i1=some o1∧e=[(0,.pointer p1),(1,.slice p2 path.length k1),(5,.int .i64 i1)]∧SH w w' []) n ⟨_,hF,rfl,h⟩ rfl ?_)
 rintro m1 e1 w1 ⟨i1,hF,rfl,h⟩
 rcases m1 with _|m1
 ·cases hF
 refine X0 8 rfl (qr rfl hF ?_ ?_)<;>intro hF
 ·refine X0 4 rfl (rA [] [] h rfl fun w2 h=>M0 15 [0,1,2,3] (h.pick [] rfl) rfl ?_)
  obtain ⟨y1,hy1,hF,he1,b2,_,q1,cs3,hp1,hq1,rfl,hc3⟩:=s2.ix hF
  refine Ae 4 31 hp1 hq1 he1 (h.pick [] rfl) rfl (Al 5 63 0 hc3 (h.pick [] rfl) rfl (M0 447 [7,8] (h.pick [] rfl) rfl ?_))
  obtain ⟨y2,hy2,hF,he2,b3,_,q2,cs4,hp2,hq2,rfl,hc4⟩:=s2.ix hF
  refine Ae 9 959 hp2 hq2 he2 (h.pick [] rfl) rfl (Al 10 1983 0 hc4 (h.pick [] rfl) rfl (Ao 6 2047 rfl (zcL h hF (qe3 (h.old s1)) rfl fun r1 w3 S1 p3 k2 h hF=>Ag (h.pick [] rfl) (Ao 11 4095 rfl (zcB h hF (qgI (h.own 0 rfl)) rfl fun r2 w4 h hF=>G0 8191 [12] (h.pick [] rfl) rfl (Ad (qr rfl hF ?_ ?_)))))))<;>intro hF
  ·refine X0 4 rfl ?_
   obtain rfl:=qb hF;replace hF:=hK1
   exact rb h hF rfl
  refine X0 7 rfl ?_
  replace h:=h.pick [] rfl
  exact rK ⟨_,hF,rfl,h⟩ rfl
 refine qw rfl ?_
 obtain rfl:=qb hF;replace hF:=hK1
 exact X0 4 rfl (rb h hF rfl)
def qd4 (n:Nat) (b:qd) (path:(List Int)):Option Bool :=
 (qdS n b).bind fun r1 =>
 bif r1 then
  (qdX n b).bind fun r2 =>
  (qdc n r2 path).bind fun r3 =>
  some r3
 else
  some false
theorem qgo {b:qd} {path:(List Int)} (ha1:GoT.R w (old w) b cs1) (ha2:GoT.R w (old w) path cs2) {r:Bool} (hF:qd4 n b path=some r):RetV Tryz.prog 11 [GoT.v qd cs1,GoT.v (List Int) cs2] w r:=by
 obtain ⟨p1,k1,p2,k2,p3,k3,p4,k4,p5,k5,rfl,s1,s2,s3,s4,s5⟩:=qP ha1
 obtain ⟨p6,k6,rfl,s6⟩:=ha2
 refine zV 13 Tryz.func11 rfl fun h=>zSR (qV h rfl rfl fun w1 bb1 h=>X1 5 0 h rfl (zcB h hF (qeN (h.old ha1)) rfl fun r1 w2 h hF=>zp1 rfl (qh (t:=7) hF rfl ?_ ?_)))<;>intro hF
 ·refine X1 3 0 h rfl ?_
  have hg1:Rg (old w) w (old w) w:=.start (fun _ h=>h)
  obtain ⟨r2,hr2,hF⟩:=qe hF
  refine qiR r2 hg1 h (cB 35 rfl) (qeR (hg1.regOld h) (hg1.inR h ha1) hr2) rfl rfl rfl rfl fun w3 us1 B1 hg2 hu1 hz1 hv1=>?_
  have hL1:=h.ext hu1.below
  have s7:=Up.S hg1 h hu1 s6
  have hb1:=h.below.trans (hu1.below.mono h.below.size)
  replace h:=hz1
  obtain ⟨cs3,rfl,hr3⟩:=qeY hv1
  obtain ⟨p7,rfl,s8⟩:=qeK hr3
  refine X0 3 rfl (zcB h hF (qgS (h.old (GoT.mono s8 hg2.old)) ⟨_,_,rfl,(h.oldS (s7.mono hg2.old))⟩) rfl fun r3 w4 h hF=>X0 3 rfl ?_)
  replace h:=h.unbase hg2.below (show NoD [] from trivial)
  exact rb h hF rfl
 exact X0 7 rfl (rb h hF rfl)
end Go.Fw


namespace Go.Fw
open Go Go.Proofs
open Go.RowKit (Below)
set_option maxRecDepth 100000
set_option maxHeartbeats 6400000
variable {n:Nat} {w:World} {cs1 cs2 cs3 cs4 cs5 cs6 cs7 cs8 cs9:List Value}
def qu (_:Nat) (a_0:Tl01Source) (a_1:Int):Option (Int × Int × Int) :=
 bif decide (a_1≤1) then some (0,a_0.at_,a_0.seed) else
 bif decide (a_0.at_<(a_0.code.length:Int)) then
  (idx a_0.code a_0.at_).bind fun y1 =>
  bif decide (a_1≤256) then
   (remS (W64 y1.val) a_1).bind fun y2 =>
   some (y2,W64 (a_0.at_+1),a_0.seed)
  else
   (remS ((W64 ((W64 ((W64 (a_0.seed*48271))+(W64 y1.val)))+1)).tmod 2147483647) a_1).bind fun y3 =>
   some (y3,W64 (a_0.at_+1),(W64 ((W64 ((W64 (a_0.seed*48271))+(W64 y1.val)))+1)).tmod 2147483647)
 else
  (remS (W64 (((W64 ((W64 (a_0.seed*48271))+11)).tmod 2147483647).tdiv 7)) a_1).bind fun y4 =>
  some (y4,a_0.at_,(W64 ((W64 (a_0.seed*48271))+11)).tmod 2147483647)
theorem qj {n:Nat} {w0 w:World} {F:List Ch} {a_0:Tl01Source} {bb1:Nat} {p1:Option Addr} {k1:Nat} {a_1:Int} (h0:SH w0 w (Ch.box bb1 (qg a_0 p1 k1) 108::F)) (ha1:GoT.R w (Fr w0 F) a_0 [.slice p1 a_0.code.length k1,.int .i64 a_0.at_,.int .i64 a_0.seed]) {r:(Int × Int × Int)} (hF:qu n a_0 a_1=some r):RetW Tryz.prog 32 [.pointer (some ⟨bb1,0,none⟩),.int .i64 a_1] w (fun us w'=>us=[.int .i64 r.1]∧SH w0 w' (Ch.box bb1 [.slice p1 a_0.code.length k1,.int .i64 r.2.1,.int .i64 r.2.2] 108::F)):=by
 have h:=SH.frame [Ch.box bb1 (qg a_0 p1 k1) 108] h0
 replace h:=h.grpAdd 1 rfl ha1
 replace h:SH _ _ [Ch.box bb1 (qg a_0 p1 k1) 108,Ch.grp (old w0) (FS F) [fct (a_0:Tl01Source) [.slice p1 a_0.code.length k1,.int .i64 a_0.at_,.int .i64 a_0.seed],same w0 w F]]:=h
 refine qbn Tryz.func32 rfl (m:=76) rfl rfl (X0 10 rfl (qr rfl hF ?_ ?_))<;>intro hF
 ·refine X0 4 rfl ?_
  obtain rfl:=qb hF
  replace h:SH _ _ [Ch.box bb1 (qg a_0 p1 k1) 108,Ch.grp (old w0) (FS F) [fct (a_0:Tl01Source) [.slice p1 a_0.code.length k1,.int .i64 a_0.at_,.int .i64 a_0.seed],same w0 w F]]:=h
  exact qce qa [.int .i64 0] ⟨rfl,trivial⟩ ⟨rfl,SH.unframe 1 (L0:=[Ch.box bb1 (qg a_0 p1 k1) 108]) h0 [Ch.box bb1 (qg a_0 p1 k1) 108] h rfl⟩
 refine zKSS (rD (Y1 4 0 h rfl ?_))
 refine Y1 4 0 h rfl ?_
 refine zd2 rfl (dN h fun w1 h=>qr rfl hF ?_ ?_)<;>intro hF
 ·refine qeq (rD (Y1 4 0 h rfl ?_))
  refine Y1 4 0 h rfl ?_
  obtain ⟨y1,hy1,hF,he1,b1,_,q1,cs1,hp1,hq1,rfl,hc3⟩:=(qf (h.grp 1 0 rfl rfl)).1.ix hF
  refine zdx hp1 hq1 ⟨he1.1,qY he1.2.1 (qf (h.grp 1 0 rfl rfl)).2⟩ rfl (zdc 0 hc3 rfl (zd2 rfl (dN h fun w2 h=>X1 9 0 h rfl (zs 0 h rfl fun w3 h=>X0 7 rfl (qr rfl hF ?_ ?_)))))<;>intro hF
  ·refine X0 4 rfl ?_
   obtain ⟨y2,hx1,hF⟩:=qe hF
   obtain ⟨g1,hx1⟩:=qh3 hx1
   refine r_v (qk6 g1 hx1 rfl rfl) rfl (X0 2 rfl ?_)
   obtain rfl:=qb hF
   replace h:SH _ _ [Ch.box bb1 [.slice p1 a_0.code.length k1,.int .i64 (W64 (a_0.at_+1)),.int .i64 a_0.seed] 108,Ch.grp (old w0) (FS F) [fct (a_0:Tl01Source) [.slice p1 a_0.code.length k1,.int .i64 a_0.at_,.int .i64 a_0.seed],same w0 w F]]:=h
   exact qce qa [.int .i64 y2] ⟨rfl,trivial⟩ ⟨rfl,SH.unframe 1 (L0:=[Ch.box bb1 (qg a_0 p1 k1) 108]) h0 [Ch.box bb1 [.slice p1 a_0.code.length k1,.int .i64 (W64 (a_0.at_+1)),.int .i64 a_0.seed] 108] h rfl⟩
  refine X1 15 0 h rfl (zs 0 h rfl fun w4 h=>X1 8 0 h rfl ?_)
  obtain ⟨y3,hx2,hF⟩:=qe hF
  obtain ⟨g2,hx2⟩:=qh3 hx2
  refine r_v (qk6 g2 hx2 rfl rfl) rfl (X0 2 rfl ?_)
  obtain rfl:=qb hF
  replace h:SH _ _ [Ch.box bb1 [.slice p1 a_0.code.length k1,.int .i64 (W64 (a_0.at_+1)),.int .i64 ((W64 ((W64 ((W64 (a_0.seed*48271))+(W64 y1.val)))+1)).tmod 2147483647)] 108,Ch.grp (old w0) (FS F) [fct (a_0:Tl01Source) [.slice p1 a_0.code.length k1,.int .i64 a_0.at_,.int .i64 a_0.seed],same w0 w F]]:=h
  exact qce qa [.int .i64 y3] ⟨rfl,trivial⟩ ⟨rfl,SH.unframe 1 (L0:=[Ch.box bb1 (qg a_0 p1 k1) 108]) h0 [Ch.box bb1 [.slice p1 a_0.code.length k1,.int .i64 (W64 (a_0.at_+1)),.int .i64 ((W64 ((W64 ((W64 (a_0.seed*48271))+(W64 y1.val)))+1)).tmod 2147483647)] 108] h rfl⟩
 refine X1 13 0 h rfl (zs 0 h rfl fun w5 h=>X1 9 0 h rfl ?_)
 obtain ⟨y4,hx3,hF⟩:=qe hF
 obtain ⟨g3,hx3⟩:=qh3 hx3
 refine r_v (qk6 g3 hx3 rfl rfl) rfl (X0 2 rfl ?_)
 obtain rfl:=qb hF
 replace h:SH _ _ [Ch.box bb1 [.slice p1 a_0.code.length k1,.int .i64 a_0.at_,.int .i64 ((W64 ((W64 (a_0.seed*48271))+11)).tmod 2147483647)] 108,Ch.grp (old w0) (FS F) [fct (a_0:Tl01Source) [.slice p1 a_0.code.length k1,.int .i64 a_0.at_,.int .i64 a_0.seed],same w0 w F]]:=h
 exact qce qa [.int .i64 y4] ⟨rfl,trivial⟩ ⟨rfl,SH.unframe 1 (L0:=[Ch.box bb1 (qg a_0 p1 k1) 108]) h0 [Ch.box bb1 [.slice p1 a_0.code.length k1,.int .i64 a_0.at_,.int .i64 ((W64 ((W64 (a_0.seed*48271))+11)).tmod 2147483647)] 108] h rfl⟩
def qdA (c:qk) (y1:Int):Nat→Bool→Bool→Int→Option (Bool × Bool × Int)
 | 0,_,_,_=>none
 | n+1,b1,b2,i1 =>
  bif decide (i1<(c.Az.length:Int)) then
   bif ((bitS .and .i64 i1 y1) != 0) then qdA c y1 n b1 b2 (W64 (i1+1)) else
   (
    bif b1 then some true else
    (idx c.Az i1).bind fun y4 =>
    (idx c.Az (W64 (i1+y1))).bind fun y5 =>
    some (decide (y4<y5))).bind fun b3 =>
   bif b2 then qdA c y1 n b3 true (W64 (i1+1)) else
   (idx c.Az i1).bind fun y2 =>
   (idx c.Az (W64 (i1+y1))).bind fun y3 =>
   qdA c y1 n b3 (decide (y2 > y3)) (W64 (i1+1))
  else
   some (b1,b2,i1)
def qgM (n:Nat) (c:qk) (pin:Int):Option Int :=
 (shlS 1 (IntKind.wrap .u64 pin)).bind fun y1 =>
 (qdA c y1 n false false 0).bind fun o=>match o with
 | (b1,b2,_) =>
  (
   bif b1 then some b2 else
   some false).bind fun b8 =>
  bif b8 then some 3 else
  bif b1 then some 1 else
  bif b2 then some 2 else
  some 0
theorem qje {c:qk} {pin:Int} (ha1:GoT.R w (old w) c cs1) {r:Int} (hF:qgM n c pin=some r):RetV Tryz.prog 155 [GoT.v qk cs1,.int .i64 pin] w r:=by
 obtain ⟨p1,k1,p2,k2,p3,k3,rfl,s1,s2,s3⟩:=qE ha1
 refine zV 64 Tryz.func155 rfl fun h=>zSR (qV h rfl rfl fun w1 bb1 h=>X0 11 rfl ?_)
 obtain ⟨y1,hx1,hF⟩:=qe hF
 obtain ⟨g1,hx1⟩:=qjd hx1
 refine r_v (qnh g1 rfl rfl) rfl ?_
 rw [hx1]
 refine X0 7 rfl ?_
 obtain ⟨o1,hF,hK1⟩:=qe hF
 refine qq (rL (fun m e w'=>∃ (b1:Bool) (b2:Bool) (i1:Int),qdA c y1 m b1 b2 i1=some o1∧e=[(2,.pointer (some ⟨bb1,0,none⟩)),(5,.bool b1),(6,.bool b2),(7,.int .i64 y1),(8,.int .i64 i1)]∧SH w w' [Ch.box bb1 (qt c p1 p2 p3 k1 k2 k3) 128]) n ⟨_,_,_,hF,rfl,h⟩ rfl ?_)
 rintro m1 e1 w2 ⟨b1,b2,i1,hF,rfl,h⟩
 rcases m1 with _|m1
 ·cases hF
 refine X1 9 0 h rfl (qr rfl hF ?_ ?_)<;>intro hF
 ·refine X0 8 rfl (r_v (qor rfl rfl rfl) rfl (X0 2 rfl (qr rfl hF ?_ ?_)))<;>intro hF
  ·exact qw rfl (X0 5 rfl (rK ⟨_,_,_,hF,rfl,h⟩ rfl))
  refine zKS ?_
  obtain ⟨KF1,hKF1,o2,hF,hK2⟩:=bindE hF
  refine qb5 (fun e w'=>∃ (b3:Bool),KF1 b3=some o1∧e=[(2,.pointer (some ⟨bb1,0,none⟩)),(5,.bool b3),(6,.bool b2),(7,.int .i64 y1),(8,.int .i64 i1)]∧SH w w' [Ch.box bb1 (qt c p1 p2 p3 k1 k2 k3) 128]) ?_ ?_
  ·refine rD (zd2 rfl (qaT (t:=24) hF rfl ?_ ?_))<;>intro hF
   ·refine Y0 15 rfl (dN h fun w5 h=>?_)
    obtain rfl:=qb hF
    exact rG ⟨_,hK2,rfl,h⟩ rfl
   refine Y1 4 0 h rfl ?_
   refine Y0 3 rfl ?_
   obtain ⟨y4,hy3,hF,he3,b6,_,q3,cs4,hp3,hq3,rfl,hc5⟩:=s3.ix hF
   refine zdxe hp3 hq3 he3 rfl (Y0 1 rfl (zdc 0 (hc5.below h.below) rfl (Y1 4 0 h rfl ?_)))
   refine Y0 7 rfl ?_
   obtain ⟨y5,hy4,hF,he4,b7,_,q4,cs5,hp4,hq4,rfl,hc6⟩:=s3.ix hF
   refine zdxe hp4 hq4 he4 rfl (Y0 1 rfl (zdc 0 (hc6.below h.below) rfl (Y0 4 rfl (dN h fun w6 h=>?_))))
   obtain rfl:=qb hF
   exact rG ⟨_,hK2,rfl,h⟩ rfl
  rintro e2 w7 ⟨b3,hF,rfl,h⟩
  subst hKF1
  refine rD (zd2 rfl (qaT (t:=40) hF rfl ?_ ?_))<;>intro hF
  ·exact Y0 15 rfl (dN h fun w3 h=>X0 6 rfl (rK ⟨_,_,_,hF,rfl,h⟩ rfl))
  refine Y1 4 0 h rfl ?_
  refine Y0 3 rfl ?_
  obtain ⟨y2,hy1,hF,he1,b4,_,q1,cs2,hp1,hq1,rfl,hc3⟩:=s3.ix hF
  refine zdxe hp1 hq1 he1 rfl (Y0 1 rfl (zdc 0 (hc3.below h.below) rfl (Y1 4 0 h rfl ?_)))
  refine Y0 7 rfl ?_
  obtain ⟨y3,hy2,hF,he2,b5,_,q2,cs3,hp2,hq2,rfl,hc4⟩:=s3.ix hF
  exact zdxe hp2 hq2 he2 rfl (Y0 1 rfl (zdc 0 (hc4.below h.below) rfl (Y0 4 rfl (dN h fun w4 h=>X0 6 rfl (rK ⟨_,_,_,hF,rfl,h⟩ rfl)))))
 refine qw rfl ?_
 obtain rfl:=qb hF;replace hF:=hK1
 refine X0 3 rfl ?_
 obtain ⟨KF2,hKF2,o3,hF,hK3⟩:=bindE hF
 refine qb5 (fun e w'=>∃ (b8:Bool),KF2 b8=some r∧e=[(5,.bool b1),(6,.bool b2),(55,.bool b8)]∧SH w w' []) ?_ ?_
 ·refine X0 3 rfl (qh (t:=57) hF rfl ?_ ?_)<;>intro hF
  ·refine X0 5 rfl ?_
   replace h:=h.pick [] rfl
   obtain rfl:=qb hF
   exact rG ⟨_,hK3,rfl,h⟩ rfl
  refine X0 4 rfl ?_
  replace h:=h.pick [] rfl
  obtain rfl:=qb hF
  exact rG ⟨_,hK3,rfl,h⟩ rfl
 rintro e3 w8 ⟨b8,hF,rfl,h⟩
 subst hKF2
 refine qr rfl hF ?_ ?_<;>intro hF
 ·exact X0 4 rfl (ri h hF rfl)
 refine X0 5 rfl (qr rfl hF ?_ ?_)<;>intro hF
 ·exact X0 4 rfl (ri h hF rfl)
 refine X0 5 rfl (qr rfl hF ?_ ?_)<;>intro hF
 ·exact X0 4 rfl (ri h hF rfl)
 exact X0 6 rfl (ri h hF rfl)
def qbK (s:Tl01Source) (step:Int):Nat→(List Int)→Int→Int→Int→Int→Option ((List Int) × Int × Int × Int × Int)
 | 0,_,_,_,_,_=>none
 | n+1,x1,i7,i8,i9,i10 =>
  bif decide (i10 > 0) then
   (appS x1 ([i9]:List Int)).bind fun x2 =>
   (qu n (⟨s.code,i7,i8⟩:Tl01Source) step).bind fun o=>match o with
    | (i11,i12,i13) =>
     qbK s step n x2 i12 i13 (W64 ((W64 (i9+1))+i11)) (W64 (i10-1))
  else
   some (x1,i7,i8,i9,i10)
def qdJ (n:Nat) (s:Tl01Source) (step:Int):Option ((List Int) × Int × Int) :=
 (qu n (⟨s.code,s.at_,s.seed⟩:Tl01Source) step).bind fun o=>match o with
  | (i1,i2,i3) =>
   (qu n (⟨s.code,i2,i3⟩:Tl01Source) 3).bind fun o=>match o with
    | (i4,i5,i6) =>
     (qbK s step n ([]:List Int) i5 i6 i1 (W64 (1+i4))).bind fun o=>match o with
     | (x1,i7,i8,_,_) =>
      some (x1,i7,i8)
theorem qfN {n:Nat} {w0 w:World} {F:List Ch} {s:Tl01Source} {bb1:Nat} {p1:Option Addr} {k1:Nat} {step:Int} (h0:SH w0 w (Ch.box bb1 (qg s p1 k1) 108::F)) (ha1:GoT.R w (Fr w0 F) s [.slice p1 s.code.length k1,.int .i64 s.at_,.int .i64 s.seed]) {r:((List Int) × Int × Int)} (hF:qdJ n s step=some r):RetW Tryz.prog 185 [.pointer (some ⟨bb1,0,none⟩),.int .i64 step] w (fun us w'=>∃ (S1:Nat→Prop) (cs1:List Value),us=[GoT.v (List Int) cs1]∧SH w0 w' (Ch.own S1 (r.1:(List Int)) cs1::Ch.box bb1 [.slice p1 s.code.length k1,.int .i64 r.2.1,.int .i64 r.2.2] 108::F)):=by
 have h:=SH.frame [Ch.box bb1 (qg s p1 k1) 108] h0
 replace h:=h.grpAdd 1 rfl ha1
 replace h:SH _ _ [Ch.box bb1 (qg s p1 k1) 108,Ch.grp (old w0) (FS F) [fct (s:Tl01Source) [.slice p1 s.code.length k1,.int .i64 s.at_,.int .i64 s.seed],same w0 w F]]:=h
 refine qbn Tryz.func185 rfl (m:=30) rfl rfl (X0 6 rfl (qp qa [] _ ([]:List Int) h rfl rfl rfl rfl rfl rfl rfl rfl rfl trivial rfl fun w1 p2 S2 h=>X0 6 rfl ?_))
 replace h:=h.pick [1,0,2] rfl
 obtain ⟨o1,hr1,hF⟩:=qe hF
 obtain ⟨i1,i2,i3⟩:=o1
 refine qB (cB 32 rfl) (qj (a_0:=(⟨s.code,s.at_,s.seed⟩:Tl01Source)) (a_1:=step) h ⟨[.slice p1 s.code.length k1],[.int .i64 s.at_,.int .i64 s.seed],rfl,⟨_,_,rfl,(qf (h.frG 2 0 1 rfl rfl rfl)).1⟩,⟨[.int .i64 s.at_],[.int .i64 s.seed],rfl,rfl,rfl⟩⟩ hr1) rfl rfl rfl rfl ?_
 rintro w2 us1 ⟨rfl,h⟩
 replace h:SH _ _ [Ch.box bb1 [.slice p1 s.code.length k1,.int .i64 i2,.int .i64 i3] 108,Ch.own S2 (([]:List Int):List Int) [.slice p2 0 0],Ch.grp (old w0) (FS F) [fct (s:Tl01Source) [.slice p1 s.code.length k1,.int .i64 s.at_,.int .i64 s.seed],same w0 w F]]:=h
 refine X0 6 rfl ?_
 obtain ⟨o2,hr2,hF⟩:=qe hF
 obtain ⟨i4,i5,i6⟩:=o2
 refine qB (cB 32 rfl) (qj (a_0:=(⟨s.code,i2,i3⟩:Tl01Source)) (a_1:=3) h ⟨[.slice p1 s.code.length k1],[.int .i64 i2,.int .i64 i3],rfl,⟨_,_,rfl,(qf (h.frG 2 0 1 rfl rfl rfl)).1⟩,⟨[.int .i64 i2],[.int .i64 i3],rfl,rfl,rfl⟩⟩ hr2) rfl rfl rfl rfl ?_
 rintro w3 us2 ⟨rfl,h⟩
 replace h:SH _ _ [Ch.box bb1 [.slice p1 s.code.length k1,.int .i64 i5,.int .i64 i6] 108,Ch.own S2 (([]:List Int):List Int) [.slice p2 0 0],Ch.grp (old w0) (FS F) [fct (s:Tl01Source) [.slice p1 s.code.length k1,.int .i64 s.at_,.int .i64 s.seed],same w0 w F]]:=h
 refine X0 3 rfl ?_
 obtain ⟨o3,hF,hK1⟩:=qe hF
 refine qq (rL (fun m e w'=>∃ (S3:Nat→Prop) (p3:Option Addr) (ln1:Nat) (k2:Nat) (x1:(List Int)) (i7:Int) (i8:Int) (i9:Int) (i10:Int),qbK s step m x1 i7 i8 i9 i10=some o3∧e=[(0,.pointer (some ⟨bb1,0,none⟩)),(1,.int .i64 step),(5,.slice p3 ln1 k2),(6,.int .i64 i9),(7,.int .i64 i10)]∧SH w0 w' [Ch.box bb1 [.slice p1 s.code.length k1,.int .i64 i7,.int .i64 i8] 108,Ch.own S3 (x1:List Int) [.slice p3 ln1 k2],Ch.grp (old w0) (FS F) [fct (s:Tl01Source) [.slice p1 s.code.length k1,.int .i64 s.at_,.int .i64 s.seed],same w0 w F]]) n ⟨_,_,_,_,_,_,_,_,_,hF,rfl,h⟩ rfl ?_)
 rintro m1 e1 w4 ⟨S3,p3,ln1,k2,x1,i7,i8,i9,i10,hF,rfl,h⟩
 obtain rfl:=(h.sl 1 rfl).2
 rcases m1 with _|m1
 ·cases hF
 refine X0 6 rfl (qr rfl hF ?_ ?_)<;>intro hF
 ·refine X0 7 rfl (qp qa [.tmp 20] _ ([i9]:List Int) h rfl rfl rfl rfl rfl rfl rfl rfl rfl ⟨rfl,trivial⟩ rfl fun w5 p4 S4 h=>?_)
  obtain ⟨x2,hx1,hF⟩:=qe hF
  obtain ⟨g1,hx1⟩:=qx hx1
  refine qaq qa 2 h rfl (h.sl 0 rfl).1 (h.sl 0 rfl).2 rfl rfl rfl rfl rfl rfl rfl rfl rfl g1 hx1 rfl fun w6 p5 k3 S5 h=>X0 7 rfl ?_
  replace h:=h.pick [1,0,2,3] rfl
  obtain ⟨o4,hr3,hF⟩:=qe hF
  obtain ⟨i11,i12,i13⟩:=o4
  refine qB (cB 32 rfl) (qj (a_0:=(⟨s.code,i7,i8⟩:Tl01Source)) (a_1:=step) h ⟨[.slice p1 s.code.length k1],[.int .i64 i7,.int .i64 i8],rfl,⟨_,_,rfl,(qf (h.frG 3 0 1 rfl rfl rfl)).1⟩,⟨[.int .i64 i7],[.int .i64 i8],rfl,rfl,rfl⟩⟩ hr3) rfl rfl rfl rfl ?_
  rintro w7 us3 ⟨rfl,h⟩
  replace h:SH _ _ [Ch.box bb1 [.slice p1 s.code.length k1,.int .i64 i12,.int .i64 i13] 108,Ch.own S4 (([i9]:List Int):List Int) [.slice p4 1 1],Ch.own S5 (x2:List Int) [.slice p5 x2.length k3],Ch.grp (old w0) (FS F) [fct (s:Tl01Source) [.slice p1 s.code.length k1,.int .i64 s.at_,.int .i64 s.seed],same w0 w F]]:=h
  refine X0 9 rfl ?_
  replace h:=h.pick [0,2,3] rfl
  exact rK ⟨_,_,_,_,_,_,_,_,_,hF,rfl,h⟩ rfl
 refine qw rfl ?_
 obtain rfl:=qb hF;replace hF:=hK1
 refine X0 5 rfl ?_
 obtain rfl:=qb hF
 replace h:=h.pick [1,0,2] rfl
 replace h:SH _ _ [Ch.own S3 (x1:List Int) [.slice p3 x1.length k2],Ch.box bb1 [.slice p1 s.code.length k1,.int .i64 i7,.int .i64 i8] 108,Ch.grp (old w0) (FS F) [fct (s:Tl01Source) [.slice p1 s.code.length k1,.int .i64 s.at_,.int .i64 s.seed],same w0 w F]]:=h
 exact qce qa [GoT.v (List Int) [.slice p3 x1.length k2]] ⟨rfl,trivial⟩ ⟨_,_,rfl,SH.unframe 1 (L0:=[Ch.box bb1 (qg s p1 k1) 108]) h0 [Ch.own S3 (x1:List Int) [.slice p3 x1.length k2],Ch.box bb1 [.slice p1 s.code.length k1,.int .i64 i7,.int .i64 i8] 108] h rfl⟩
def qcn (a_0:Tl01Source) (a_1:Int) (r1:(List Int)) (r2:(List Int)):Nat→(List Int)→Int→Int→Int→Option ((List Int) × Int × Int × Int)
 | 0,_,_,_,_=>none
 | n+1,x1,i5,i6,i7 =>
  bif decide (i7<(W64 ((r1.length:Int)*(r2.length:Int)))) then
   (qu n (⟨a_0.code,i5,i6⟩:Tl01Source) 10).bind fun o=>match o with
    | (i8,i9,i10) =>
     (remS i7 (r2.length:Int)).bind fun y1 =>
     (
      bif decide (y1 > 0) then
       (idx x1 (W64 (i7-1))).bind fun y3 =>
       (qu n (⟨a_0.code,i9,i10⟩:Tl01Source) 20).bind fun o=>match o with
        | (i17,i18,i19) =>
         some (i18,i19,(if (W64 (y3+i17)) > (W64 (a_1+i8)) then (W64 (y3+i17)) else (W64 (a_1+i8))))
      else
       some (i9,i10,W64 (a_1+i8))).bind fun o=>match o with
      | (i11,i12,i13) =>
       bif decide (i7 ≥ (r2.length:Int)) then
        (idx x1 (W64 (i7-(r2.length:Int)))).bind fun y2 =>
        (qu n (⟨a_0.code,i11,i12⟩:Tl01Source) 20).bind fun o=>match o with
         | (i14,i15,i16) =>
          (appS x1 ([(if (W64 (y2+i14)) > i13 then (W64 (y2+i14)) else i13)]:List Int)).bind fun x2 =>
          qcn a_0 a_1 r1 r2 n x2 i15 i16 (W64 (i7+1))
       else
        (appS x1 ([i13]:List Int)).bind fun x3 =>
        qcn a_0 a_1 r1 r2 n x3 i11 i12 (W64 (i7+1))
  else
   some (x1,i5,i6,i7)
def qfh (n:Nat) (a_0:Tl01Source) (a_1:Int):Option (qF × Int × Int) :=
 (qdJ n (⟨a_0.code,a_0.at_,a_0.seed⟩:Tl01Source) 60).bind fun o=>match o with
  | (r1,i1,i2) =>
   (qdJ n (⟨a_0.code,i1,i2⟩:Tl01Source) 40).bind fun o=>match o with
    | (r2,i3,i4) =>
     (qcn a_0 a_1 r1 r2 n ([]:List Int) i3 i4 0).bind fun o=>match o with
     | (x1,i5,i6,_) =>
      some ((⟨r1,r2,x1⟩:qF),i5,i6)
theorem qg3 {n:Nat} {w0 w:World} {F:List Ch} {a_0:Tl01Source} {bb1:Nat} {p1:Option Addr} {k1:Nat} {a_1:Int} (h0:SH w0 w (Ch.box bb1 (qg a_0 p1 k1) 108::F)) (ha1:GoT.R w (Fr w0 F) a_0 [.slice p1 a_0.code.length k1,.int .i64 a_0.at_,.int .i64 a_0.seed]) {r:(qF × Int × Int)} (hF:qfh n a_0 a_1=some r):RetW Tryz.prog 171 [.pointer (some ⟨bb1,0,none⟩),.int .i64 a_1] w (fun us w'=>∃ (S1:Nat→Prop) (cs1:List Value),us=[GoT.v qF cs1]∧SH w0 w' (Ch.own S1 (r.1:qF) cs1::Ch.box bb1 [.slice p1 a_0.code.length k1,.int .i64 r.2.1,.int .i64 r.2.2] 108::F)):=by
 have h:=SH.frame [Ch.box bb1 (qg a_0 p1 k1) 108] h0
 replace h:=h.grpAdd 1 rfl ha1
 replace h:SH _ _ [Ch.box bb1 (qg a_0 p1 k1) 108,Ch.grp (old w0) (FS F) [fct (a_0:Tl01Source) [.slice p1 a_0.code.length k1,.int .i64 a_0.at_,.int .i64 a_0.seed],same w0 w F]]:=h
 refine qbn Tryz.func171 rfl (m:=66) rfl rfl (zSR (qy qa h rfl rfl rfl fun w1 bb2 h=>X0 4 rfl ?_))
 replace h:=h.pick [1,0,2] rfl
 obtain ⟨o1,hr1,hF⟩:=qe hF
 obtain ⟨r1,i1,i2⟩:=o1
 refine qB (cB 185 rfl) (qfN (s:=(⟨a_0.code,a_0.at_,a_0.seed⟩:Tl01Source)) (step:=60) h ⟨[.slice p1 a_0.code.length k1],[.int .i64 a_0.at_,.int .i64 a_0.seed],rfl,⟨_,_,rfl,(qf (h.frG 2 0 1 rfl rfl rfl)).1⟩,⟨[.int .i64 a_0.at_],[.int .i64 a_0.seed],rfl,rfl,rfl⟩⟩ hr1) rfl rfl rfl rfl ?_
 rintro w2 us1 ⟨S2,cs2,rfl,h⟩
 obtain ⟨p2,k2,rfl,-⟩:=h.own 0 rfl
 replace h:SH _ _ [Ch.own S2 (r1:List Int) [.slice p2 r1.length k2],Ch.box bb1 [.slice p1 a_0.code.length k1,.int .i64 i1,.int .i64 i2] 108,Ch.box bb2 [.slice none 0 0,.slice none 0 0,.slice none 0 0] 209,Ch.grp (old w0) (FS F) [fct (a_0:Tl01Source) [.slice p1 a_0.code.length k1,.int .i64 a_0.at_,.int .i64 a_0.seed],same w0 w F]]:=h
 refine X0 5 rfl ?_
 replace h:=h.pick [1,0,2,3] rfl
 obtain ⟨o2,hr2,hF⟩:=qe hF
 obtain ⟨r2,i3,i4⟩:=o2
 refine qB (cB 185 rfl) (qfN (s:=(⟨a_0.code,i1,i2⟩:Tl01Source)) (step:=40) h ⟨[.slice p1 a_0.code.length k1],[.int .i64 i1,.int .i64 i2],rfl,⟨_,_,rfl,(qf (h.frG 3 0 1 rfl rfl rfl)).1⟩,⟨[.int .i64 i1],[.int .i64 i2],rfl,rfl,rfl⟩⟩ hr2) rfl rfl rfl rfl ?_
 rintro w3 us2 ⟨S3,cs3,rfl,h⟩
 obtain ⟨p3,k3,rfl,-⟩:=h.own 0 rfl
 replace h:SH _ _ [Ch.own S3 (r2:List Int) [.slice p3 r2.length k3],Ch.box bb1 [.slice p1 a_0.code.length k1,.int .i64 i3,.int .i64 i4] 108,Ch.own S2 (r1:List Int) [.slice p2 r1.length k2],Ch.box bb2 [.slice none 0 0,.slice none 0 0,.slice none 0 0] 209,Ch.grp (old w0) (FS F) [fct (a_0:Tl01Source) [.slice p1 a_0.code.length k1,.int .i64 a_0.at_,.int .i64 a_0.seed],same w0 w F]]:=h
 refine X0 4 rfl (qp qa [] _ ([]:List Int) h rfl rfl rfl rfl rfl rfl rfl rfl rfl trivial rfl fun w4 p4 S4 h=>X0 13 rfl ?_)
 obtain ⟨o3,hF,hK1⟩:=qe hF
 refine qq (rL (fun m e w'=>∃ (S5:Nat→Prop) (p5:Option Addr) (ln1:Nat) (k4:Nat) (x1:(List Int)) (i5:Int) (i6:Int) (i7:Int),qcn a_0 a_1 r1 r2 m x1 i5 i6 i7=some o3∧e=[(0,.pointer (some ⟨bb1,0,none⟩)),(1,.int .i64 a_1),(4,.pointer (some ⟨bb2,0,none⟩)),(5,.slice p2 r1.length k2),(6,.slice p3 r2.length k3),(7,.slice p5 ln1 k4),(8,.int .i64 (r2.length:Int)),(9,.int .i64 i7)]∧SH w0 w' [Ch.own S5 (x1:List Int) [.slice p5 ln1 k4],Ch.own S3 (r2:List Int) [.slice p3 r2.length k3],Ch.box bb1 [.slice p1 a_0.code.length k1,.int .i64 i5,.int .i64 i6] 108,Ch.own S2 (r1:List Int) [.slice p2 r1.length k2],Ch.box bb2 [.slice none 0 0,.slice none 0 0,.slice none 0 0] 209,Ch.grp (old w0) (FS F) [fct (a_0:Tl01Source) [.slice p1 a_0.code.length k1,.int .i64 a_0.at_,.int .i64 a_0.seed],same w0 w F]]) n ⟨_,_,_,_,_,_,_,_,hF,rfl,h⟩ rfl ?_)
 rintro m1 e1 w5 ⟨S5,p5,ln1,k4,x1,i5,i6,i7,hF,rfl,h⟩
 obtain rfl:=(h.sl 0 rfl).2
 rcases m1 with _|m1
 ·cases hF
 refine X0 10 rfl (qr rfl hF ?_ ?_)<;>intro hF
 ·refine X0 7 rfl ?_
  replace h:=h.pick [2,0,1,3,4,5] rfl
  obtain ⟨o4,hr3,hF⟩:=qe hF
  obtain ⟨i8,i9,i10⟩:=o4
  refine qB (cB 32 rfl) (qj (a_0:=(⟨a_0.code,i5,i6⟩:Tl01Source)) (a_1:=10) h ⟨[.slice p1 a_0.code.length k1],[.int .i64 i5,.int .i64 i6],rfl,⟨_,_,rfl,(qf (h.frG 5 0 1 rfl rfl rfl)).1⟩,⟨[.int .i64 i5],[.int .i64 i6],rfl,rfl,rfl⟩⟩ hr3) rfl rfl rfl rfl ?_
  rintro w6 us3 ⟨rfl,h⟩
  replace h:SH _ _ [Ch.box bb1 [.slice p1 a_0.code.length k1,.int .i64 i9,.int .i64 i10] 108,Ch.own S5 (x1:List Int) [.slice p5 x1.length k4],Ch.own S3 (r2:List Int) [.slice p3 r2.length k3],Ch.own S2 (r1:List Int) [.slice p2 r1.length k2],Ch.box bb2 [.slice none 0 0,.slice none 0 0,.slice none 0 0] 209,Ch.grp (old w0) (FS F) [fct (a_0:Tl01Source) [.slice p1 a_0.code.length k1,.int .i64 a_0.at_,.int .i64 a_0.seed],same w0 w F]]:=h
  refine X0 8 rfl ?_
  obtain ⟨y1,hx1,hF⟩:=qe hF
  obtain ⟨g1,hx1⟩:=qh3 hx1
  refine r_v (qk6 g1 hx1 rfl rfl) rfl (X0 2 rfl ?_)
  obtain ⟨KF1,hKF1,o6,hF,hK2⟩:=bindE hF
  refine qb5 (fun e w'=>∃ (i11:Int) (i12:Int) (i13:Int),KF1 (i11,i12,i13)=some o3∧e=[(0,.pointer (some ⟨bb1,0,none⟩)),(1,.int .i64 a_1),(4,.pointer (some ⟨bb2,0,none⟩)),(5,.slice p2 r1.length k2),(6,.slice p3 r2.length k3),(7,.slice p5 x1.length k4),(8,.int .i64 (r2.length:Int)),(9,.int .i64 i7),(10,.int .i64 i13)]∧SH w0 w' [Ch.box bb1 [.slice p1 a_0.code.length k1,.int .i64 i11,.int .i64 i12] 108,Ch.own S5 (x1:List Int) [.slice p5 x1.length k4],Ch.own S3 (r2:List Int) [.slice p3 r2.length k3],Ch.own S2 (r1:List Int) [.slice p2 r1.length k2],Ch.box bb2 [.slice none 0 0,.slice none 0 0,.slice none 0 0] 209,Ch.grp (old w0) (FS F) [fct (a_0:Tl01Source) [.slice p1 a_0.code.length k1,.int .i64 a_0.at_,.int .i64 a_0.seed],same w0 w F]]) ?_ ?_
  ·refine qr rfl hF ?_ ?_<;>intro hF
   ·refine rA [] [1] h rfl fun w13 h=>M0 15 [0,1,2,3] (h.pick [1] rfl) rfl ?_
    obtain ⟨y3,hy2,hF,he2,b2,_,q2,cs5,hp2,hq2,rfl,hc5⟩:=(h.sl 1 rfl).1.ix hF
    refine Ax 4 31 hp2 hq2 ⟨he2.1,qY he2.2.1 (h.sl 1 rfl).2⟩ (h.pick [1] rfl) rfl (Aw 5 63 (fun w' hw=>qfq qa (qcj (w1:=w) (S1:=fun _=>False) hw 0 rfl hy2 hp2 hq2 rfl) (j:=0) rfl rfl rfl) (h.pick [1] rfl) rfl ?_)
    refine M0 127 [6] (h.pick [1] rfl) rfl (Ao 7 255 rfl ?_)
    obtain ⟨o7,hr7,hF⟩:=qe hF
    obtain ⟨i17,i18,i19⟩:=o7
    refine qB (cB 32 rfl) (qj (a_0:=(⟨a_0.code,i9,i10⟩:Tl01Source)) (a_1:=20) h ⟨[.slice p1 a_0.code.length k1],[.int .i64 i9,.int .i64 i10],rfl,⟨_,_,rfl,(qf (h.frG 5 0 1 rfl rfl rfl)).1⟩,⟨[.int .i64 i9],[.int .i64 i10],rfl,rfl,rfl⟩⟩ hr7) rfl rfl rfl rfl ?_
    rintro w14 us5 ⟨rfl,h⟩
    replace h:SH _ _ [Ch.box bb1 [.slice p1 a_0.code.length k1,.int .i64 i18,.int .i64 i19] 108,Ch.own S5 (x1:List Int) [.slice p5 x1.length k4],Ch.own S3 (r2:List Int) [.slice p3 r2.length k3],Ch.own S2 (r1:List Int) [.slice p2 r1.length k2],Ch.box bb2 [.slice none 0 0,.slice none 0 0,.slice none 0 0] 209,Ch.grp (old w0) (FS F) [fct (a_0:Tl01Source) [.slice p1 a_0.code.length k1,.int .i64 a_0.at_,.int .i64 a_0.seed],same w0 w F]]:=h
    refine G0 2047 [8,9,10] (h.pick [1] rfl) rfl (Ad ?_)
    obtain rfl:=qb hF
    exact rG ⟨_,_,_,hK2,rfl,h⟩ rfl
   refine qf1 ?_
   obtain rfl:=qb hF
   exact rG ⟨_,_,_,hK2,rfl,h⟩ rfl
  rintro e2 w15 ⟨i11,i12,i13,hF,rfl,h⟩
  subst hKF1
  refine X0 7 rfl (qr rfl hF ?_ ?_)<;>intro hF
  ·refine rA [] [1] h rfl fun w7 h=>M0 31 [0,1,2,3,4] (h.pick [1] rfl) rfl ?_
   obtain ⟨y2,hy1,hF,he1,b1,_,q1,cs4,hp1,hq1,rfl,hc3⟩:=(h.sl 1 rfl).1.ix hF
   refine Ax 5 63 hp1 hq1 ⟨he1.1,qY he1.2.1 (h.sl 1 rfl).2⟩ (h.pick [1] rfl) rfl (Aw 6 127 (fun w' hw=>qfq qa (qcj (w1:=w) (S1:=fun _=>False) hw 0 rfl hy1 hp1 hq1 rfl) (j:=0) rfl rfl rfl) (h.pick [1] rfl) rfl ?_)
   refine M0 255 [7] (h.pick [1] rfl) rfl (Ao 8 511 rfl ?_)
   obtain ⟨o5,hr5,hF⟩:=qe hF
   obtain ⟨i14,i15,i16⟩:=o5
   refine qB (cB 32 rfl) (qj (a_0:=(⟨a_0.code,i11,i12⟩:Tl01Source)) (a_1:=20) h ⟨[.slice p1 a_0.code.length k1],[.int .i64 i11,.int .i64 i12],rfl,⟨_,_,rfl,(qf (h.frG 5 0 1 rfl rfl rfl)).1⟩,⟨[.int .i64 i11],[.int .i64 i12],rfl,rfl,rfl⟩⟩ hr5) rfl rfl rfl rfl ?_
   rintro w8 us4 ⟨rfl,h⟩
   replace h:SH _ _ [Ch.box bb1 [.slice p1 a_0.code.length k1,.int .i64 i15,.int .i64 i16] 108,Ch.own S5 (x1:List Int) [.slice p5 x1.length k4],Ch.own S3 (r2:List Int) [.slice p3 r2.length k3],Ch.own S2 (r1:List Int) [.slice p2 r1.length k2],Ch.box bb2 [.slice none 0 0,.slice none 0 0,.slice none 0 0] 209,Ch.grp (old w0) (FS F) [fct (a_0:Tl01Source) [.slice p1 a_0.code.length k1,.int .i64 a_0.at_,.int .i64 a_0.seed],same w0 w F]]:=h
   refine G0 4095 [9,10,11] (h.pick [1] rfl) rfl (Ad (X0 3 rfl (qp qa [.tmp 59] _ ([(if (W64 (y2+i14)) > i13 then (W64 (y2+i14)) else i13)]:List Int) h rfl rfl rfl rfl rfl rfl rfl rfl rfl ⟨rfl,trivial⟩ rfl fun w9 p6 S6 h=>?_)))
   obtain ⟨x2,hx2,hF⟩:=qe hF
   obtain ⟨g2,hx2⟩:=qx hx2
   refine qaq qa 2 h rfl (h.sl 0 rfl).1 (h.sl 0 rfl).2 rfl rfl rfl rfl rfl rfl rfl rfl rfl g2 hx2 rfl fun w10 p7 k5 S7 h=>X0 8 rfl ?_
   replace h:=h.pick [2,3,1,4,5,6] rfl
   exact rK ⟨_,_,_,_,_,_,_,_,hF,rfl,h⟩ rfl
  refine X0 4 rfl (qp qa [.tmp 59] _ ([i13]:List Int) h rfl rfl rfl rfl rfl rfl rfl rfl rfl ⟨rfl,trivial⟩ rfl fun w11 p8 S8 h=>?_)
  obtain ⟨x3,hx3,hF⟩:=qe hF
  obtain ⟨g3,hx3⟩:=qx hx3
  refine qaq qa 2 h rfl (h.sl 0 rfl).1 (h.sl 0 rfl).2 rfl rfl rfl rfl rfl rfl rfl rfl rfl g3 hx3 rfl fun w12 p9 k6 S9 h=>X0 8 rfl ?_
  replace h:=h.pick [2,3,1,4,5,6] rfl
  exact rK ⟨_,_,_,_,_,_,_,_,hF,rfl,h⟩ rfl
 refine qw rfl ?_
 obtain rfl:=qb hF;replace hF:=hK1
 refine X0 5 rfl (r_v (qay qa [0,1,2] [.tmp 62,.tmp 63,.tmp 64] rfl rfl rfl rfl rfl rfl rfl rfl) rfl (zs 4 h rfl fun w16 h=>qbs ?_))
 have hk1:=h
 obtain ⟨S10,h⟩:=h.gather [2,4,5] (qmB (⟨r1,r2,x1⟩:qF) h (qJ 3 h rfl) (qJ 1 h rfl) (qJ 0 h rfl) (by rfl) (by rfl)) rfl
 obtain rfl:=qb hF
 replace h:=h.pick [0,1,3] rfl
 replace h:SH _ _ [Ch.own S10 ((⟨r1,r2,x1⟩:qF):qF) [.slice p2 r1.length k2,.slice p3 r2.length k3,.slice p5 x1.length k4],Ch.box bb1 [.slice p1 a_0.code.length k1,.int .i64 i5,.int .i64 i6] 108,Ch.grp (old w0) (FS F) [fct (a_0:Tl01Source) [.slice p1 a_0.code.length k1,.int .i64 a_0.at_,.int .i64 a_0.seed],same w0 w F]]:=h
 exact qce qa [GoT.v qF [.slice p2 r1.length k2,.slice p3 r2.length k3,.slice p5 x1.length k4]] ⟨⟨_,_,_,rfl,rfl,hk1.box 4 rfl,rfl⟩,trivial⟩ ⟨_,_,rfl,SH.unframe 1 (L0:=[Ch.box bb1 (qg a_0 p1 k1) 108]) h0 [Ch.own S10 ((⟨r1,r2,x1⟩:qF):qF) [.slice p2 r1.length k2,.slice p3 r2.length k3,.slice p5 x1.length k4],Ch.box bb1 [.slice p1 a_0.code.length k1,.int .i64 i5,.int .i64 i6] 108] h rfl⟩
def qb1 (n:Nat) (s:Tl01Source) (base:Int):Option ((List qF) × Int × Int) :=
 (qfh n (⟨s.code,s.at_,s.seed⟩:Tl01Source) base).bind fun o=>match o with
  | (r1,i1,i2) =>
   (qfh n (⟨s.code,i1,i2⟩:Tl01Source) base).bind fun o=>match o with
    | (r2,i3,i4) =>
     some (([r1,r2]:List qF),i3,i4)
theorem qdP {n:Nat} {w0 w:World} {F:List Ch} {s:Tl01Source} {bb1:Nat} {p1:Option Addr} {k1:Nat} {base:Int} (h0:SH w0 w (Ch.box bb1 (qg s p1 k1) 108::F)) (ha1:GoT.R w (Fr w0 F) s [.slice p1 s.code.length k1,.int .i64 s.at_,.int .i64 s.seed]) {r:((List qF) × Int × Int)} (hF:qb1 n s base=some r):RetW Tryz.prog 163 [.pointer (some ⟨bb1,0,none⟩),.int .i64 base] w (fun us w'=>∃ (S1:Nat→Prop) (cs1:List Value),us=[GoT.v (List qF) cs1]∧SH w0 w' (Ch.own S1 (r.1:(List qF)) cs1::Ch.box bb1 [.slice p1 s.code.length k1,.int .i64 r.2.1,.int .i64 r.2.2] 108::F)):=by
 have h:=SH.frame [Ch.box bb1 (qg s p1 k1) 108] h0
 replace h:=h.grpAdd 1 rfl ha1
 replace h:SH _ _ [Ch.box bb1 (qg s p1 k1) 108,Ch.grp (old w0) (FS F) [fct (s:Tl01Source) [.slice p1 s.code.length k1,.int .i64 s.at_,.int .i64 s.seed],same w0 w F]]:=h
 refine qbn Tryz.func163 rfl (m:=14) rfl rfl (X0 8 rfl ?_)
 obtain ⟨o1,hr1,hF⟩:=qe hF
 obtain ⟨r1,i1,i2⟩:=o1
 refine qB (cB 171 rfl) (qg3 (a_0:=(⟨s.code,s.at_,s.seed⟩:Tl01Source)) (a_1:=base) h ⟨[.slice p1 s.code.length k1],[.int .i64 s.at_,.int .i64 s.seed],rfl,⟨_,_,rfl,(qf (h.frG 1 0 1 rfl rfl rfl)).1⟩,⟨[.int .i64 s.at_],[.int .i64 s.seed],rfl,rfl,rfl⟩⟩ hr1) rfl rfl rfl rfl ?_
 rintro w1 us1 ⟨S2,cs2,rfl,h⟩
 obtain ⟨p2,k2,p3,k3,p4,k4,rfl,-,-,-⟩:=qdN (h.own 0 rfl)
 replace h:SH _ _ [Ch.own S2 (r1:qF) (qfd r1 p2 p3 p4 k2 k3 k4),Ch.box bb1 [.slice p1 s.code.length k1,.int .i64 i1,.int .i64 i2] 108,Ch.grp (old w0) (FS F) [fct (s:Tl01Source) [.slice p1 s.code.length k1,.int .i64 s.at_,.int .i64 s.seed],same w0 w F]]:=h
 refine qy qa h rfl rfl rfl fun w2 bb2 h=>zs 0 h rfl fun w3 h=>zNS (rA [] [0] h rfl fun w4 h=>M1 7 [0,1,2] 0 (h.pick [0] rfl) rfl (Ao 3 15 rfl ?_))
 replace h:=h.pick [2,0,1,3] rfl
 obtain ⟨o2,hr2,hF⟩:=qe hF
 obtain ⟨r2,i3,i4⟩:=o2
 refine qB (cB 171 rfl) (qg3 (a_0:=(⟨s.code,i1,i2⟩:Tl01Source)) (a_1:=base) h ⟨[.slice p1 s.code.length k1],[.int .i64 i1,.int .i64 i2],rfl,⟨_,_,rfl,(qf (h.frG 3 0 1 rfl rfl rfl)).1⟩,⟨[.int .i64 i1],[.int .i64 i2],rfl,rfl,rfl⟩⟩ hr2) rfl rfl rfl rfl ?_
 rintro w5 us2 ⟨S3,cs3,rfl,h⟩
 obtain ⟨p5,k5,p6,k6,p7,k7,rfl,-,-,-⟩:=qdN (h.own 0 rfl)
 replace h:SH _ _ [Ch.own S3 (r2:qF) (qfd r2 p5 p6 p7 k5 k6 k7),Ch.box bb1 [.slice p1 s.code.length k1,.int .i64 i3,.int .i64 i4] 108,Ch.box bb2 (qfd r1 p2 p3 p4 k2 k3 k4) 209,Ch.own S2 (r1:qF) (qfd r1 p2 p3 p4 k2 k3 k4),Ch.grp (old w0) (FS F) [fct (s:Tl01Source) [.slice p1 s.code.length k1,.int .i64 s.at_,.int .i64 s.seed],same w0 w F]]:=h
 refine Ag (h.pick [2] rfl) (Ao 4 31 rfl (qdC qa [.tmp 9,.tmp 12] _ ([r1,r2]:List qF) [1,2,4] h rfl rfl rfl rfl rfl rfl rfl rfl rfl (qbY (qJ 3 h rfl) (qbY (qJ 0 h rfl) qfn rfl) rfl) rfl rfl fun w6 p8 S4 h=>G0 63 [5] (h.pick [2] rfl) rfl (Ad ?_)))
 obtain rfl:=qb hF
 replace h:=h.pick [0,1,3] rfl
 replace h:SH _ _ [Ch.own S4 (([r1,r2]:List qF):List qF) [.slice p8 2 2],Ch.box bb1 [.slice p1 s.code.length k1,.int .i64 i3,.int .i64 i4] 108,Ch.grp (old w0) (FS F) [fct (s:Tl01Source) [.slice p1 s.code.length k1,.int .i64 s.at_,.int .i64 s.seed],same w0 w F]]:=h
 exact qce qa [GoT.v (List qF) [.slice p8 2 2]] ⟨rfl,trivial⟩ ⟨_,_,rfl,SH.unframe 1 (L0:=[Ch.box bb1 (qg s p1 k1) 108]) h0 [Ch.own S4 (([r1,r2]:List qF):List qF) [.slice p8 2 2],Ch.box bb1 [.slice p1 s.code.length k1,.int .i64 i3,.int .i64 i4] 108] h rfl⟩
def qbQ (n:Nat) (s:Tl01Source) (kind:Int) (a_from:Int) (a_to:Int) (sense:Int):Option (qS × Int × Int) :=
 bif decide (kind ≥ 4) then
  (qu n (⟨s.code,s.at_,s.seed⟩:Tl01Source) 10).bind fun o=>match o with
   | (i1,i2,i3) =>
    (qb1 n (⟨s.code,i2,i3⟩:Tl01Source) (W64 (5-i1))).bind fun o=>match o with
     | (r1,i4,i5) =>
      some ((⟨kind,a_from,a_to,0,r1,[]⟩:qS),i4,i5)
 else
  (qu n (⟨s.code,s.at_,s.seed⟩:Tl01Source) 20).bind fun o=>match o with
   | (i6,i7,i8) =>
    (qb1 n (⟨s.code,i7,i8⟩:Tl01Source) (W64 (5+i6))).bind fun o=>match o with
     | (r2,i9,i10) =>
      (qb1 n (⟨s.code,i9,i10⟩:Tl01Source) 10).bind fun o=>match o with
       | (r3,i11,i12) =>
        some ((⟨kind,a_from,a_to,sense,r2,r3⟩:qS),i11,i12)
theorem qcv {n:Nat} {w0 w:World} {F:List Ch} {s:Tl01Source} {bb1:Nat} {p1:Option Addr} {k1:Nat} {kind:Int} {a_from:Int} {a_to:Int} {sense:Int} (h0:SH w0 w (Ch.box bb1 (qg s p1 k1) 108::F)) (ha1:GoT.R w (Fr w0 F) s [.slice p1 s.code.length k1,.int .i64 s.at_,.int .i64 s.seed]) {r:(qS × Int × Int)} (hF:qbQ n s kind a_from a_to sense=some r):RetW Tryz.prog 156 [.pointer (some ⟨bb1,0,none⟩),.int .i64 kind,.int .i64 a_from,.int .i64 a_to,.int .i64 sense] w (fun us w'=>∃ (S1:Nat→Prop) (cs1:List Value),us=[GoT.v qS cs1]∧SH w0 w' (Ch.own S1 (r.1:qS) cs1::Ch.box bb1 [.slice p1 s.code.length k1,.int .i64 r.2.1,.int .i64 r.2.2] 108::F)):=by
 have h:=SH.frame [Ch.box bb1 (qg s p1 k1) 108] h0
 replace h:=h.grpAdd 1 rfl ha1
 replace h:SH _ _ [Ch.box bb1 (qg s p1 k1) 108,Ch.grp (old w0) (FS F) [fct (s:Tl01Source) [.slice p1 s.code.length k1,.int .i64 s.at_,.int .i64 s.seed],same w0 w F]]:=h
 refine qbn Tryz.func156 rfl (m:=36) rfl rfl (zSR (qy qa h rfl rfl rfl fun w1 bb2 h=>X0 7 rfl (qr rfl hF ?_ ?_)))<;>intro hF
 ·refine X0 7 rfl ?_
  replace h:=h.pick [1,0,2] rfl
  obtain ⟨o1,hr1,hF⟩:=qe hF
  obtain ⟨i1,i2,i3⟩:=o1
  refine qB (cB 32 rfl) (qj (a_0:=(⟨s.code,s.at_,s.seed⟩:Tl01Source)) (a_1:=10) h ⟨[.slice p1 s.code.length k1],[.int .i64 s.at_,.int .i64 s.seed],rfl,⟨_,_,rfl,(qf (h.frG 2 0 1 rfl rfl rfl)).1⟩,⟨[.int .i64 s.at_],[.int .i64 s.seed],rfl,rfl,rfl⟩⟩ hr1) rfl rfl rfl rfl ?_
  rintro w2 us1 ⟨rfl,h⟩
  replace h:SH _ _ [Ch.box bb1 [.slice p1 s.code.length k1,.int .i64 i2,.int .i64 i3] 108,Ch.box bb2 [.int .i64 0,.int .i64 0,.int .i64 0,.int .i64 0,.slice none 0 0,.slice none 0 0] 133,Ch.grp (old w0) (FS F) [fct (s:Tl01Source) [.slice p1 s.code.length k1,.int .i64 s.at_,.int .i64 s.seed],same w0 w F]]:=h
  refine zp1 rfl ?_
  obtain ⟨o2,hr2,hF⟩:=qe hF
  obtain ⟨r1,i4,i5⟩:=o2
  refine qB (cB 163 rfl) (qdP (s:=(⟨s.code,i2,i3⟩:Tl01Source)) (base:=(W64 (5-i1))) h ⟨[.slice p1 s.code.length k1],[.int .i64 i2,.int .i64 i3],rfl,⟨_,_,rfl,(qf (h.frG 2 0 1 rfl rfl rfl)).1⟩,⟨[.int .i64 i2],[.int .i64 i3],rfl,rfl,rfl⟩⟩ hr2) rfl rfl rfl rfl ?_
  rintro w3 us2 ⟨S2,cs2,rfl,h⟩
  obtain ⟨p2,k2,rfl,-⟩:=h.own 0 rfl
  replace h:SH _ _ [Ch.own S2 (r1:List qF) [.slice p2 r1.length k2],Ch.box bb1 [.slice p1 s.code.length k1,.int .i64 i4,.int .i64 i5] 108,Ch.box bb2 [.int .i64 0,.int .i64 0,.int .i64 0,.int .i64 0,.slice none 0 0,.slice none 0 0] 133,Ch.grp (old w0) (FS F) [fct (s:Tl01Source) [.slice p1 s.code.length k1,.int .i64 s.at_,.int .i64 s.seed],same w0 w F]]:=h
  refine r_v (qay qa [0,1,2,4] [.tmp 14,.tmp 15,.tmp 16,.tmp 21] rfl rfl rfl rfl rfl rfl rfl rfl) rfl (zs 2 h rfl fun w4 h=>qbs ?_)
  have hk1:=h
  obtain ⟨S3,h⟩:=h.gather [1,2,3] (qmo (⟨kind,a_from,a_to,0,r1,[]⟩:qS) h (qN (S:=fun _=>False) rfl) (qN (S:=fun _=>False) rfl) (qN (S:=fun _=>False) rfl) (qN (S:=fun _=>False) rfl) (qJ 0 h rfl) qfA (by rfl) (by rfl) (by rfl) (by rfl) (by rfl)) rfl
  obtain rfl:=qb hF
  replace h:=h.pick [0,1,3] rfl
  replace h:SH _ _ [Ch.own S3 ((⟨kind,a_from,a_to,0,r1,[]⟩:qS):qS) [.int .i64 kind,.int .i64 a_from,.int .i64 a_to,.int .i64 0,.slice p2 r1.length k2,.slice none 0 0],Ch.box bb1 [.slice p1 s.code.length k1,.int .i64 i4,.int .i64 i5] 108,Ch.grp (old w0) (FS F) [fct (s:Tl01Source) [.slice p1 s.code.length k1,.int .i64 s.at_,.int .i64 s.seed],same w0 w F]]:=h
  exact qce qa [GoT.v qS [.int .i64 kind,.int .i64 a_from,.int .i64 a_to,.int .i64 0,.slice p2 r1.length k2,.slice none 0 0]] ⟨⟨_,_,_,rfl,rfl,hk1.box 2 rfl,rfl⟩,trivial⟩ ⟨_,_,rfl,SH.unframe 1 (L0:=[Ch.box bb1 (qg s p1 k1) 108]) h0 [Ch.own S3 ((⟨kind,a_from,a_to,0,r1,[]⟩:qS):qS) [.int .i64 kind,.int .i64 a_from,.int .i64 a_to,.int .i64 0,.slice p2 r1.length k2,.slice none 0 0],Ch.box bb1 [.slice p1 s.code.length k1,.int .i64 i4,.int .i64 i5] 108] h rfl⟩
 refine X0 5 rfl ?_
 replace h:=h.pick [1,0,2] rfl
 obtain ⟨o3,hr3,hF⟩:=qe hF
 obtain ⟨i6,i7,i8⟩:=o3
 refine qB (cB 32 rfl) (qj (a_0:=(⟨s.code,s.at_,s.seed⟩:Tl01Source)) (a_1:=20) h ⟨[.slice p1 s.code.length k1],[.int .i64 s.at_,.int .i64 s.seed],rfl,⟨_,_,rfl,(qf (h.frG 2 0 1 rfl rfl rfl)).1⟩,⟨[.int .i64 s.at_],[.int .i64 s.seed],rfl,rfl,rfl⟩⟩ hr3) rfl rfl rfl rfl ?_
 rintro w5 us3 ⟨rfl,h⟩
 replace h:SH _ _ [Ch.box bb1 [.slice p1 s.code.length k1,.int .i64 i7,.int .i64 i8] 108,Ch.box bb2 [.int .i64 0,.int .i64 0,.int .i64 0,.int .i64 0,.slice none 0 0,.slice none 0 0] 133,Ch.grp (old w0) (FS F) [fct (s:Tl01Source) [.slice p1 s.code.length k1,.int .i64 s.at_,.int .i64 s.seed],same w0 w F]]:=h
 refine zp1 rfl ?_
 obtain ⟨o4,hr4,hF⟩:=qe hF
 obtain ⟨r2,i9,i10⟩:=o4
 refine qB (cB 163 rfl) (qdP (s:=(⟨s.code,i7,i8⟩:Tl01Source)) (base:=(W64 (5+i6))) h ⟨[.slice p1 s.code.length k1],[.int .i64 i7,.int .i64 i8],rfl,⟨_,_,rfl,(qf (h.frG 2 0 1 rfl rfl rfl)).1⟩,⟨[.int .i64 i7],[.int .i64 i8],rfl,rfl,rfl⟩⟩ hr4) rfl rfl rfl rfl ?_
 rintro w6 us4 ⟨S4,cs3,rfl,h⟩
 obtain ⟨p3,k3,rfl,-⟩:=h.own 0 rfl
 replace h:SH _ _ [Ch.own S4 (r2:List qF) [.slice p3 r2.length k3],Ch.box bb1 [.slice p1 s.code.length k1,.int .i64 i9,.int .i64 i10] 108,Ch.box bb2 [.int .i64 0,.int .i64 0,.int .i64 0,.int .i64 0,.slice none 0 0,.slice none 0 0] 133,Ch.grp (old w0) (FS F) [fct (s:Tl01Source) [.slice p1 s.code.length k1,.int .i64 s.at_,.int .i64 s.seed],same w0 w F]]:=h
 refine X0 10 rfl ?_
 replace h:=h.pick [1,0,2,3] rfl
 obtain ⟨o5,hr5,hF⟩:=qe hF
 obtain ⟨r3,i11,i12⟩:=o5
 refine qB (cB 163 rfl) (qdP (s:=(⟨s.code,i9,i10⟩:Tl01Source)) (base:=10) h ⟨[.slice p1 s.code.length k1],[.int .i64 i9,.int .i64 i10],rfl,⟨_,_,rfl,(qf (h.frG 3 0 1 rfl rfl rfl)).1⟩,⟨[.int .i64 i9],[.int .i64 i10],rfl,rfl,rfl⟩⟩ hr5) rfl rfl rfl rfl ?_
 rintro w7 us5 ⟨S5,cs4,rfl,h⟩
 obtain ⟨p4,k4,rfl,-⟩:=h.own 0 rfl
 replace h:SH _ _ [Ch.own S5 (r3:List qF) [.slice p4 r3.length k4],Ch.box bb1 [.slice p1 s.code.length k1,.int .i64 i11,.int .i64 i12] 108,Ch.own S4 (r2:List qF) [.slice p3 r2.length k3],Ch.box bb2 [.int .i64 0,.int .i64 0,.int .i64 0,.int .i64 0,.slice none 0 0,.slice none 0 0] 133,Ch.grp (old w0) (FS F) [fct (s:Tl01Source) [.slice p1 s.code.length k1,.int .i64 s.at_,.int .i64 s.seed],same w0 w F]]:=h
 refine r_v (qay qa [0,1,2,3,4,5] [.tmp 28,.tmp 29,.tmp 30,.tmp 31,.tmp 32,.tmp 34] rfl rfl rfl rfl rfl rfl rfl rfl) rfl (zs 3 h rfl fun w8 h=>qbs ?_)
 have hk2:=h
 obtain ⟨S6,h⟩:=h.gather [1,3,4] (qmo (⟨kind,a_from,a_to,sense,r2,r3⟩:qS) h (qN (S:=fun _=>False) rfl) (qN (S:=fun _=>False) rfl) (qN (S:=fun _=>False) rfl) (qN (S:=fun _=>False) rfl) (qJ 2 h rfl) (qJ 0 h rfl) (by rfl) (by rfl) (by rfl) (by rfl) (by rfl)) rfl
 obtain rfl:=qb hF
 replace h:=h.pick [0,1,3] rfl
 replace h:SH _ _ [Ch.own S6 ((⟨kind,a_from,a_to,sense,r2,r3⟩:qS):qS) [.int .i64 kind,.int .i64 a_from,.int .i64 a_to,.int .i64 sense,.slice p3 r2.length k3,.slice p4 r3.length k4],Ch.box bb1 [.slice p1 s.code.length k1,.int .i64 i11,.int .i64 i12] 108,Ch.grp (old w0) (FS F) [fct (s:Tl01Source) [.slice p1 s.code.length k1,.int .i64 s.at_,.int .i64 s.seed],same w0 w F]]:=h
 exact qce qa [GoT.v qS [.int .i64 kind,.int .i64 a_from,.int .i64 a_to,.int .i64 sense,.slice p3 r2.length k3,.slice p4 r3.length k4]] ⟨⟨_,_,_,rfl,rfl,hk2.box 3 rfl,rfl⟩,trivial⟩ ⟨_,_,rfl,SH.unframe 1 (L0:=[Ch.box bb1 (qg s p1 k1) 108]) h0 [Ch.own S6 ((⟨kind,a_from,a_to,sense,r2,r3⟩:qS):qS) [.int .i64 kind,.int .i64 a_from,.int .i64 a_to,.int .i64 sense,.slice p3 r2.length k3,.slice p4 r3.length k4],Ch.box bb1 [.slice p1 s.code.length k1,.int .i64 i11,.int .i64 i12] 108] h rfl⟩
def qct (a_0:Tl01Source) (a_1:ByteArray) (a_2:(List Int)) (i1:Int) (i4:Int) (x1:(List qQ)) (x3:(List qQ)):Nat→(List qS)→Int→Int→Int→Option ((List qS) × Int × Int × Int)
 | 0,_,_,_,_=>none
 | n+1,x4,i13,i14,i15 =>
  bif decide (i15<(x1.length:Int)) then
   (qgM n (⟨a_1,1,x3,[],a_2,i1,i4⟩:qk) i15).bind fun r1 =>
   bif (r1 != 0) then
    (qbQ n (⟨a_0.code,i13,i14⟩:Tl01Source) 1 i15 (x1.length:Int) r1).bind fun o=>match o with
     | (r2,i16,i17) =>
      (appS x4 ([r2]:List qS)).bind fun x5 =>
      qct a_0 a_1 a_2 i1 i4 x1 x3 n x5 i16 i17 (W64 (i15+1))
   else
    qct a_0 a_1 a_2 i1 i4 x1 x3 n x4 i13 i14 (W64 (i15+1))
  else
   some (x4,i13,i14,i15)
def qc2 (a_0:Tl01Source) (a_2:(List Int)):Nat→(List qQ)→Int→Int→Int→Option ((List qQ) × Int × Int × Int)
 | 0,_,_,_,_=>none
 | n+1,x1,i7,i8,i9 =>
  bif decide (i9<(a_2.length:Int)) then
   (idx ([(⟨#[97]⟩:ByteArray),(⟨#[98]⟩:ByteArray),(⟨#[99]⟩:ByteArray),(⟨#[100]⟩:ByteArray)]:List ByteArray) (x1.length:Int)).bind fun y1 =>
   (qu n (⟨a_0.code,i7,i8⟩:Tl01Source) 9).bind fun o=>match o with
    | (i10,i11,i12) =>
     (appS x1 ([(⟨y1,1,W64 (1+i10),false⟩:qQ)]:List qQ)).bind fun x2 =>
     qc2 a_0 a_2 n x2 i11 i12 (W64 (2*i9))
  else
   some (x1,i7,i8,i9)
def qdn (n:Nat) (a_0:Tl01Source) (a_1:ByteArray) (a_2:(List Int)):Option (qk × Int × Int) :=
 (qu n (⟨a_0.code,a_0.at_,a_0.seed⟩:Tl01Source) 50).bind fun o=>match o with
  | (i1,i2,i3) =>
   (qu n (⟨a_0.code,i2,i3⟩:Tl01Source) 80).bind fun o=>match o with
    | (i4,i5,i6) =>
     (qc2 a_0 a_2 n ([]:List qQ) i5 i6 1).bind fun o=>match o with
     | (x1,i7,i8,_) =>
      (appS x1 ([(⟨(⟨#[121]⟩:ByteArray),2,0,false⟩:qQ)]:List qQ)).bind fun x3 =>
      (qct a_0 a_1 a_2 i1 i4 x1 x3 n ([]:List qS) i7 i8 0).bind fun o=>match o with
      | (x4,i13,i14,_) =>
       some ((⟨a_1,1,x3,x4,a_2,i1,i4⟩:qk),i13,i14)
theorem qdI {n:Nat} {w0 w:World} {F:List Ch} {a_0:Tl01Source} {bb1:Nat} {p1:Option Addr} {k1:Nat} {a_1:ByteArray} {a_2:(List Int)} {S1:Nat→Prop} {p2:Option Addr} {k2:Nat} (h0:SH w0 w (Ch.box bb1 (qg a_0 p1 k1) 108::Ch.own S1 (a_2:List Int) [.slice p2 a_2.length k2]::F)) (ha1:GoT.R w (Fr w0 F) a_0 [.slice p1 a_0.code.length k1,.int .i64 a_0.at_,.int .i64 a_0.seed]) {r:(qk × Int × Int)} (hF:qdn n a_0 a_1 a_2=some r):RetW Tryz.prog 141 [.pointer (some ⟨bb1,0,none⟩),.string a_1,.slice p2 a_2.length k2] w (fun us w'=>∃ (S2:Nat→Prop) (cs1:List Value),us=[GoT.v qk cs1]∧SH w0 w' (Ch.own S2 (r.1:qk) cs1::Ch.box bb1 [.slice p1 a_0.code.length k1,.int .i64 r.2.1,.int .i64 r.2.2] 108::F)):=by
 have h:=SH.frame [Ch.box bb1 (qg a_0 p1 k1) 108,Ch.own S1 (a_2:List Int) [.slice p2 a_2.length k2]] h0
 replace h:=h.grpAdd 2 rfl ha1
 replace h:SH _ _ [Ch.box bb1 (qg a_0 p1 k1) 108,Ch.own S1 (a_2:List Int) [.slice p2 a_2.length k2],Ch.grp (old w0) (FS F) [fct (a_0:Tl01Source) [.slice p1 a_0.code.length k1,.int .i64 a_0.at_,.int .i64 a_0.seed],same w0 w F]]:=h
 refine qbn Tryz.func141 rfl (m:=71) rfl rfl (zSR (qy qa h rfl rfl rfl fun w1 bb2 h=>zNSR (qp qa [.const (.string (⟨#[97]⟩:ByteArray)),.const (.string (⟨#[98]⟩:ByteArray)),.const (.string (⟨#[99]⟩:ByteArray)),.const (.string (⟨#[100]⟩:ByteArray))] _ ([(⟨#[97]⟩:ByteArray),(⟨#[98]⟩:ByteArray),(⟨#[99]⟩:ByteArray),(⟨#[100]⟩:ByteArray)]:List ByteArray) h rfl rfl rfl rfl rfl rfl rfl rfl rfl ⟨rfl,rfl,rfl,rfl,trivial⟩ rfl fun w2 p3 S3 h=>X0 7 rfl ?_)))
 replace h:=h.pick [2,0,1,3,4] rfl
 obtain ⟨o1,hr1,hF⟩:=qe hF
 obtain ⟨i1,i2,i3⟩:=o1
 refine qB (cB 32 rfl) (qj (a_0:=(⟨a_0.code,a_0.at_,a_0.seed⟩:Tl01Source)) (a_1:=50) h ⟨[.slice p1 a_0.code.length k1],[.int .i64 a_0.at_,.int .i64 a_0.seed],rfl,⟨_,_,rfl,(qf (h.frG 4 0 1 rfl rfl rfl)).1⟩,⟨[.int .i64 a_0.at_],[.int .i64 a_0.seed],rfl,rfl,rfl⟩⟩ hr1) rfl rfl rfl rfl ?_
 rintro w3 us1 ⟨rfl,h⟩
 replace h:SH _ _ [Ch.box bb1 [.slice p1 a_0.code.length k1,.int .i64 i2,.int .i64 i3] 108,Ch.own S3 (([(⟨#[97]⟩:ByteArray),(⟨#[98]⟩:ByteArray),(⟨#[99]⟩:ByteArray),(⟨#[100]⟩:ByteArray)]:List ByteArray):List ByteArray) [.slice p3 4 4],Ch.box bb2 [.string ByteArray.empty,.int .i64 0,.slice none 0 0,.slice none 0 0,.slice none 0 0,.int .i64 0,.int .i64 0] 128,Ch.own S1 (a_2:List Int) [.slice p2 a_2.length k2],Ch.grp (old w0) (FS F) [fct (a_0:Tl01Source) [.slice p1 a_0.code.length k1,.int .i64 a_0.at_,.int .i64 a_0.seed],same w0 w F]]:=h
 refine zp1 rfl ?_
 obtain ⟨o2,hr2,hF⟩:=qe hF
 obtain ⟨i4,i5,i6⟩:=o2
 refine qB (cB 32 rfl) (qj (a_0:=(⟨a_0.code,i2,i3⟩:Tl01Source)) (a_1:=80) h ⟨[.slice p1 a_0.code.length k1],[.int .i64 i2,.int .i64 i3],rfl,⟨_,_,rfl,(qf (h.frG 4 0 1 rfl rfl rfl)).1⟩,⟨[.int .i64 i2],[.int .i64 i3],rfl,rfl,rfl⟩⟩ hr2) rfl rfl rfl rfl ?_
 rintro w4 us2 ⟨rfl,h⟩
 replace h:SH _ _ [Ch.box bb1 [.slice p1 a_0.code.length k1,.int .i64 i5,.int .i64 i6] 108,Ch.own S3 (([(⟨#[97]⟩:ByteArray),(⟨#[98]⟩:ByteArray),(⟨#[99]⟩:ByteArray),(⟨#[100]⟩:ByteArray)]:List ByteArray):List ByteArray) [.slice p3 4 4],Ch.box bb2 [.string ByteArray.empty,.int .i64 0,.slice none 0 0,.slice none 0 0,.slice none 0 0,.int .i64 0,.int .i64 0] 128,Ch.own S1 (a_2:List Int) [.slice p2 a_2.length k2],Ch.grp (old w0) (FS F) [fct (a_0:Tl01Source) [.slice p1 a_0.code.length k1,.int .i64 a_0.at_,.int .i64 a_0.seed],same w0 w F]]:=h
 refine r_v (qay qa [0,1,4,5,6] [.tmp 16,.const (.int .i64 (1)),.tmp 17,.tmp 19,.tmp 21] rfl rfl rfl rfl rfl rfl rfl rfl) rfl (qy qa h rfl rfl rfl fun w5 bb3 h=>zs 0 h rfl fun w6 h=>zNSR (qp qa [] _ ([]:List qQ) h rfl rfl rfl rfl rfl rfl rfl rfl rfl trivial rfl fun w7 p4 S4 h=>X0 7 rfl ?_))
 obtain ⟨o3,hF,hK1⟩:=qe hF
 refine qq (rL (fun m e w'=>∃ (S5:Nat→Prop) (p5:Option Addr) (ln1:Nat) (k3:Nat) (x1:(List qQ)) (i7:Int) (i8:Int) (i9:Int),qc2 a_0 a_2 m x1 i7 i8 i9=some o3∧e=[(0,.pointer (some ⟨bb1,0,none⟩)),(2,.slice p2 a_2.length k2),(6,.pointer (some ⟨bb2,0,none⟩)),(7,.slice p3 4 4),(8,.pointer (some ⟨bb3,0,none⟩)),(9,.slice p5 ln1 k3),(10,.int .i64 i9)]∧SH w0 w' [Ch.own S5 (x1:List qQ) [.slice p5 ln1 k3],Ch.box bb3 [.string a_1,.int .i64 1,.slice none 0 0,.slice none 0 0,.slice p2 a_2.length k2,.int .i64 i1,.int .i64 i4] 128,Ch.box bb1 [.slice p1 a_0.code.length k1,.int .i64 i7,.int .i64 i8] 108,Ch.own S3 (([(⟨#[97]⟩:ByteArray),(⟨#[98]⟩:ByteArray),(⟨#[99]⟩:ByteArray),(⟨#[100]⟩:ByteArray)]:List ByteArray):List ByteArray) [.slice p3 4 4],Ch.box bb2 [.string ByteArray.empty,.int .i64 0,.slice none 0 0,.slice none 0 0,.slice none 0 0,.int .i64 0,.int .i64 0] 128,Ch.own S1 (a_2:List Int) [.slice p2 a_2.length k2],Ch.grp (old w0) (FS F) [fct (a_0:Tl01Source) [.slice p1 a_0.code.length k1,.int .i64 a_0.at_,.int .i64 a_0.seed],same w0 w F]]) n ⟨_,_,_,_,_,_,_,_,hF,rfl,h⟩ rfl ?_)
 rintro m1 e1 w8 ⟨S5,p5,ln1,k3,x1,i7,i8,i9,hF,rfl,h⟩
 obtain rfl:=(h.sl 0 rfl).2
 rcases m1 with _|m1
 ·cases hF
 refine X0 8 rfl (qr rfl hF ?_ ?_)<;>intro hF
 ·refine zKSB (rA [] [3] h rfl fun w9 h=>M0 15 [0,1,2,3] (h.pick [3] rfl) rfl ?_)
  obtain ⟨y1,hy1,hF,he1,b1,_,q1,cs2,hp1,hq1,rfl,hc2⟩:=(h.sl 3 rfl).1.ix hF
  refine Ax 4 31 hp1 hq1 ⟨he1.1,qY he1.2.1 (h.sl 3 rfl).2⟩ (h.pick [3] rfl) rfl (Aw 5 63 (fun w' hw=>qfq qa (qcj (w1:=w) (S1:=fun _=>False) hw 0 rfl hy1 hp1 hq1 rfl) (j:=0) rfl rfl rfl) (h.pick [3] rfl) rfl ?_)
  refine M0 127 [6] (h.pick [3] rfl) rfl (Ao 7 255 rfl ?_)
  replace h:=h.pick [2,0,1,3,4,5,6] rfl
  obtain ⟨o4,hr4,hF⟩:=qe hF
  obtain ⟨i10,i11,i12⟩:=o4
  refine qB (cB 32 rfl) (qj (a_0:=(⟨a_0.code,i7,i8⟩:Tl01Source)) (a_1:=9) h ⟨[.slice p1 a_0.code.length k1],[.int .i64 i7,.int .i64 i8],rfl,⟨_,_,rfl,(qf (h.frG 6 0 1 rfl rfl rfl)).1⟩,⟨[.int .i64 i7],[.int .i64 i8],rfl,rfl,rfl⟩⟩ hr4) rfl rfl rfl rfl ?_
  rintro w10 us3 ⟨rfl,h⟩
  replace h:SH _ _ [Ch.box bb1 [.slice p1 a_0.code.length k1,.int .i64 i11,.int .i64 i12] 108,Ch.own S5 (x1:List qQ) [.slice p5 x1.length k3],Ch.box bb3 [.string a_1,.int .i64 1,.slice none 0 0,.slice none 0 0,.slice p2 a_2.length k2,.int .i64 i1,.int .i64 i4] 128,Ch.own S3 (([(⟨#[97]⟩:ByteArray),(⟨#[98]⟩:ByteArray),(⟨#[99]⟩:ByteArray),(⟨#[100]⟩:ByteArray)]:List ByteArray):List ByteArray) [.slice p3 4 4],Ch.box bb2 [.string ByteArray.empty,.int .i64 0,.slice none 0 0,.slice none 0 0,.slice none 0 0,.int .i64 0,.int .i64 0] 128,Ch.own S1 (a_2:List Int) [.slice p2 a_2.length k2],Ch.grp (old w0) (FS F) [fct (a_0:Tl01Source) [.slice p1 a_0.code.length k1,.int .i64 a_0.at_,.int .i64 a_0.seed],same w0 w F]]:=h
  refine G0 511 [8] (h.pick [3] rfl) rfl (Aw 9 1023 (fun w' hw=>qay qa [0,1,2] [.tmp 35,.const (.int .i64 (1)),.tmp 38] rfl rfl rfl rfl rfl rfl rfl rfl) (h.pick [3] rfl) rfl ?_)
  refine Ao 10 2047 rfl (qp qa [.tmp 39] _ ([(⟨y1,1,W64 (1+i10),false⟩:qQ)]:List qQ) h rfl rfl rfl rfl rfl rfl rfl rfl rfl ⟨(qgQ (⟨y1,1,W64 (1+i10),false⟩:qQ)),trivial⟩ rfl fun w11 p6 S6 h=>Ag (h.pick [4] rfl) (Ao 11 4095 rfl ?_))
  obtain ⟨x2,hx1,hF⟩:=qe hF
  obtain ⟨g1,hx1⟩:=qx hx1
  refine qaq qa 2 h rfl (h.sl 0 rfl).1 (h.sl 0 rfl).2 rfl rfl rfl rfl rfl rfl rfl rfl rfl g1 hx1 rfl fun w12 p7 k4 S7 h=>G0 8191 [12] (h.pick [4] rfl) rfl (Ad (X0 6 rfl ?_))
  replace h:=h.pick [2,3,1,4,5,6,7] rfl
  exact rK ⟨_,_,_,_,_,_,_,_,hF,rfl,h⟩ rfl
 refine qw rfl ?_
 obtain rfl:=qb hF;replace hF:=hK1
 refine X0 9 rfl (r_v (qay qa [0,1] [.const (.string (⟨#[121]⟩:ByteArray)),.const (.int .i64 (2))] rfl rfl rfl rfl rfl rfl rfl rfl) rfl (qp qa [.tmp 45] _ ([(⟨(⟨#[121]⟩:ByteArray),2,0,false⟩:qQ)]:List qQ) h rfl rfl rfl rfl rfl rfl rfl rfl rfl ⟨(qgQ (⟨(⟨#[121]⟩:ByteArray),2,0,false⟩:qQ)),trivial⟩ rfl fun w13 p8 S8 h=>?_))
 obtain ⟨x3,hx2,hF⟩:=qe hF
 obtain ⟨g2,hx2⟩:=qx hx2
 refine qaq qa 1 h rfl (h.sl 0 rfl).1 (h.sl 0 rfl).2 rfl rfl rfl rfl rfl rfl rfl rfl rfl g2 hx2 rfl fun w14 p9 k5 S9 h=>zp1 rfl (zs 2 h rfl fun w15 h=>zNSR (qdC qa [] _ ([]:List qS) [0,1,2,3,4,5,6,7] h rfl rfl rfl rfl rfl rfl rfl rfl rfl qfn rfl rfl fun w16 p10 S10 h=>X0 7 rfl ?_))
 obtain ⟨o5,hF,hK2⟩:=qe hF
 refine qq ?_
 replace h:=h.pick [0,2,3,4,6,7,8] rfl
 refine rL (fun m e w'=>∃ (S11:Nat→Prop) (p11:Option Addr) (ln2:Nat) (k6:Nat) (x4:(List qS)) (i13:Int) (i14:Int) (i15:Int),qct a_0 a_1 a_2 i1 i4 x1 x3 m x4 i13 i14 i15=some o5∧e=[(0,.pointer (some ⟨bb1,0,none⟩)),(6,.pointer (some ⟨bb2,0,none⟩)),(8,.pointer (some ⟨bb3,0,none⟩)),(11,.int .i64 (x1.length:Int)),(12,.slice p11 ln2 k6),(13,.int .i64 i15)]∧SH w0 w' [Ch.own S11 (x4:List qS) [.slice p11 ln2 k6],Ch.own S9 (x3:List qQ) [.slice p9 x3.length k5],Ch.box bb3 [.string a_1,.int .i64 1,.slice p9 x3.length k5,.slice none 0 0,.slice p2 a_2.length k2,.int .i64 i1,.int .i64 i4] 128,Ch.box bb1 [.slice p1 a_0.code.length k1,.int .i64 i13,.int .i64 i14] 108,Ch.box bb2 [.string ByteArray.empty,.int .i64 0,.slice none 0 0,.slice none 0 0,.slice none 0 0,.int .i64 0,.int .i64 0] 128,Ch.own S1 (a_2:List Int) [.slice p2 a_2.length k2],Ch.grp (old w0) (FS F) [fct (a_0:Tl01Source) [.slice p1 a_0.code.length k1,.int .i64 a_0.at_,.int .i64 a_0.seed],same w0 w F]]) n ⟨_,_,_,_,_,_,_,_,hF,rfl,h⟩ rfl ?_
 rintro m2 e2 w17 ⟨S11,p11,ln2,k6,x4,i13,i14,i15,hF,rfl,h⟩
 obtain rfl:=(h.sl 0 rfl).2
 rcases m2 with _|m2
 ·cases hF
 refine X0 7 rfl (qr rfl hF ?_ ?_)<;>intro hF
 ·refine X1 7 2 h rfl (zcI h hF (qje ⟨[.string a_1],[.int .i64 1,.slice p9 x3.length k5,.slice none 0 0,.slice p2 a_2.length k2,.int .i64 i1,.int .i64 i4],rfl,rfl,⟨[.int .i64 1],[.slice p9 x3.length k5,.slice none 0 0,.slice p2 a_2.length k2,.int .i64 i1,.int .i64 i4],rfl,rfl,⟨[.slice p9 x3.length k5],[.slice none 0 0,.slice p2 a_2.length k2,.int .i64 i1,.int .i64 i4],rfl,(h.own 1 rfl),⟨[.slice none 0 0],[.slice p2 a_2.length k2,.int .i64 i1,.int .i64 i4],rfl,⟨_,_,rfl,qmn⟩,⟨[.slice p2 a_2.length k2],[.int .i64 i1,.int .i64 i4],rfl,(h.own 5 rfl),⟨[.int .i64 i1],[.int .i64 i4],rfl,rfl,rfl⟩⟩⟩⟩⟩⟩) rfl fun r1 w18 h hF=>X0 7 rfl (qr rfl hF ?_ ?_))<;>intro hF
  ·refine X0 6 rfl ?_
   replace h:=h.pick [3,0,1,2,4,5,6] rfl
   obtain ⟨o6,hr6,hF⟩:=qe hF
   obtain ⟨r2,i16,i17⟩:=o6
   refine qB (cB 156 rfl) (qcv (s:=(⟨a_0.code,i13,i14⟩:Tl01Source)) (kind:=1) (a_from:=i15) (a_to:=(x1.length:Int)) (sense:=r1) h ⟨[.slice p1 a_0.code.length k1],[.int .i64 i13,.int .i64 i14],rfl,⟨_,_,rfl,(qf (h.frG 6 0 1 rfl rfl rfl)).1⟩,⟨[.int .i64 i13],[.int .i64 i14],rfl,rfl,rfl⟩⟩ hr6) rfl rfl rfl rfl ?_
   rintro w19 us4 ⟨S12,cs3,rfl,h⟩
   obtain ⟨p12,k7,p13,k8,rfl,-,-⟩:=qaj (h.own 0 rfl)
   replace h:SH _ _ [Ch.own S12 (r2:qS) (qeo r2 p12 p13 k7 k8),Ch.box bb1 [.slice p1 a_0.code.length k1,.int .i64 i16,.int .i64 i17] 108,Ch.own S11 (x4:List qS) [.slice p11 x4.length k6],Ch.own S9 (x3:List qQ) [.slice p9 x3.length k5],Ch.box bb3 [.string a_1,.int .i64 1,.slice p9 x3.length k5,.slice none 0 0,.slice p2 a_2.length k2,.int .i64 i1,.int .i64 i4] 128,Ch.box bb2 [.string ByteArray.empty,.int .i64 0,.slice none 0 0,.slice none 0 0,.slice none 0 0,.int .i64 0,.int .i64 0] 128,Ch.own S1 (a_2:List Int) [.slice p2 a_2.length k2],Ch.grp (old w0) (FS F) [fct (a_0:Tl01Source) [.slice p1 a_0.code.length k1,.int .i64 a_0.at_,.int .i64 a_0.seed],same w0 w F]]:=h
   refine qdC qa [.tmp 65] _ ([r2]:List qS) [1,2,3,4,5,6,7] h rfl rfl rfl rfl rfl rfl rfl rfl rfl (qbY (qJ 0 h rfl) qfn rfl) rfl rfl fun w20 p14 S13 h=>?_
   obtain ⟨x5,hx3,hF⟩:=qe hF
   obtain ⟨g3,hx3⟩:=qx hx3
   replace h:=h.pick [0,2,1,3,4,5,6,7] rfl
   refine qiN qa h rfl rfl rfl rfl rfl rfl rfl rfl rfl g3 hx3 rfl fun w21 p15 k9 S14 h=>X0 8 rfl ?_
   replace h:=h.pick [0,2,3,1,4,5,6] rfl
   exact rK ⟨_,_,_,_,_,_,_,_,hF,rfl,h⟩ rfl
  exact X0 7 rfl (rK ⟨_,_,_,_,_,_,_,_,hF,rfl,h⟩ rfl)
 refine qw rfl ?_
 obtain rfl:=qb hF;replace hF:=hK2
 refine X0 4 rfl (zs 2 h rfl fun w22 h=>X1 4 2 h rfl (zs 4 h rfl fun w23 h=>qbs ?_))
 have hk1:=h
 obtain ⟨S15,h⟩:=h.gather [2,3,4,6] (qjL (⟨a_1,1,x3,x4,a_2,i1,i4⟩:qk) h (qN (S:=fun _=>False) rfl) (qN (S:=fun _=>False) rfl) (qJ 1 h rfl) (qJ 0 h rfl) (qJ 5 h rfl) (qN (S:=fun _=>False) rfl) (qN (S:=fun _=>False) rfl) (by rfl) (by rfl) (by rfl) (by rfl) (by rfl) (by rfl)) rfl
 obtain rfl:=qb hF
 replace h:=h.pick [0,2,4] rfl
 replace h:SH _ _ [Ch.own S15 ((⟨a_1,1,x3,x4,a_2,i1,i4⟩:qk):qk) [.string a_1,.int .i64 1,.slice p9 x3.length k5,.slice p11 x4.length k6,.slice p2 a_2.length k2,.int .i64 i1,.int .i64 i4],Ch.box bb1 [.slice p1 a_0.code.length k1,.int .i64 i13,.int .i64 i14] 108,Ch.grp (old w0) (FS F) [fct (a_0:Tl01Source) [.slice p1 a_0.code.length k1,.int .i64 a_0.at_,.int .i64 a_0.seed],same w0 w F]]:=h
 exact qce qa [GoT.v qk [.string a_1,.int .i64 1,.slice p9 x3.length k5,.slice p11 x4.length k6,.slice p2 a_2.length k2,.int .i64 i1,.int .i64 i4]] ⟨⟨_,_,_,rfl,rfl,hk1.box 4 rfl,rfl⟩,trivial⟩ ⟨_,_,rfl,SH.unframe 1 (L0:=[Ch.box bb1 (qg a_0 p1 k1) 108,Ch.own S1 (a_2:List Int) [.slice p2 a_2.length k2]]) h0 [Ch.own S15 ((⟨a_1,1,x3,x4,a_2,i1,i4⟩:qk):qk) [.string a_1,.int .i64 1,.slice p9 x3.length k5,.slice p11 x4.length k6,.slice p2 a_2.length k2,.int .i64 i1,.int .i64 i4],Ch.box bb1 [.slice p1 a_0.code.length k1,.int .i64 i13,.int .i64 i14] 108] h rfl⟩
def qcJ (n:Nat) (s:Tl01Source) (name:ByteArray) (kind:Int) (edge:Int):Option (qk × Int × Int) :=
 (qu n (⟨s.code,s.at_,s.seed⟩:Tl01Source) 50).bind fun o=>match o with
  | (i1,i2,i3) =>
   (qu n (⟨s.code,i2,i3⟩:Tl01Source) 80).bind fun o=>match o with
    | (i4,i5,i6) =>
     (qu n (⟨s.code,i5,i6⟩:Tl01Source) 9).bind fun o=>match o with
      | (i7,i8,i9) =>
       (qu n (⟨s.code,i8,i9⟩:Tl01Source) 9).bind fun o=>match o with
        | (i10,i11,i12) =>
         (qbQ n (⟨s.code,i11,i12⟩:Tl01Source) edge 1 2 0).bind fun o=>match o with
          | (r1,i13,i14) =>
           (qbQ n (⟨s.code,i13,i14⟩:Tl01Source) 4 1 0 0).bind fun o=>match o with
            | (r2,i15,i16) =>
             (qbQ n (⟨s.code,i15,i16⟩:Tl01Source) 5 1 0 0).bind fun o=>match o with
              | (r3,i17,i18) =>
               bif (kind==3) then
                (qbQ n (⟨s.code,i17,i18⟩:Tl01Source) 1 0 2 1).bind fun o=>match o with
                 | (r4,i19,i20) =>
                  (appS ([r1,r2,r3]:List qS) ([r4]:List qS)).bind fun x1 =>
                  some ((⟨name,kind,([(⟨(⟨#[100]⟩:ByteArray),1,W64 (1+i7),false⟩:qQ),(⟨(⟨#[99,107]⟩:ByteArray),1,W64 (1+i10),true⟩:qQ),(⟨(⟨#[113]⟩:ByteArray),2,0,false⟩:qQ)]:List qQ),x1,[],i1,i4⟩:qk),i19,i20)
               else
                some ((⟨name,kind,([(⟨(⟨#[100]⟩:ByteArray),1,W64 (1+i7),false⟩:qQ),(⟨(⟨#[99,107]⟩:ByteArray),1,W64 (1+i10),true⟩:qQ),(⟨(⟨#[113]⟩:ByteArray),2,0,false⟩:qQ)]:List qQ),([r1,r2,r3]:List qS),[],i1,i4⟩:qk),i17,i18)
theorem qer {n:Nat} {w0 w:World} {F:List Ch} {s:Tl01Source} {bb1:Nat} {p1:Option Addr} {k1:Nat} {name:ByteArray} {kind:Int} {edge:Int} (h0:SH w0 w (Ch.box bb1 (qg s p1 k1) 108::F)) (ha1:GoT.R w (Fr w0 F) s [.slice p1 s.code.length k1,.int .i64 s.at_,.int .i64 s.seed]) {r:(qk × Int × Int)} (hF:qcJ n s name kind edge=some r):RetW Tryz.prog 142 [.pointer (some ⟨bb1,0,none⟩),.string name,.int .i64 kind,.int .i64 edge] w (fun us w'=>∃ (S1:Nat→Prop) (cs1:List Value),us=[GoT.v qk cs1]∧SH w0 w' (Ch.own S1 (r.1:qk) cs1::Ch.box bb1 [.slice p1 s.code.length k1,.int .i64 r.2.1,.int .i64 r.2.2] 108::F)):=by
 have h:=SH.frame [Ch.box bb1 (qg s p1 k1) 108] h0
 replace h:=h.grpAdd 1 rfl ha1
 replace h:SH _ _ [Ch.box bb1 (qg s p1 k1) 108,Ch.grp (old w0) (FS F) [fct (s:Tl01Source) [.slice p1 s.code.length k1,.int .i64 s.at_,.int .i64 s.seed],same w0 w F]]:=h
 refine qbn Tryz.func142 rfl (m:=47) rfl rfl (zSR (qy qa h rfl rfl rfl fun w1 bb2 h=>X0 6 rfl ?_))
 replace h:=h.pick [1,0,2] rfl
 obtain ⟨o1,hr1,hF⟩:=qe hF
 obtain ⟨i1,i2,i3⟩:=o1
 refine qB (cB 32 rfl) (qj (a_0:=(⟨s.code,s.at_,s.seed⟩:Tl01Source)) (a_1:=50) h ⟨[.slice p1 s.code.length k1],[.int .i64 s.at_,.int .i64 s.seed],rfl,⟨_,_,rfl,(qf (h.frG 2 0 1 rfl rfl rfl)).1⟩,⟨[.int .i64 s.at_],[.int .i64 s.seed],rfl,rfl,rfl⟩⟩ hr1) rfl rfl rfl rfl ?_
 rintro w2 us1 ⟨rfl,h⟩
 replace h:SH _ _ [Ch.box bb1 [.slice p1 s.code.length k1,.int .i64 i2,.int .i64 i3] 108,Ch.box bb2 [.string ByteArray.empty,.int .i64 0,.slice none 0 0,.slice none 0 0,.slice none 0 0,.int .i64 0,.int .i64 0] 128,Ch.grp (old w0) (FS F) [fct (s:Tl01Source) [.slice p1 s.code.length k1,.int .i64 s.at_,.int .i64 s.seed],same w0 w F]]:=h
 refine zp1 rfl ?_
 obtain ⟨o2,hr2,hF⟩:=qe hF
 obtain ⟨i4,i5,i6⟩:=o2
 refine qB (cB 32 rfl) (qj (a_0:=(⟨s.code,i2,i3⟩:Tl01Source)) (a_1:=80) h ⟨[.slice p1 s.code.length k1],[.int .i64 i2,.int .i64 i3],rfl,⟨_,_,rfl,(qf (h.frG 2 0 1 rfl rfl rfl)).1⟩,⟨[.int .i64 i2],[.int .i64 i3],rfl,rfl,rfl⟩⟩ hr2) rfl rfl rfl rfl ?_
 rintro w3 us2 ⟨rfl,h⟩
 replace h:SH _ _ [Ch.box bb1 [.slice p1 s.code.length k1,.int .i64 i5,.int .i64 i6] 108,Ch.box bb2 [.string ByteArray.empty,.int .i64 0,.slice none 0 0,.slice none 0 0,.slice none 0 0,.int .i64 0,.int .i64 0] 128,Ch.grp (old w0) (FS F) [fct (s:Tl01Source) [.slice p1 s.code.length k1,.int .i64 s.at_,.int .i64 s.seed],same w0 w F]]:=h
 refine r_v (qay qa [0,1,5,6] [.tmp 11,.tmp 12,.tmp 14,.tmp 16] rfl rfl rfl rfl rfl rfl rfl rfl) rfl (qy qa h rfl rfl rfl fun w4 bb3 h=>zs 0 h rfl fun w5 h=>X0 4 rfl ?_)
 replace h:=h.pick [1,0,2,3] rfl
 obtain ⟨o3,hr3,hF⟩:=qe hF
 obtain ⟨i7,i8,i9⟩:=o3
 refine qB (cB 32 rfl) (qj (a_0:=(⟨s.code,i5,i6⟩:Tl01Source)) (a_1:=9) h ⟨[.slice p1 s.code.length k1],[.int .i64 i5,.int .i64 i6],rfl,⟨_,_,rfl,(qf (h.frG 3 0 1 rfl rfl rfl)).1⟩,⟨[.int .i64 i5],[.int .i64 i6],rfl,rfl,rfl⟩⟩ hr3) rfl rfl rfl rfl ?_
 rintro w6 us3 ⟨rfl,h⟩
 replace h:SH _ _ [Ch.box bb1 [.slice p1 s.code.length k1,.int .i64 i8,.int .i64 i9] 108,Ch.box bb3 [.string name,.int .i64 kind,.slice none 0 0,.slice none 0 0,.slice none 0 0,.int .i64 i1,.int .i64 i4] 128,Ch.box bb2 [.string ByteArray.empty,.int .i64 0,.slice none 0 0,.slice none 0 0,.slice none 0 0,.int .i64 0,.int .i64 0] 128,Ch.grp (old w0) (FS F) [fct (s:Tl01Source) [.slice p1 s.code.length k1,.int .i64 s.at_,.int .i64 s.seed],same w0 w F]]:=h
 refine zp1 rfl (r_v (qay qa [0,1,2] [.const (.string (⟨#[100]⟩:ByteArray)),.const (.int .i64 (1)),.tmp 20] rfl rfl rfl rfl rfl rfl rfl rfl) rfl (zp1 rfl ?_))
 obtain ⟨o4,hr4,hF⟩:=qe hF
 obtain ⟨i10,i11,i12⟩:=o4
 refine qB (cB 32 rfl) (qj (a_0:=(⟨s.code,i8,i9⟩:Tl01Source)) (a_1:=9) h ⟨[.slice p1 s.code.length k1],[.int .i64 i8,.int .i64 i9],rfl,⟨_,_,rfl,(qf (h.frG 3 0 1 rfl rfl rfl)).1⟩,⟨[.int .i64 i8],[.int .i64 i9],rfl,rfl,rfl⟩⟩ hr4) rfl rfl rfl rfl ?_
 rintro w7 us4 ⟨rfl,h⟩
 replace h:SH _ _ [Ch.box bb1 [.slice p1 s.code.length k1,.int .i64 i11,.int .i64 i12] 108,Ch.box bb3 [.string name,.int .i64 kind,.slice none 0 0,.slice none 0 0,.slice none 0 0,.int .i64 i1,.int .i64 i4] 128,Ch.box bb2 [.string ByteArray.empty,.int .i64 0,.slice none 0 0,.slice none 0 0,.slice none 0 0,.int .i64 0,.int .i64 0] 128,Ch.grp (old w0) (FS F) [fct (s:Tl01Source) [.slice p1 s.code.length k1,.int .i64 s.at_,.int .i64 s.seed],same w0 w F]]:=h
 refine zp1 rfl (r_v (qay qa [0,1,2,3] [.const (.string (⟨#[99,107]⟩:ByteArray)),.const (.int .i64 (1)),.tmp 24,.const (.bool true)] rfl rfl rfl rfl rfl rfl rfl rfl) rfl (r_v (qay qa [0,1] [.const (.string (⟨#[113]⟩:ByteArray)),.const (.int .i64 (2))] rfl rfl rfl rfl rfl rfl rfl rfl) rfl (qp qa [.tmp 21,.tmp 25,.tmp 26] _ ([(⟨(⟨#[100]⟩:ByteArray),1,W64 (1+i7),false⟩:qQ),(⟨(⟨#[99,107]⟩:ByteArray),1,W64 (1+i10),true⟩:qQ),(⟨(⟨#[113]⟩:ByteArray),2,0,false⟩:qQ)]:List qQ) h rfl rfl rfl rfl rfl rfl rfl rfl rfl ⟨(qgQ (⟨(⟨#[100]⟩:ByteArray),1,W64 (1+i7),false⟩:qQ)),(qgQ (⟨(⟨#[99,107]⟩:ByteArray),1,W64 (1+i10),true⟩:qQ)),(qgQ (⟨(⟨#[113]⟩:ByteArray),2,0,false⟩:qQ)),trivial⟩ rfl fun w8 p2 S2 h=>zp1 rfl (zs 2 h rfl fun w9 h=>X0 5 rfl ?_))))
 replace h:=h.pick [1,0,2,3,4] rfl
 obtain ⟨o5,hr5,hF⟩:=qe hF
 obtain ⟨r1,i13,i14⟩:=o5
 refine qB (cB 156 rfl) (qcv (s:=(⟨s.code,i11,i12⟩:Tl01Source)) (kind:=edge) (a_from:=1) (a_to:=2) (sense:=0) h ⟨[.slice p1 s.code.length k1],[.int .i64 i11,.int .i64 i12],rfl,⟨_,_,rfl,(qf (h.frG 4 0 1 rfl rfl rfl)).1⟩,⟨[.int .i64 i11],[.int .i64 i12],rfl,rfl,rfl⟩⟩ hr5) rfl rfl rfl rfl ?_
 rintro w10 us5 ⟨S3,cs2,rfl,h⟩
 obtain ⟨p3,k2,p4,k3,rfl,-,-⟩:=qaj (h.own 0 rfl)
 replace h:SH _ _ [Ch.own S3 (r1:qS) (qeo r1 p3 p4 k2 k3),Ch.box bb1 [.slice p1 s.code.length k1,.int .i64 i13,.int .i64 i14] 108,Ch.own S2 (([(⟨(⟨#[100]⟩:ByteArray),1,W64 (1+i7),false⟩:qQ),(⟨(⟨#[99,107]⟩:ByteArray),1,W64 (1+i10),true⟩:qQ),(⟨(⟨#[113]⟩:ByteArray),2,0,false⟩:qQ)]:List qQ):List qQ) [.slice p2 3 3],Ch.box bb3 [.string name,.int .i64 kind,.slice p2 3 3,.slice none 0 0,.slice none 0 0,.int .i64 i1,.int .i64 i4] 128,Ch.box bb2 [.string ByteArray.empty,.int .i64 0,.slice none 0 0,.slice none 0 0,.slice none 0 0,.int .i64 0,.int .i64 0] 128,Ch.grp (old w0) (FS F) [fct (s:Tl01Source) [.slice p1 s.code.length k1,.int .i64 s.at_,.int .i64 s.seed],same w0 w F]]:=h
 refine zp1 rfl ?_
 replace h:=h.pick [1,0,2,3,4,5] rfl
 obtain ⟨o6,hr6,hF⟩:=qe hF
 obtain ⟨r2,i15,i16⟩:=o6
 refine qB (cB 156 rfl) (qcv (s:=(⟨s.code,i13,i14⟩:Tl01Source)) (kind:=4) (a_from:=1) (a_to:=0) (sense:=0) h ⟨[.slice p1 s.code.length k1],[.int .i64 i13,.int .i64 i14],rfl,⟨_,_,rfl,(qf (h.frG 5 0 1 rfl rfl rfl)).1⟩,⟨[.int .i64 i13],[.int .i64 i14],rfl,rfl,rfl⟩⟩ hr6) rfl rfl rfl rfl ?_
 rintro w11 us6 ⟨S4,cs3,rfl,h⟩
 obtain ⟨p5,k4,p6,k5,rfl,-,-⟩:=qaj (h.own 0 rfl)
 replace h:SH _ _ [Ch.own S4 (r2:qS) (qeo r2 p5 p6 k4 k5),Ch.box bb1 [.slice p1 s.code.length k1,.int .i64 i15,.int .i64 i16] 108,Ch.own S3 (r1:qS) (qeo r1 p3 p4 k2 k3),Ch.own S2 (([(⟨(⟨#[100]⟩:ByteArray),1,W64 (1+i7),false⟩:qQ),(⟨(⟨#[99,107]⟩:ByteArray),1,W64 (1+i10),true⟩:qQ),(⟨(⟨#[113]⟩:ByteArray),2,0,false⟩:qQ)]:List qQ):List qQ) [.slice p2 3 3],Ch.box bb3 [.string name,.int .i64 kind,.slice p2 3 3,.slice none 0 0,.slice none 0 0,.int .i64 i1,.int .i64 i4] 128,Ch.box bb2 [.string ByteArray.empty,.int .i64 0,.slice none 0 0,.slice none 0 0,.slice none 0 0,.int .i64 0,.int .i64 0] 128,Ch.grp (old w0) (FS F) [fct (s:Tl01Source) [.slice p1 s.code.length k1,.int .i64 s.at_,.int .i64 s.seed],same w0 w F]]:=h
 refine zp1 rfl ?_
 replace h:=h.pick [1,0,2,3,4,5,6] rfl
 obtain ⟨o7,hr7,hF⟩:=qe hF
 obtain ⟨r3,i17,i18⟩:=o7
 refine qB (cB 156 rfl) (qcv (s:=(⟨s.code,i15,i16⟩:Tl01Source)) (kind:=5) (a_from:=1) (a_to:=0) (sense:=0) h ⟨[.slice p1 s.code.length k1],[.int .i64 i15,.int .i64 i16],rfl,⟨_,_,rfl,(qf (h.frG 6 0 1 rfl rfl rfl)).1⟩,⟨[.int .i64 i15],[.int .i64 i16],rfl,rfl,rfl⟩⟩ hr7) rfl rfl rfl rfl ?_
 rintro w12 us7 ⟨S5,cs4,rfl,h⟩
 obtain ⟨p7,k6,p8,k7,rfl,-,-⟩:=qaj (h.own 0 rfl)
 replace h:SH _ _ [Ch.own S5 (r3:qS) (qeo r3 p7 p8 k6 k7),Ch.box bb1 [.slice p1 s.code.length k1,.int .i64 i17,.int .i64 i18] 108,Ch.own S4 (r2:qS) (qeo r2 p5 p6 k4 k5),Ch.own S3 (r1:qS) (qeo r1 p3 p4 k2 k3),Ch.own S2 (([(⟨(⟨#[100]⟩:ByteArray),1,W64 (1+i7),false⟩:qQ),(⟨(⟨#[99,107]⟩:ByteArray),1,W64 (1+i10),true⟩:qQ),(⟨(⟨#[113]⟩:ByteArray),2,0,false⟩:qQ)]:List qQ):List qQ) [.slice p2 3 3],Ch.box bb3 [.string name,.int .i64 kind,.slice p2 3 3,.slice none 0 0,.slice none 0 0,.int .i64 i1,.int .i64 i4] 128,Ch.box bb2 [.string ByteArray.empty,.int .i64 0,.slice none 0 0,.slice none 0 0,.slice none 0 0,.int .i64 0,.int .i64 0] 128,Ch.grp (old w0) (FS F) [fct (s:Tl01Source) [.slice p1 s.code.length k1,.int .i64 s.at_,.int .i64 s.seed],same w0 w F]]:=h
 refine qdC qa [.tmp 31,.tmp 33,.tmp 35] _ ([r1,r2,r3]:List qS) [1,4,5,6,7] h rfl rfl rfl rfl rfl rfl rfl rfl rfl (qbY (qJ 3 h rfl) (qbY (qJ 2 h rfl) (qbY (qJ 0 h rfl) qfn rfl) rfl) rfl) rfl rfl fun w13 p9 S6 h=>X0 8 rfl (qr rfl hF ?_ ?_)<;>intro hF
 ·refine X0 3 rfl ?_
  replace h:=h.pick [1,0,2,3,4,5] rfl
  obtain ⟨o8,hr8,hF⟩:=qe hF
  obtain ⟨r4,i19,i20⟩:=o8
  refine qB (cB 156 rfl) (qcv (s:=(⟨s.code,i17,i18⟩:Tl01Source)) (kind:=1) (a_from:=0) (a_to:=2) (sense:=1) h ⟨[.slice p1 s.code.length k1],[.int .i64 i17,.int .i64 i18],rfl,⟨_,_,rfl,(qf (h.frG 5 0 1 rfl rfl rfl)).1⟩,⟨[.int .i64 i17],[.int .i64 i18],rfl,rfl,rfl⟩⟩ hr8) rfl rfl rfl rfl ?_
  rintro w14 us8 ⟨S7,cs5,rfl,h⟩
  obtain ⟨p10,k8,p11,k9,rfl,-,-⟩:=qaj (h.own 0 rfl)
  replace h:SH _ _ [Ch.own S7 (r4:qS) (qeo r4 p10 p11 k8 k9),Ch.box bb1 [.slice p1 s.code.length k1,.int .i64 i19,.int .i64 i20] 108,Ch.own S6 (([r1,r2,r3]:List qS):List qS) [.slice p9 3 3],Ch.own S2 (([(⟨(⟨#[100]⟩:ByteArray),1,W64 (1+i7),false⟩:qQ),(⟨(⟨#[99,107]⟩:ByteArray),1,W64 (1+i10),true⟩:qQ),(⟨(⟨#[113]⟩:ByteArray),2,0,false⟩:qQ)]:List qQ):List qQ) [.slice p2 3 3],Ch.box bb3 [.string name,.int .i64 kind,.slice p2 3 3,.slice none 0 0,.slice none 0 0,.int .i64 i1,.int .i64 i4] 128,Ch.box bb2 [.string ByteArray.empty,.int .i64 0,.slice none 0 0,.slice none 0 0,.slice none 0 0,.int .i64 0,.int .i64 0] 128,Ch.grp (old w0) (FS F) [fct (s:Tl01Source) [.slice p1 s.code.length k1,.int .i64 s.at_,.int .i64 s.seed],same w0 w F]]:=h
  refine qdC qa [.tmp 41] _ ([r4]:List qS) [1,2,3,4,5,6] h rfl rfl rfl rfl rfl rfl rfl rfl rfl (qbY (qJ 0 h rfl) qfn rfl) rfl rfl fun w15 p12 S8 h=>?_
  obtain ⟨x1,hx1,hF⟩:=qe hF
  obtain ⟨g1,hx1⟩:=qx hx1
  replace h:=h.pick [0,2,1,3,4,5,6] rfl
  refine qiN qa h rfl rfl rfl rfl rfl rfl rfl rfl rfl g1 hx1 rfl fun w16 p13 k10 S9 h=>X0 6 rfl (zs 3 h rfl fun w17 h=>X1 4 3 h rfl (zs 4 h rfl fun w18 h=>qbs ?_))
  have hk1:=h
  obtain ⟨S10,h⟩:=h.gather [1,3,4,5] (qjL (⟨name,kind,([(⟨(⟨#[100]⟩:ByteArray),1,W64 (1+i7),false⟩:qQ),(⟨(⟨#[99,107]⟩:ByteArray),1,W64 (1+i10),true⟩:qQ),(⟨(⟨#[113]⟩:ByteArray),2,0,false⟩:qQ)]:List qQ),x1,[],i1,i4⟩:qk) h (qN (S:=fun _=>False) rfl) (qN (S:=fun _=>False) rfl) (qJ 2 h rfl) (qJ 0 h rfl) qfA (qN (S:=fun _=>False) rfl) (qN (S:=fun _=>False) rfl) (by rfl) (by rfl) (by rfl) (by rfl) (by rfl) (by rfl)) rfl
  obtain rfl:=qb hF
  replace h:=h.pick [0,1,4] rfl
  replace h:SH _ _ [Ch.own S10 ((⟨name,kind,([(⟨(⟨#[100]⟩:ByteArray),1,W64 (1+i7),false⟩:qQ),(⟨(⟨#[99,107]⟩:ByteArray),1,W64 (1+i10),true⟩:qQ),(⟨(⟨#[113]⟩:ByteArray),2,0,false⟩:qQ)]:List qQ),x1,[],i1,i4⟩:qk):qk) [.string name,.int .i64 kind,.slice p2 3 3,.slice p13 x1.length k10,.slice none 0 0,.int .i64 i1,.int .i64 i4],Ch.box bb1 [.slice p1 s.code.length k1,.int .i64 i19,.int .i64 i20] 108,Ch.grp (old w0) (FS F) [fct (s:Tl01Source) [.slice p1 s.code.length k1,.int .i64 s.at_,.int .i64 s.seed],same w0 w F]]:=h
  exact qce qa [GoT.v qk [.string name,.int .i64 kind,.slice p2 3 3,.slice p13 x1.length k10,.slice none 0 0,.int .i64 i1,.int .i64 i4]] ⟨⟨_,_,_,rfl,rfl,hk1.box 4 rfl,rfl⟩,trivial⟩ ⟨_,_,rfl,SH.unframe 1 (L0:=[Ch.box bb1 (qg s p1 k1) 108]) h0 [Ch.own S10 ((⟨name,kind,([(⟨(⟨#[100]⟩:ByteArray),1,W64 (1+i7),false⟩:qQ),(⟨(⟨#[99,107]⟩:ByteArray),1,W64 (1+i10),true⟩:qQ),(⟨(⟨#[113]⟩:ByteArray),2,0,false⟩:qQ)]:List qQ),x1,[],i1,i4⟩:qk):qk) [.string name,.int .i64 kind,.slice p2 3 3,.slice p13 x1.length k10,.slice none 0 0,.int .i64 i1,.int .i64 i4],Ch.box bb1 [.slice p1 s.code.length k1,.int .i64 i19,.int .i64 i20] 108] h rfl⟩
 refine X0 5 rfl (zs 3 h rfl fun w19 h=>X1 4 3 h rfl (zs 4 h rfl fun w20 h=>qbs ?_))
 have hk2:=h
 obtain ⟨S11,h⟩:=h.gather [1,3,4,5] (qjL (⟨name,kind,([(⟨(⟨#[100]⟩:ByteArray),1,W64 (1+i7),false⟩:qQ),(⟨(⟨#[99,107]⟩:ByteArray),1,W64 (1+i10),true⟩:qQ),(⟨(⟨#[113]⟩:ByteArray),2,0,false⟩:qQ)]:List qQ),([r1,r2,r3]:List qS),[],i1,i4⟩:qk) h (qN (S:=fun _=>False) rfl) (qN (S:=fun _=>False) rfl) (qJ 2 h rfl) (qJ 0 h rfl) qfA (qN (S:=fun _=>False) rfl) (qN (S:=fun _=>False) rfl) (by rfl) (by rfl) (by rfl) (by rfl) (by rfl) (by rfl)) rfl
 obtain rfl:=qb hF
 replace h:=h.pick [0,1,4] rfl
 replace h:SH _ _ [Ch.own S11 ((⟨name,kind,([(⟨(⟨#[100]⟩:ByteArray),1,W64 (1+i7),false⟩:qQ),(⟨(⟨#[99,107]⟩:ByteArray),1,W64 (1+i10),true⟩:qQ),(⟨(⟨#[113]⟩:ByteArray),2,0,false⟩:qQ)]:List qQ),([r1,r2,r3]:List qS),[],i1,i4⟩:qk):qk) [.string name,.int .i64 kind,.slice p2 3 3,.slice p9 3 3,.slice none 0 0,.int .i64 i1,.int .i64 i4],Ch.box bb1 [.slice p1 s.code.length k1,.int .i64 i17,.int .i64 i18] 108,Ch.grp (old w0) (FS F) [fct (s:Tl01Source) [.slice p1 s.code.length k1,.int .i64 s.at_,.int .i64 s.seed],same w0 w F]]:=h
 exact qce qa [GoT.v qk [.string name,.int .i64 kind,.slice p2 3 3,.slice p9 3 3,.slice none 0 0,.int .i64 i1,.int .i64 i4]] ⟨⟨_,_,_,rfl,rfl,hk2.box 4 rfl,rfl⟩,trivial⟩ ⟨_,_,rfl,SH.unframe 1 (L0:=[Ch.box bb1 (qg s p1 k1) 108]) h0 [Ch.own S11 ((⟨name,kind,([(⟨(⟨#[100]⟩:ByteArray),1,W64 (1+i7),false⟩:qQ),(⟨(⟨#[99,107]⟩:ByteArray),1,W64 (1+i10),true⟩:qQ),(⟨(⟨#[113]⟩:ByteArray),2,0,false⟩:qQ)]:List qQ),([r1,r2,r3]:List qS),[],i1,i4⟩:qk):qk) [.string name,.int .i64 kind,.slice p2 3 3,.slice p9 3 3,.slice none 0 0,.int .i64 i1,.int .i64 i4],Ch.box bb1 [.slice p1 s.code.length k1,.int .i64 i17,.int .i64 i18] 108] h rfl⟩
def qgd (n:Nat) (s:Tl01Source):Option (qi × Int × Int) :=
 (qdn n (⟨s.code,s.at_,s.seed⟩:Tl01Source) (⟨#[105,110,118]⟩:ByteArray) ([1,0]:List Int)).bind fun o=>match o with
  | (r1,i1,i2) =>
   (qdn n (⟨s.code,i1,i2⟩:Tl01Source) (⟨#[98,117,102]⟩:ByteArray) ([0,1]:List Int)).bind fun o=>match o with
    | (r2,i3,i4) =>
     (qdn n (⟨s.code,i3,i4⟩:Tl01Source) (⟨#[110,97,110,100]⟩:ByteArray) ([1,1,1,0]:List Int)).bind fun o=>match o with
      | (r3,i5,i6) =>
       (qdn n (⟨s.code,i5,i6⟩:Tl01Source) (⟨#[120,111,114]⟩:ByteArray) ([0,1,1,0]:List Int)).bind fun o=>match o with
        | (r4,i7,i8) =>
         (qdn n (⟨s.code,i7,i8⟩:Tl01Source) (⟨#[109,117,120]⟩:ByteArray) ([0,1,0,1,0,0,1,1]:List Int)).bind fun o=>match o with
          | (r5,i9,i10) =>
           (qcJ n (⟨s.code,i9,i10⟩:Tl01Source) (⟨#[102,108,111,112]⟩:ByteArray) 2 2).bind fun o=>match o with
            | (r6,i11,i12) =>
             (qcJ n (⟨s.code,i11,i12⟩:Tl01Source) (⟨#[102,108,111,112,110]⟩:ByteArray) 2 3).bind fun o=>match o with
              | (r7,i13,i14) =>
               (qcJ n (⟨s.code,i13,i14⟩:Tl01Source) (⟨#[108,97,116,99,104]⟩:ByteArray) 3 2).bind fun o=>match o with
                | (r8,i15,i16) =>
                 some ((⟨([r1,r2,r3,r4,r5,r6,r7,r8]:List qk)⟩:qi),i15,i16)
theorem qiS {n:Nat} {w0 w:World} {F:List Ch} {s:Tl01Source} {bb1:Nat} {p1:Option Addr} {k1:Nat} (h0:SH w0 w (Ch.box bb1 (qg s p1 k1) 108::F)) (ha1:GoT.R w (Fr w0 F) s [.slice p1 s.code.length k1,.int .i64 s.at_,.int .i64 s.seed]) {r:(qi × Int × Int)} (hF:qgd n s=some r):RetW Tryz.prog 115 [.pointer (some ⟨bb1,0,none⟩)] w (fun us w'=>∃ (S1:Nat→Prop) (cs1:List Value),us=[GoT.v qi cs1]∧SH w0 w' (Ch.own S1 (r.1:qi) cs1::Ch.box bb1 [.slice p1 s.code.length k1,.int .i64 r.2.1,.int .i64 r.2.2] 108::F)):=by
 have h:=SH.frame [Ch.box bb1 (qg s p1 k1) 108] h0
 replace h:=h.grpAdd 1 rfl ha1
 replace h:SH _ _ [Ch.box bb1 (qg s p1 k1) 108,Ch.grp (old w0) (FS F) [fct (s:Tl01Source) [.slice p1 s.code.length k1,.int .i64 s.at_,.int .i64 s.seed],same w0 w F]]:=h
 refine qbn Tryz.func115 rfl (m:=45) rfl rfl (zSR (qy qa h rfl rfl rfl fun w1 bb2 h=>zNSR (r_v (qay qa [] [] rfl rfl rfl rfl rfl rfl rfl rfl) rfl (qy qa h rfl rfl rfl fun w2 bb3 h=>zs 0 h rfl fun w3 h=>X0 4 rfl (qp qa [.const (.int .i64 (1)),.const (.int .i64 (0))] _ ([1,0]:List Int) h rfl rfl rfl rfl rfl rfl rfl rfl rfl ⟨rfl,rfl,trivial⟩ rfl fun w4 p2 S2 h=>?_)))))
 replace h:=h.pick [3,0,1,2,4] rfl
 obtain ⟨o1,hr1,hF⟩:=qe hF
 obtain ⟨r1,i1,i2⟩:=o1
 refine qB (cB 141 rfl) (qdI (a_0:=(⟨s.code,s.at_,s.seed⟩:Tl01Source)) (a_1:=(⟨#[105,110,118]⟩:ByteArray)) (a_2:=([1,0]:List Int)) h ⟨[.slice p1 s.code.length k1],[.int .i64 s.at_,.int .i64 s.seed],rfl,⟨_,_,rfl,(qf (h.frG 4 0 2 rfl rfl rfl)).1⟩,⟨[.int .i64 s.at_],[.int .i64 s.seed],rfl,rfl,rfl⟩⟩ hr1) rfl rfl rfl rfl ?_
 rintro w5 us1 ⟨S3,cs2,rfl,h⟩
 obtain ⟨p3,k2,p4,k3,p5,k4,rfl,-,-,-⟩:=qE (h.own 0 rfl)
 replace h:SH _ _ [Ch.own S3 (r1:qk) (qt r1 p3 p4 p5 k2 k3 k4),Ch.box bb1 [.slice p1 s.code.length k1,.int .i64 i1,.int .i64 i2] 108,Ch.box bb3 [.slice none 0 0] 26,Ch.box bb2 [.slice none 0 0] 26,Ch.grp (old w0) (FS F) [fct (s:Tl01Source) [.slice p1 s.code.length k1,.int .i64 s.at_,.int .i64 s.seed],same w0 w F]]:=h
 refine qy qa h rfl rfl rfl fun w6 bb4 h=>zs 0 h rfl fun w7 h=>X0 4 rfl (qp qa [.const (.int .i64 (0)),.const (.int .i64 (1))] _ ([0,1]:List Int) h rfl rfl rfl rfl rfl rfl rfl rfl rfl ⟨rfl,rfl,trivial⟩ rfl fun w8 p6 S4 h=>?_)
 replace h:=h.pick [3,0,1,2,4,5,6] rfl
 obtain ⟨o2,hr2,hF⟩:=qe hF
 obtain ⟨r2,i3,i4⟩:=o2
 refine qB (cB 141 rfl) (qdI (a_0:=(⟨s.code,i1,i2⟩:Tl01Source)) (a_1:=(⟨#[98,117,102]⟩:ByteArray)) (a_2:=([0,1]:List Int)) h ⟨[.slice p1 s.code.length k1],[.int .i64 i1,.int .i64 i2],rfl,⟨_,_,rfl,(qf (h.frG 6 0 2 rfl rfl rfl)).1⟩,⟨[.int .i64 i1],[.int .i64 i2],rfl,rfl,rfl⟩⟩ hr2) rfl rfl rfl rfl ?_
 rintro w9 us2 ⟨S5,cs3,rfl,h⟩
 obtain ⟨p7,k5,p8,k6,p9,k7,rfl,-,-,-⟩:=qE (h.own 0 rfl)
 replace h:SH _ _ [Ch.own S5 (r2:qk) (qt r2 p7 p8 p9 k5 k6 k7),Ch.box bb1 [.slice p1 s.code.length k1,.int .i64 i3,.int .i64 i4] 108,Ch.box bb4 (qt r1 p3 p4 p5 k2 k3 k4) 128,Ch.own S3 (r1:qk) (qt r1 p3 p4 p5 k2 k3 k4),Ch.box bb3 [.slice none 0 0] 26,Ch.box bb2 [.slice none 0 0] 26,Ch.grp (old w0) (FS F) [fct (s:Tl01Source) [.slice p1 s.code.length k1,.int .i64 s.at_,.int .i64 s.seed],same w0 w F]]:=h
 refine qy qa h rfl rfl rfl fun w10 bb5 h=>zs 0 h rfl fun w11 h=>X0 4 rfl (qp qa [.const (.int .i64 (1)),.const (.int .i64 (1)),.const (.int .i64 (1)),.const (.int .i64 (0))] _ ([1,1,1,0]:List Int) h rfl rfl rfl rfl rfl rfl rfl rfl rfl ⟨rfl,rfl,rfl,rfl,trivial⟩ rfl fun w12 p10 S6 h=>?_)
 replace h:=h.pick [3,0,1,2,4,5,6,7,8] rfl
 obtain ⟨o3,hr3,hF⟩:=qe hF
 obtain ⟨r3,i5,i6⟩:=o3
 refine qB (cB 141 rfl) (qdI (a_0:=(⟨s.code,i3,i4⟩:Tl01Source)) (a_1:=(⟨#[110,97,110,100]⟩:ByteArray)) (a_2:=([1,1,1,0]:List Int)) h ⟨[.slice p1 s.code.length k1],[.int .i64 i3,.int .i64 i4],rfl,⟨_,_,rfl,(qf (h.frG 8 0 2 rfl rfl rfl)).1⟩,⟨[.int .i64 i3],[.int .i64 i4],rfl,rfl,rfl⟩⟩ hr3) rfl rfl rfl rfl ?_
 rintro w13 us3 ⟨S7,cs4,rfl,h⟩
 obtain ⟨p11,k8,p12,k9,p13,k10,rfl,-,-,-⟩:=qE (h.own 0 rfl)
 replace h:SH _ _ [Ch.own S7 (r3:qk) (qt r3 p11 p12 p13 k8 k9 k10),Ch.box bb1 [.slice p1 s.code.length k1,.int .i64 i5,.int .i64 i6] 108,Ch.box bb5 (qt r2 p7 p8 p9 k5 k6 k7) 128,Ch.own S5 (r2:qk) (qt r2 p7 p8 p9 k5 k6 k7),Ch.box bb4 (qt r1 p3 p4 p5 k2 k3 k4) 128,Ch.own S3 (r1:qk) (qt r1 p3 p4 p5 k2 k3 k4),Ch.box bb3 [.slice none 0 0] 26,Ch.box bb2 [.slice none 0 0] 26,Ch.grp (old w0) (FS F) [fct (s:Tl01Source) [.slice p1 s.code.length k1,.int .i64 s.at_,.int .i64 s.seed],same w0 w F]]:=h
 refine qy qa h rfl rfl rfl fun w14 bb6 h=>zs 0 h rfl fun w15 h=>X0 4 rfl (qp qa [.const (.int .i64 (0)),.const (.int .i64 (1)),.const (.int .i64 (1)),.const (.int .i64 (0))] _ ([0,1,1,0]:List Int) h rfl rfl rfl rfl rfl rfl rfl rfl rfl ⟨rfl,rfl,rfl,rfl,trivial⟩ rfl fun w16 p14 S8 h=>?_)
 replace h:=h.pick [3,0,1,2,4,5,6,7,8,9,10] rfl
 obtain ⟨o4,hr4,hF⟩:=qe hF
 obtain ⟨r4,i7,i8⟩:=o4
 refine qB (cB 141 rfl) (qdI (a_0:=(⟨s.code,i5,i6⟩:Tl01Source)) (a_1:=(⟨#[120,111,114]⟩:ByteArray)) (a_2:=([0,1,1,0]:List Int)) h ⟨[.slice p1 s.code.length k1],[.int .i64 i5,.int .i64 i6],rfl,⟨_,_,rfl,(qf (h.frG 10 0 2 rfl rfl rfl)).1⟩,⟨[.int .i64 i5],[.int .i64 i6],rfl,rfl,rfl⟩⟩ hr4) rfl rfl rfl rfl ?_
 rintro w17 us4 ⟨S9,cs5,rfl,h⟩
 obtain ⟨p15,k11,p16,k12,p17,k13,rfl,-,-,-⟩:=qE (h.own 0 rfl)
 replace h:SH _ _ [Ch.own S9 (r4:qk) (qt r4 p15 p16 p17 k11 k12 k13),Ch.box bb1 [.slice p1 s.code.length k1,.int .i64 i7,.int .i64 i8] 108,Ch.box bb6 (qt r3 p11 p12 p13 k8 k9 k10) 128,Ch.own S7 (r3:qk) (qt r3 p11 p12 p13 k8 k9 k10),Ch.box bb5 (qt r2 p7 p8 p9 k5 k6 k7) 128,Ch.own S5 (r2:qk) (qt r2 p7 p8 p9 k5 k6 k7),Ch.box bb4 (qt r1 p3 p4 p5 k2 k3 k4) 128,Ch.own S3 (r1:qk) (qt r1 p3 p4 p5 k2 k3 k4),Ch.box bb3 [.slice none 0 0] 26,Ch.box bb2 [.slice none 0 0] 26,Ch.grp (old w0) (FS F) [fct (s:Tl01Source) [.slice p1 s.code.length k1,.int .i64 s.at_,.int .i64 s.seed],same w0 w F]]:=h
 refine qy qa h rfl rfl rfl fun w18 bb7 h=>zs 0 h rfl fun w19 h=>X0 4 rfl (qp qa [.const (.int .i64 (0)),.const (.int .i64 (1)),.const (.int .i64 (0)),.const (.int .i64 (1)),.const (.int .i64 (0)),.const (.int .i64 (0)),.const (.int .i64 (1)),.const (.int .i64 (1))] _ ([0,1,0,1,0,0,1,1]:List Int) h rfl rfl rfl rfl rfl rfl rfl rfl rfl ⟨rfl,rfl,rfl,rfl,rfl,rfl,rfl,rfl,trivial⟩ rfl fun w20 p18 S10 h=>?_)
 replace h:=h.pick [3,0,1,2,4,5,6,7,8,9,10,11,12] rfl
 obtain ⟨o5,hr5,hF⟩:=qe hF
 obtain ⟨r5,i9,i10⟩:=o5
 refine qB (cB 141 rfl) (qdI (a_0:=(⟨s.code,i7,i8⟩:Tl01Source)) (a_1:=(⟨#[109,117,120]⟩:ByteArray)) (a_2:=([0,1,0,1,0,0,1,1]:List Int)) h ⟨[.slice p1 s.code.length k1],[.int .i64 i7,.int .i64 i8],rfl,⟨_,_,rfl,(qf (h.frG 12 0 2 rfl rfl rfl)).1⟩,⟨[.int .i64 i7],[.int .i64 i8],rfl,rfl,rfl⟩⟩ hr5) rfl rfl rfl rfl ?_
 rintro w21 us5 ⟨S11,cs6,rfl,h⟩
 obtain ⟨p19,k14,p20,k15,p21,k16,rfl,-,-,-⟩:=qE (h.own 0 rfl)
 replace h:SH _ _ [Ch.own S11 (r5:qk) (qt r5 p19 p20 p21 k14 k15 k16),Ch.box bb1 [.slice p1 s.code.length k1,.int .i64 i9,.int .i64 i10] 108,Ch.box bb7 (qt r4 p15 p16 p17 k11 k12 k13) 128,Ch.own S9 (r4:qk) (qt r4 p15 p16 p17 k11 k12 k13),Ch.box bb6 (qt r3 p11 p12 p13 k8 k9 k10) 128,Ch.own S7 (r3:qk) (qt r3 p11 p12 p13 k8 k9 k10),Ch.box bb5 (qt r2 p7 p8 p9 k5 k6 k7) 128,Ch.own S5 (r2:qk) (qt r2 p7 p8 p9 k5 k6 k7),Ch.box bb4 (qt r1 p3 p4 p5 k2 k3 k4) 128,Ch.own S3 (r1:qk) (qt r1 p3 p4 p5 k2 k3 k4),Ch.box bb3 [.slice none 0 0] 26,Ch.box bb2 [.slice none 0 0] 26,Ch.grp (old w0) (FS F) [fct (s:Tl01Source) [.slice p1 s.code.length k1,.int .i64 s.at_,.int .i64 s.seed],same w0 w F]]:=h
 refine qy qa h rfl rfl rfl fun w22 bb8 h=>zs 0 h rfl fun w23 h=>X0 4 rfl ?_
 replace h:=h.pick [2,0,1,3,4,5,6,7,8,9,10,11,12,13] rfl
 obtain ⟨o6,hr6,hF⟩:=qe hF
 obtain ⟨r6,i11,i12⟩:=o6
 refine qB (cB 142 rfl) (qer (s:=(⟨s.code,i9,i10⟩:Tl01Source)) (name:=(⟨#[102,108,111,112]⟩:ByteArray)) (kind:=2) (edge:=2) h ⟨[.slice p1 s.code.length k1],[.int .i64 i9,.int .i64 i10],rfl,⟨_,_,rfl,(qf (h.frG 13 0 1 rfl rfl rfl)).1⟩,⟨[.int .i64 i9],[.int .i64 i10],rfl,rfl,rfl⟩⟩ hr6) rfl rfl rfl rfl ?_
 rintro w24 us6 ⟨S12,cs7,rfl,h⟩
 obtain ⟨p22,k17,p23,k18,p24,k19,rfl,-,-,-⟩:=qE (h.own 0 rfl)
 replace h:SH _ _ [Ch.own S12 (r6:qk) (qt r6 p22 p23 p24 k17 k18 k19),Ch.box bb1 [.slice p1 s.code.length k1,.int .i64 i11,.int .i64 i12] 108,Ch.box bb8 (qt r5 p19 p20 p21 k14 k15 k16) 128,Ch.own S11 (r5:qk) (qt r5 p19 p20 p21 k14 k15 k16),Ch.box bb7 (qt r4 p15 p16 p17 k11 k12 k13) 128,Ch.own S9 (r4:qk) (qt r4 p15 p16 p17 k11 k12 k13),Ch.box bb6 (qt r3 p11 p12 p13 k8 k9 k10) 128,Ch.own S7 (r3:qk) (qt r3 p11 p12 p13 k8 k9 k10),Ch.box bb5 (qt r2 p7 p8 p9 k5 k6 k7) 128,Ch.own S5 (r2:qk) (qt r2 p7 p8 p9 k5 k6 k7),Ch.box bb4 (qt r1 p3 p4 p5 k2 k3 k4) 128,Ch.own S3 (r1:qk) (qt r1 p3 p4 p5 k2 k3 k4),Ch.box bb3 [.slice none 0 0] 26,Ch.box bb2 [.slice none 0 0] 26,Ch.grp (old w0) (FS F) [fct (s:Tl01Source) [.slice p1 s.code.length k1,.int .i64 s.at_,.int .i64 s.seed],same w0 w F]]:=h
 refine qy qa h rfl rfl rfl fun w25 bb9 h=>zs 0 h rfl fun w26 h=>X0 4 rfl ?_
 replace h:=h.pick [2,0,1,3,4,5,6,7,8,9,10,11,12,13,14,15] rfl
 obtain ⟨o7,hr7,hF⟩:=qe hF
 obtain ⟨r7,i13,i14⟩:=o7
 refine qB (cB 142 rfl) (qer (s:=(⟨s.code,i11,i12⟩:Tl01Source)) (name:=(⟨#[102,108,111,112,110]⟩:ByteArray)) (kind:=2) (edge:=3) h ⟨[.slice p1 s.code.length k1],[.int .i64 i11,.int .i64 i12],rfl,⟨_,_,rfl,(qf (h.frG 15 0 1 rfl rfl rfl)).1⟩,⟨[.int .i64 i11],[.int .i64 i12],rfl,rfl,rfl⟩⟩ hr7) rfl rfl rfl rfl ?_
 rintro w27 us7 ⟨S13,cs8,rfl,h⟩
 obtain ⟨p25,k20,p26,k21,p27,k22,rfl,-,-,-⟩:=qE (h.own 0 rfl)
 replace h:SH _ _ [Ch.own S13 (r7:qk) (qt r7 p25 p26 p27 k20 k21 k22),Ch.box bb1 [.slice p1 s.code.length k1,.int .i64 i13,.int .i64 i14] 108,Ch.box bb9 (qt r6 p22 p23 p24 k17 k18 k19) 128,Ch.own S12 (r6:qk) (qt r6 p22 p23 p24 k17 k18 k19),Ch.box bb8 (qt r5 p19 p20 p21 k14 k15 k16) 128,Ch.own S11 (r5:qk) (qt r5 p19 p20 p21 k14 k15 k16),Ch.box bb7 (qt r4 p15 p16 p17 k11 k12 k13) 128,Ch.own S9 (r4:qk) (qt r4 p15 p16 p17 k11 k12 k13),Ch.box bb6 (qt r3 p11 p12 p13 k8 k9 k10) 128,Ch.own S7 (r3:qk) (qt r3 p11 p12 p13 k8 k9 k10),Ch.box bb5 (qt r2 p7 p8 p9 k5 k6 k7) 128,Ch.own S5 (r2:qk) (qt r2 p7 p8 p9 k5 k6 k7),Ch.box bb4 (qt r1 p3 p4 p5 k2 k3 k4) 128,Ch.own S3 (r1:qk) (qt r1 p3 p4 p5 k2 k3 k4),Ch.box bb3 [.slice none 0 0] 26,Ch.box bb2 [.slice none 0 0] 26,Ch.grp (old w0) (FS F) [fct (s:Tl01Source) [.slice p1 s.code.length k1,.int .i64 s.at_,.int .i64 s.seed],same w0 w F]]:=h
 refine qy qa h rfl rfl rfl fun w28 bb10 h=>zs 0 h rfl fun w29 h=>X0 4 rfl ?_
 replace h:=h.pick [2,0,1,3,4,5,6,7,8,9,10,11,12,13,14,15,16,17] rfl
 obtain ⟨o8,hr8,hF⟩:=qe hF
 obtain ⟨r8,i15,i16⟩:=o8
 refine qB (cB 142 rfl) (qer (s:=(⟨s.code,i13,i14⟩:Tl01Source)) (name:=(⟨#[108,97,116,99,104]⟩:ByteArray)) (kind:=3) (edge:=2) h ⟨[.slice p1 s.code.length k1],[.int .i64 i13,.int .i64 i14],rfl,⟨_,_,rfl,(qf (h.frG 17 0 1 rfl rfl rfl)).1⟩,⟨[.int .i64 i13],[.int .i64 i14],rfl,rfl,rfl⟩⟩ hr8) rfl rfl rfl rfl ?_
 rintro w30 us8 ⟨S14,cs9,rfl,h⟩
 obtain ⟨p28,k23,p29,k24,p30,k25,rfl,-,-,-⟩:=qE (h.own 0 rfl)
 replace h:SH _ _ [Ch.own S14 (r8:qk) (qt r8 p28 p29 p30 k23 k24 k25),Ch.box bb1 [.slice p1 s.code.length k1,.int .i64 i15,.int .i64 i16] 108,Ch.box bb10 (qt r7 p25 p26 p27 k20 k21 k22) 128,Ch.own S13 (r7:qk) (qt r7 p25 p26 p27 k20 k21 k22),Ch.box bb9 (qt r6 p22 p23 p24 k17 k18 k19) 128,Ch.own S12 (r6:qk) (qt r6 p22 p23 p24 k17 k18 k19),Ch.box bb8 (qt r5 p19 p20 p21 k14 k15 k16) 128,Ch.own S11 (r5:qk) (qt r5 p19 p20 p21 k14 k15 k16),Ch.box bb7 (qt r4 p15 p16 p17 k11 k12 k13) 128,Ch.own S9 (r4:qk) (qt r4 p15 p16 p17 k11 k12 k13),Ch.box bb6 (qt r3 p11 p12 p13 k8 k9 k10) 128,Ch.own S7 (r3:qk) (qt r3 p11 p12 p13 k8 k9 k10),Ch.box bb5 (qt r2 p7 p8 p9 k5 k6 k7) 128,Ch.own S5 (r2:qk) (qt r2 p7 p8 p9 k5 k6 k7),Ch.box bb4 (qt r1 p3 p4 p5 k2 k3 k4) 128,Ch.own S3 (r1:qk) (qt r1 p3 p4 p5 k2 k3 k4),Ch.box bb3 [.slice none 0 0] 26,Ch.box bb2 [.slice none 0 0] 26,Ch.grp (old w0) (FS F) [fct (s:Tl01Source) [.slice p1 s.code.length k1,.int .i64 s.at_,.int .i64 s.seed],same w0 w F]]:=h
 refine qy qa h rfl rfl rfl fun w31 bb11 h=>zs 0 h rfl fun w32 h=>X5 8 15 13 11 9 7 h rfl (X3 3 5 3 0 h rfl (qdC qa [.tmp 34,.tmp 35,.tmp 36,.tmp 37,.tmp 38,.tmp 39,.tmp 40,.tmp 41] _ ([r1,r2,r3,r4,r5,r6,r7,r8]:List qk) [0,2,3,5,7,9,11,13,15,17,18,19] h rfl rfl rfl rfl rfl rfl rfl rfl rfl (qbY (qJ 16 h rfl) (qbY (qJ 14 h rfl) (qbY (qJ 12 h rfl) (qbY (qJ 10 h rfl) (qbY (qJ 8 h rfl) (qbY (qJ 6 h rfl) (qbY (qJ 4 h rfl) (qbY (qJ 1 h rfl) qfn rfl) rfl) rfl) rfl) rfl) rfl) rfl) rfl) rfl rfl fun w33 p31 S15 h=>zp1 rfl (zs 10 h rfl fun w34 h=>X1 4 10 h rfl (zs 11 h rfl fun w35 h=>qbs ?_))))
 have hk1:=h
 obtain ⟨S16,h⟩:=h.gather [1,2,3,4,5,6,7,8,9,10,11,12] (qlP (⟨([r1,r2,r3,r4,r5,r6,r7,r8]:List qk)⟩:qi) h (qJ 0 h rfl) ) rfl
 obtain rfl:=qb hF
 replace h:=h.pick [0,2,12] rfl
 replace h:SH _ _ [Ch.own S16 ((⟨([r1,r2,r3,r4,r5,r6,r7,r8]:List qk)⟩:qi):qi) [.slice p31 8 8],Ch.box bb1 [.slice p1 s.code.length k1,.int .i64 i15,.int .i64 i16] 108,Ch.grp (old w0) (FS F) [fct (s:Tl01Source) [.slice p1 s.code.length k1,.int .i64 s.at_,.int .i64 s.seed],same w0 w F]]:=h
 exact qce qa [GoT.v qi [.slice p31 8 8]] ⟨⟨_,_,_,rfl,rfl,hk1.box 11 rfl,rfl⟩,trivial⟩ ⟨_,_,rfl,SH.unframe 1 (L0:=[Ch.box bb1 (qg s p1 k1) 108]) h0 [Ch.own S16 ((⟨([r1,r2,r3,r4,r5,r6,r7,r8]:List qk)⟩:qi):qi) [.slice p31 8 8],Ch.box bb1 [.slice p1 s.code.length k1,.int .i64 i15,.int .i64 i16] 108] h rfl⟩
def qaS:Nat→Int→Option ByteArray
 | 0,_=>none
 | n+1,a_n =>
  bif decide (a_n<0) then
   ((qaS n) (W64 (0-a_n))).bind fun r1 =>
   (catB (⟨#[45]⟩:ByteArray) r1).bind fun z1 =>
   some z1
  else
   bif decide (a_n<10) then some (strOf ([(⟨IntKind.wrap .u8 (W64 (48+a_n))⟩:IntK .u8)]:List (IntK .u8))) else
   ((qaS n) (W64 (a_n.tdiv 10))).bind fun r2 =>
   (catB r2 (strOf ([(⟨IntKind.wrap .u8 (W64 (48+(a_n.tmod 10)))⟩:IntK .u8)]:List (IntK .u8)))).bind fun z2 =>
   some z2
theorem qgC {n:Nat}:∀ {w:World} {a_n:Int}  {r:ByteArray} (_:qaS n a_n=some r),RetV Tryz.prog 143 [.int .i64 a_n] w r:=by
 induction n with
 | zero=>intro w a_n r hF;rw [qaS] at hF;cases hF
 | succ n ih =>
  intro w a_n r hF
  obtain ⟨rc,hrc⟩:∃ rc,rc=qaS n:=⟨_,rfl⟩
  rw [←hrc] at ih
  refine zV 26 Tryz.func143 rfl fun h=>?_
  unfold qaS at hF
  rw [←hrc] at hF
  refine X0 10 rfl (qr rfl hF ?_ ?_)<;>intro hF
  ·refine X0 4 rfl (zcS h hF ih rfl fun r1 w1 h hF=>?_)
   obtain ⟨z1,hx1,hF⟩:=qe hF
   obtain ⟨g1,hx1⟩:=qgh hx1
   refine r_v (qku g1 rfl rfl) rfl ?_
   rw [hx1]
   refine X0 2 rfl ?_
   obtain rfl:=qb hF
   exact qa9 qa (ρ:=ByteArray) [_] h ⟨rfl,trivial⟩ (qk9 _ _)
  ·refine X0 7 rfl (qr rfl hF ?_ ?_)<;>intro hF
   ·refine X0 5 rfl (qp qa [.tmp 13] _ ([(⟨IntKind.wrap .u8 (W64 (48+a_n))⟩:IntK .u8)]:List (IntK .u8)) h rfl rfl rfl rfl rfl rfl rfl rfl rfl ⟨rfl,trivial⟩ rfl fun w2 p1 S1 h=>r_v (qjA qa (h.sl 0 rfl).1 (h.sl 0 rfl).2 rfl ⟨rfl,rfl⟩ ⟨rfl,rfl⟩ rfl rfl) rfl (X0 2 rfl ?_))
    obtain rfl:=qb hF
    exact qa9 qa (ρ:=ByteArray) [_] h ⟨rfl,trivial⟩ (qk9 _ _)
   ·refine zKS ?_
    obtain ⟨r2,hr2,hF⟩:=qe hF
    obtain ⟨z2,hx2,hF⟩:=qe hF
    refine qb5 (fun e w'=>e=[(2,.string z2)]∧SH w w' []) ?_ ?_
    ·refine rA [] [] h rfl fun w5 h=>M0 123 [0,1,3,4,5,6] (h.pick [] rfl) rfl (At 2 7 127 251 rfl ?_ ?_)
     ·refine qjH r2 h (cB 143 rfl) (ih hr2) rfl rfl rfl rfl fun w11 h=>Ag (h.pick [] rfl) (Ao 7 255 rfl (qp qa [.tmp 22] _ ([(⟨IntKind.wrap .u8 (W64 (48+(a_n.tmod 10)))⟩:IntK .u8)]:List (IntK .u8)) h rfl rfl rfl rfl rfl rfl rfl rfl rfl ⟨rfl,trivial⟩ rfl fun w12 p5 S5 h=>Ag (h.pick [] rfl) (Ao 8 511 rfl (r_v (qjA qa (h.sl 0 rfl).1 (h.sl 0 rfl).2 rfl ⟨rfl,rfl⟩ ⟨rfl,rfl⟩ rfl rfl) rfl (Ag (h.pick [] rfl) ?_)))))
      obtain ⟨g6,hx2⟩:=qgh hx2
      refine Aw 9 1023 (fun w' hw=>qku g6 rfl rfl) (h.pick [] rfl) rfl ?_
      rw [hx2]
      refine M0 2047 [10] (h.pick [] rfl) rfl (Ad ?_)
      replace h:=h.pick [] rfl
      exact rG ⟨rfl,h⟩ rfl
     ·refine qp qa [.tmp 22] _ ([(⟨IntKind.wrap .u8 (W64 (48+(a_n.tmod 10)))⟩:IntK .u8)]:List (IntK .u8)) h rfl rfl rfl rfl rfl rfl rfl rfl rfl ⟨rfl,trivial⟩ rfl fun w13 p6 S6 h=>Ag (h.pick [] rfl) (At 2 8 255 507 rfl ?_ ?_)
      ·refine qjH r2 h (cB 143 rfl) (ih hr2) rfl rfl rfl rfl fun w14 h=>Ag (h.pick [] rfl) (Ao 8 511 rfl (r_v (qjA qa (h.sl 0 rfl).1 (h.sl 0 rfl).2 rfl ⟨rfl,rfl⟩ ⟨rfl,rfl⟩ rfl rfl) rfl (Ag (h.pick [] rfl) ?_)))
       obtain ⟨g7,hx2⟩:=qgh hx2
       refine Aw 9 1023 (fun w' hw=>qku g7 rfl rfl) (h.pick [] rfl) rfl ?_
       rw [hx2]
       refine M0 2047 [10] (h.pick [] rfl) rfl (Ad ?_)
       replace h:=h.pick [] rfl
       exact rG ⟨rfl,h⟩ rfl
      ·refine r_v (qjA qa (h.sl 0 rfl).1 (h.sl 0 rfl).2 rfl ⟨rfl,rfl⟩ ⟨rfl,rfl⟩ rfl rfl) rfl (Ag (h.pick [] rfl) (Ao 2 511 rfl (qjH r2 h (cB 143 rfl) (ih hr2) rfl rfl rfl rfl fun w15 h=>Ag (h.pick [] rfl) ?_)))
       obtain ⟨g8,hx2⟩:=qgh hx2
       refine Aw 9 1023 (fun w' hw=>qku g8 rfl rfl) (h.pick [] rfl) rfl ?_
       rw [hx2]
       refine M0 2047 [10] (h.pick [] rfl) rfl (Ad ?_)
       replace h:=h.pick [] rfl
       exact rG ⟨rfl,h⟩ rfl
    ·rintro e1 w16 ⟨rfl,h⟩
     obtain rfl:=qb hF
     exact qa9 qa (ρ:=ByteArray) [_] h ⟨rfl,trivial⟩ (qk9 _ _)
def qck (a_0:Tl01Source) (x2:(List ByteArray)) (y1:Int):Nat→(List Int)→Int→Int→Int→Option ((List Int) × Int × Int × Int)
 | 0,_,_,_,_=>none
 | n+1,x4,i10,i11,i12 =>
  (idx ([2,2,3,3,4,3,3,3]:List Int) y1).bind fun y2 =>
  bif decide (i12<(W64 (y2-1))) then
   (qu n (⟨a_0.code,i10,i11⟩:Tl01Source) (W64 ((x2.length:Int)-1))).bind fun o=>match o with
    | (i13,i14,i15) =>
     (qu n (⟨a_0.code,i14,i15⟩:Tl01Source) 3).bind fun o=>match o with
      | (i16,i17,i18) =>
       (
        bif (i16==0) then some (W64 ((x2.length:Int)-1)) else
        some (W64 (1+i13))).bind fun i19 =>
       (
        bif decide (y1 ≥ 5) then some (i12==1) else
        some false).bind fun b3 =>
       bif b3 then
        (appS ([]:List Int) x4).bind fun x5 =>
        (appS x5 ([0]:List Int)).bind fun x6 =>
        qck a_0 x2 y1 n x6 i17 i18 (W64 (i12+1))
       else
        (appS ([]:List Int) x4).bind fun x7 =>
        (appS x7 ([i19]:List Int)).bind fun x8 =>
        qck a_0 x2 y1 n x8 i17 i18 (W64 (i12+1))
  else
   some (x4,i10,i11,i12)
def qcq (a_0:Tl01Source) (a_2:Bool) (x2:(List ByteArray)) (x3:(List ql)):Nat→(List ql)→Int→Int→Int→Option ((List ql) × Int × Int × Int)
 | 0,_,_,_,_=>none
 | n+1,x13,i20,i21,i22 =>
  bif decide (i22<(x3.length:Int)) then
   (
    (qu n (⟨a_0.code,i20,i21⟩:Tl01Source) 4).bind fun o=>match o with
     | (i28,i29,i30) =>
      bif (i28==0) then
       (idx x13 i22).bind fun y5 =>
       bif (y5.Av==5) then some (i29,i30,true) else
       (idx x13 i22).bind fun y6 =>
       bif (y6.Av==6) then some (i29,i30,true) else
       some (i29,i30,a_2)
      else
       some (i29,i30,false)).bind fun o=>match o with
    | (i23,i24,b4) =>
     bif b4 then
      (idx x13 i22).bind fun y3 =>
      (qu n (⟨a_0.code,i23,i24⟩:Tl01Source) (W64 ((x2.length:Int)-1))).bind fun o=>match o with
       | (i25,i26,i27) =>
        (idx y3.Ai 0).bind fun _ =>
        qcq a_0 a_2 x2 x3 n (setS x13 i22 (⟨y3.Ar,y3.Av,(setS y3.Ai 0 (W64 (1+i25)))⟩:ql)) i26 i27 (W64 (i22+1))
     else
      qcq a_0 a_2 x2 x3 n x13 i23 i24 (W64 (i22+1))
  else
   some (x13,i20,i21,i22)
def qc3 (a_0:Tl01Source):Nat→(List ByteArray)→(List ql)→Int→Int→Int→Option ((List ByteArray) × (List ql) × Int × Int × Int)
 | 0,_,_,_,_,_=>none
 | n+1,x2,x3,i4,i5,i6 =>
  bif decide (i6 > 0) then
   (qu n (⟨a_0.code,i4,i5⟩:Tl01Source) 12).bind fun o=>match o with
    | (i7,i8,i9) =>
     (idx ([0,1,2,2,3,4,5,5,5,6,7,1]:List Int) i7).bind fun y1 =>
     (qaS n (x3.length:Int)).bind fun r1 =>
     (catB (⟨#[117]⟩:ByteArray) r1).bind fun z1 =>
     (qck a_0 x2 y1 n ([]:List Int) i8 i9 0).bind fun o=>match o with
     | (x4,i10,i11,_) =>
      (appS ([]:List Int) x4).bind fun x9 =>
      (appS x9 ([(x2.length:Int)]:List Int)).bind fun x10 =>
      (qaS n (x2.length:Int)).bind fun r2 =>
      (catB (⟨#[110]⟩:ByteArray) r2).bind fun z2 =>
      (appS x2 ([z2]:List ByteArray)).bind fun x11 =>
      (appS x3 ([(⟨z1,y1,x10⟩:ql)]:List ql)).bind fun x12 =>
      qc3 a_0 n x11 x12 i10 i11 (W64 (i6-1))
  else
   some (x2,x3,i4,i5,i6)
def qf9 (n:Nat) (a_0:Tl01Source) (a_1:Int) (a_2:Bool):Option (qc × Int × Int) :=
 (appS ([]:List ByteArray) ([(⟨#[110,99,107]⟩:ByteArray),(⟨#[110,97]⟩:ByteArray),(⟨#[110,98]⟩:ByteArray)]:List ByteArray)).bind fun x1 =>
 (qu n (⟨a_0.code,a_0.at_,a_0.seed⟩:Tl01Source) (W64 (a_1-1))).bind fun o=>match o with
  | (i1,i2,i3) =>
   (qc3 a_0 n x1 ([]:List ql) i2 i3 (W64 (2+i1))).bind fun o=>match o with
   | (x2,x3,i4,i5,_) =>
    (qcq a_0 a_2 x2 x3 n x3 i4 i5 0).bind fun o=>match o with
    | (x13,i20,i21,_) =>
     (appS ([]:List qv) ([(⟨(⟨#[99,107]⟩:ByteArray),1,0⟩:qv),(⟨(⟨#[97]⟩:ByteArray),1,1⟩:qv),(⟨(⟨#[98]⟩:ByteArray),1,2⟩:qv)]:List qv)).bind fun x14 =>
     (appS x14 ([(⟨(⟨#[121]⟩:ByteArray),2,W64 ((x2.length:Int)-1)⟩:qv)]:List qv)).bind fun x15 =>
     (qu n (⟨a_0.code,i20,i21⟩:Tl01Source) 2).bind fun o=>match o with
      | (i31,i32,i33) =>
       bif (i31==0) then
        (qu n (⟨a_0.code,i32,i33⟩:Tl01Source) (W64 ((x2.length:Int)-1))).bind fun o=>match o with
         | (i34,i35,i36) =>
          (appS x15 ([(⟨(⟨#[122]⟩:ByteArray),2,W64 (1+i34)⟩:qv)]:List qv)).bind fun x16 =>
          some ((⟨x13,x2,x16⟩:qc),i35,i36)
       else
        some ((⟨x13,x2,x15⟩:qc),i32,i33)
theorem qi0 {n:Nat} {w0 w:World} {F:List Ch} {a_0:Tl01Source} {bb1:Nat} {p1:Option Addr} {k1:Nat} {a_1:Int} {a_2:Bool} (h0:SH w0 w (Ch.box bb1 (qg a_0 p1 k1) 108::F)) (ha1:GoT.R w (Fr w0 F) a_0 [.slice p1 a_0.code.length k1,.int .i64 a_0.at_,.int .i64 a_0.seed]) {r:(qc × Int × Int)} (hF:qf9 n a_0 a_1 a_2=some r):RetW Tryz.prog 116 [.pointer (some ⟨bb1,0,none⟩),.int .i64 a_1,.bool a_2] w (fun us w'=>∃ (S1:Nat→Prop) (cs1:List Value),us=[GoT.v qc cs1]∧SH w0 w' (Ch.own S1 (r.1:qc) cs1::Ch.box bb1 [.slice p1 a_0.code.length k1,.int .i64 r.2.1,.int .i64 r.2.2] 108::F)):=by
 have h:=SH.frame [Ch.box bb1 (qg a_0 p1 k1) 108] h0
 replace h:=h.grpAdd 1 rfl ha1
 replace h:SH _ _ [Ch.box bb1 (qg a_0 p1 k1) 108,Ch.grp (old w0) (FS F) [fct (a_0:Tl01Source) [.slice p1 a_0.code.length k1,.int .i64 a_0.at_,.int .i64 a_0.seed],same w0 w F]]:=h
 refine qbn Tryz.func116 rfl (m:=174) rfl rfl (zSR (qy qa h rfl rfl rfl fun w1 bb2 h=>zNSR (qp qa [.const (.string (⟨#[110,99,107]⟩:ByteArray)),.const (.string (⟨#[110,97]⟩:ByteArray)),.const (.string (⟨#[110,98]⟩:ByteArray))] _ ([(⟨#[110,99,107]⟩:ByteArray),(⟨#[110,97]⟩:ByteArray),(⟨#[110,98]⟩:ByteArray)]:List ByteArray) h rfl rfl rfl rfl rfl rfl rfl rfl rfl ⟨rfl,rfl,rfl,trivial⟩ rfl fun w2 p2 S2 h=>r_v (qay qa [1] [.tmp 18] rfl rfl rfl rfl rfl rfl rfl rfl) rfl (qy qa h rfl rfl rfl fun w3 bb3 h=>zs 0 h rfl fun w4 h=>zNSR (r_v (qay qa [0,1] [.const (.string (⟨#[99,107]⟩:ByteArray)),.const (.int .i64 (1))] rfl rfl rfl rfl rfl rfl rfl rfl) rfl (r_v (qay qa [0,1,2] [.const (.string (⟨#[97]⟩:ByteArray)),.const (.int .i64 (1)),.const (.int .i64 (1))] rfl rfl rfl rfl rfl rfl rfl rfl) rfl (r_v (qay qa [0,1,2] [.const (.string (⟨#[98]⟩:ByteArray)),.const (.int .i64 (1)),.const (.int .i64 (2))] rfl rfl rfl rfl rfl rfl rfl rfl) rfl (qp qa [.tmp 20,.tmp 21,.tmp 22] _ ([(⟨(⟨#[99,107]⟩:ByteArray),1,0⟩:qv),(⟨(⟨#[97]⟩:ByteArray),1,1⟩:qv),(⟨(⟨#[98]⟩:ByteArray),1,2⟩:qv)]:List qv) h rfl rfl rfl rfl rfl rfl rfl rfl rfl ⟨(qfv (⟨(⟨#[99,107]⟩:ByteArray),1,0⟩:qv)),(qfv (⟨(⟨#[97]⟩:ByteArray),1,1⟩:qv)),(qfv (⟨(⟨#[98]⟩:ByteArray),1,2⟩:qv)),trivial⟩ rfl fun w5 p3 S3 h=>zp1 rfl (zs 1 h rfl fun w6 h=>zNSR (qp qa [.const (.int .i64 (2)),.const (.int .i64 (2)),.const (.int .i64 (3)),.const (.int .i64 (3)),.const (.int .i64 (4)),.const (.int .i64 (3)),.const (.int .i64 (3)),.const (.int .i64 (3))] _ ([2,2,3,3,4,3,3,3]:List Int) h rfl rfl rfl rfl rfl rfl rfl rfl rfl ⟨rfl,rfl,rfl,rfl,rfl,rfl,rfl,rfl,trivial⟩ rfl fun w7 p4 S4 h=>X0 4 rfl (qdC qa [] _ ([]:List ql) [0,1,2,3,4,5,6] h rfl rfl rfl rfl rfl rfl rfl rfl rfl qfn rfl rfl fun w8 p5 S5 h=>X0 4 rfl (qp qa [] _ ([]:List ByteArray) h rfl rfl rfl rfl rfl rfl rfl rfl rfl trivial rfl fun w9 p6 S6 h=>X1 2 4 h rfl ?_))))))))))))
 obtain ⟨x1,hx1,hF⟩:=qe hF
 obtain ⟨g1,hx1⟩:=qx hx1
 refine qaq qa 0 h rfl (h.sl 5 rfl).1 (h.sl 5 rfl).2 rfl rfl rfl rfl rfl rfl rfl rfl rfl g1 hx1 rfl fun w10 p7 k2 S7 h=>X0 8 rfl ?_
 replace h:=h.pick [7,0,1,2,3,4,5,6,8] rfl
 obtain ⟨o1,hr1,hF⟩:=qe hF
 obtain ⟨i1,i2,i3⟩:=o1
 refine qB (cB 32 rfl) (qj (a_0:=(⟨a_0.code,a_0.at_,a_0.seed⟩:Tl01Source)) (a_1:=(W64 (a_1-1))) h ⟨[.slice p1 a_0.code.length k1],[.int .i64 a_0.at_,.int .i64 a_0.seed],rfl,⟨_,_,rfl,(qf (h.frG 8 0 1 rfl rfl rfl)).1⟩,⟨[.int .i64 a_0.at_],[.int .i64 a_0.seed],rfl,rfl,rfl⟩⟩ hr1) rfl rfl rfl rfl ?_
 rintro w11 us1 ⟨rfl,h⟩
 replace h:SH _ _ [Ch.box bb1 [.slice p1 a_0.code.length k1,.int .i64 i2,.int .i64 i3] 108,Ch.own S7 (x1:List ByteArray) [.slice p7 x1.length k2],Ch.own S5 (([]:List ql):List ql) [.slice p5 0 0],Ch.own S4 (([2,2,3,3,4,3,3,3]:List Int):List Int) [.slice p4 8 8],Ch.own S3 (([(⟨(⟨#[99,107]⟩:ByteArray),1,0⟩:qv),(⟨(⟨#[97]⟩:ByteArray),1,1⟩:qv),(⟨(⟨#[98]⟩:ByteArray),1,2⟩:qv)]:List qv):List qv) [.slice p3 3 3],Ch.box bb3 [.slice none 0 0,.slice p2 3 3,.slice p3 3 3] 31,Ch.own S2 (([(⟨#[110,99,107]⟩:ByteArray),(⟨#[110,97]⟩:ByteArray),(⟨#[110,98]⟩:ByteArray)]:List ByteArray):List ByteArray) [.slice p2 3 3],Ch.box bb2 [.slice none 0 0,.slice none 0 0,.slice none 0 0] 31,Ch.grp (old w0) (FS F) [fct (a_0:Tl01Source) [.slice p1 a_0.code.length k1,.int .i64 a_0.at_,.int .i64 a_0.seed],same w0 w F]]:=h
 refine X0 3 rfl ?_
 obtain ⟨o2,hF,hK1⟩:=qe hF
 refine qq (rL (fun m e w'=>∃ (S8:Nat→Prop) (p8:Option Addr) (ln1:Nat) (k3:Nat) (x2:(List ByteArray)) (S9:Nat→Prop) (p9:Option Addr) (ln2:Nat) (k4:Nat) (x3:(List ql)) (i4:Int) (i5:Int) (i6:Int),qc3 a_0 m x2 x3 i4 i5 i6=some o2∧e=[(0,.pointer (some ⟨bb1,0,none⟩)),(2,.bool a_2),(6,.pointer (some ⟨bb2,0,none⟩)),(7,.pointer (some ⟨bb3,0,none⟩)),(8,.slice p4 8 8),(9,.slice p9 ln2 k4),(10,.slice p8 ln1 k3),(11,.int .i64 i6)]∧SH w0 w' [Ch.box bb1 [.slice p1 a_0.code.length k1,.int .i64 i4,.int .i64 i5] 108,Ch.own S8 (x2:List ByteArray) [.slice p8 ln1 k3],Ch.own S9 (x3:List ql) [.slice p9 ln2 k4],Ch.own S4 (([2,2,3,3,4,3,3,3]:List Int):List Int) [.slice p4 8 8],Ch.own S3 (([(⟨(⟨#[99,107]⟩:ByteArray),1,0⟩:qv),(⟨(⟨#[97]⟩:ByteArray),1,1⟩:qv),(⟨(⟨#[98]⟩:ByteArray),1,2⟩:qv)]:List qv):List qv) [.slice p3 3 3],Ch.box bb3 [.slice none 0 0,.slice p2 3 3,.slice p3 3 3] 31,Ch.own S2 (([(⟨#[110,99,107]⟩:ByteArray),(⟨#[110,97]⟩:ByteArray),(⟨#[110,98]⟩:ByteArray)]:List ByteArray):List ByteArray) [.slice p2 3 3],Ch.box bb2 [.slice none 0 0,.slice none 0 0,.slice none 0 0] 31,Ch.grp (old w0) (FS F) [fct (a_0:Tl01Source) [.slice p1 a_0.code.length k1,.int .i64 a_0.at_,.int .i64 a_0.seed],same w0 w F]]) n ⟨_,_,_,_,_,_,_,_,_,_,_,_,_,hF,rfl,h⟩ rfl ?_)
 rintro m1 e1 w12 ⟨S8,p8,ln1,k3,x2,S9,p9,ln2,k4,x3,i4,i5,i6,hF,rfl,h⟩
 obtain rfl:=(h.sl 1 rfl).2
 obtain rfl:=(h.sl 2 rfl).2
 rcases m1 with _|m1
 ·cases hF
 refine X0 6 rfl (qr rfl hF ?_ ?_)<;>intro hF
 ·refine zKSBSR (qp qa [.const (.int .i64 (0)),.const (.int .i64 (1)),.const (.int .i64 (2)),.const (.int .i64 (2)),.const (.int .i64 (3)),.const (.int .i64 (4)),.const (.int .i64 (5)),.const (.int .i64 (5)),.const (.int .i64 (5)),.const (.int .i64 (6)),.const (.int .i64 (7)),.const (.int .i64 (1))] _ ([0,1,2,2,3,4,5,5,5,6,7,1]:List Int) h rfl rfl rfl rfl rfl rfl rfl rfl rfl ⟨rfl,rfl,rfl,rfl,rfl,rfl,rfl,rfl,rfl,rfl,rfl,rfl,trivial⟩ rfl fun w13 p10 S10 h=>zp1 rfl ?_)
  replace h:=h.pick [1,0,2,3,4,5,6,7,8,9] rfl
  obtain ⟨o3,hr2,hF⟩:=qe hF
  obtain ⟨i7,i8,i9⟩:=o3
  refine qB (cB 32 rfl) (qj (a_0:=(⟨a_0.code,i4,i5⟩:Tl01Source)) (a_1:=12) h ⟨[.slice p1 a_0.code.length k1],[.int .i64 i4,.int .i64 i5],rfl,⟨_,_,rfl,(qf (h.frG 9 0 1 rfl rfl rfl)).1⟩,⟨[.int .i64 i4],[.int .i64 i5],rfl,rfl,rfl⟩⟩ hr2) rfl rfl rfl rfl ?_
  rintro w14 us2 ⟨rfl,h⟩
  replace h:SH _ _ [Ch.box bb1 [.slice p1 a_0.code.length k1,.int .i64 i8,.int .i64 i9] 108,Ch.own S10 (([0,1,2,2,3,4,5,5,5,6,7,1]:List Int):List Int) [.slice p10 12 12],Ch.own S8 (x2:List ByteArray) [.slice p8 x2.length k3],Ch.own S9 (x3:List ql) [.slice p9 x3.length k4],Ch.own S4 (([2,2,3,3,4,3,3,3]:List Int):List Int) [.slice p4 8 8],Ch.own S3 (([(⟨(⟨#[99,107]⟩:ByteArray),1,0⟩:qv),(⟨(⟨#[97]⟩:ByteArray),1,1⟩:qv),(⟨(⟨#[98]⟩:ByteArray),1,2⟩:qv)]:List qv):List qv) [.slice p3 3 3],Ch.box bb3 [.slice none 0 0,.slice p2 3 3,.slice p3 3 3] 31,Ch.own S2 (([(⟨#[110,99,107]⟩:ByteArray),(⟨#[110,97]⟩:ByteArray),(⟨#[110,98]⟩:ByteArray)]:List ByteArray):List ByteArray) [.slice p2 3 3],Ch.box bb2 [.slice none 0 0,.slice none 0 0,.slice none 0 0] 31,Ch.grp (old w0) (FS F) [fct (a_0:Tl01Source) [.slice p1 a_0.code.length k1,.int .i64 a_0.at_,.int .i64 a_0.seed],same w0 w F]]:=h
  obtain ⟨y1,hy1,hF,he1,b1,_,q1,cs2,hp1,hq1,rfl,hc2⟩:=(h.sl 1 rfl).1.ix hF
  refine zx hp1 hq1 ⟨he1.1,qY he1.2.1 (h.sl 1 rfl).2⟩ rfl (zc 0 hc2 rfl (X0 6 rfl (zcS h hF qgC rfl fun r1 w15 h hF=>?_)))
  obtain ⟨z1,hx2,hF⟩:=qe hF
  obtain ⟨g2,hx2⟩:=qgh hx2
  refine r_v (qku g2 rfl rfl) rfl ?_
  rw [hx2]
  refine zp1 rfl (r_v (qay qa [0,1] [.tmp 48,.tmp 49] rfl rfl rfl rfl rfl rfl rfl rfl) rfl (qy qa h rfl rfl rfl fun w16 bb4 h=>zs 0 h rfl fun w17 h=>X0 6 rfl ?_))
  replace h:=h.nil (α:=Int)
  obtain ⟨o4,hF,hK2⟩:=qe hF
  refine qq ?_
  replace h:=h.pick [0,1,2,4,5,6,7,8,9,10,11] rfl
  refine rL (fun m e w'=>∃ (S11:Nat→Prop) (p11:Option Addr) (ln3:Nat) (k5:Nat) (x4:(List Int)) (i10:Int) (i11:Int) (i12:Int),qck a_0 x2 y1 m x4 i10 i11 i12=some o4∧e=[(0,.pointer (some ⟨bb1,0,none⟩)),(2,.bool a_2),(6,.pointer (some ⟨bb2,0,none⟩)),(7,.pointer (some ⟨bb3,0,none⟩)),(8,.slice p4 8 8),(9,.slice p9 x3.length k4),(10,.slice p8 x2.length k3),(11,.int .i64 i6),(12,.int .i64 y1),(13,.pointer (some ⟨bb4,0,none⟩)),(14,.int .i64 i12)]∧SH w0 w' [Ch.own S11 (x4:List Int) [.slice p11 ln3 k5],Ch.box bb4 [.string z1,.int .i64 y1,.slice p11 ln3 k5] 111,Ch.box bb1 [.slice p1 a_0.code.length k1,.int .i64 i10,.int .i64 i11] 108,Ch.own S8 (x2:List ByteArray) [.slice p8 x2.length k3],Ch.own S9 (x3:List ql) [.slice p9 x3.length k4],Ch.own S4 (([2,2,3,3,4,3,3,3]:List Int):List Int) [.slice p4 8 8],Ch.own S3 (([(⟨(⟨#[99,107]⟩:ByteArray),1,0⟩:qv),(⟨(⟨#[97]⟩:ByteArray),1,1⟩:qv),(⟨(⟨#[98]⟩:ByteArray),1,2⟩:qv)]:List qv):List qv) [.slice p3 3 3],Ch.box bb3 [.slice none 0 0,.slice p2 3 3,.slice p3 3 3] 31,Ch.own S2 (([(⟨#[110,99,107]⟩:ByteArray),(⟨#[110,97]⟩:ByteArray),(⟨#[110,98]⟩:ByteArray)]:List ByteArray):List ByteArray) [.slice p2 3 3],Ch.box bb2 [.slice none 0 0,.slice none 0 0,.slice none 0 0] 31,Ch.grp (old w0) (FS F) [fct (a_0:Tl01Source) [.slice p1 a_0.code.length k1,.int .i64 a_0.at_,.int .i64 a_0.seed],same w0 w F]]) m1 ⟨_,_,_,_,_,_,_,_,hF,rfl,h⟩ rfl ?_
  rintro m2 e2 w18 ⟨S11,p11,ln3,k5,x4,i10,i11,i12,hF,rfl,h⟩
  obtain rfl:=(h.sl 0 rfl).2
  rcases m2 with _|m2
  ·cases hF
  refine X0 6 rfl ?_
  obtain ⟨y2,hy2,hF,he2,b2,_,q2,cs3,hp2,hq2,rfl,hc3⟩:=(h.sl 5 rfl).1.ix hF
  refine zx hp2 hq2 ⟨he2.1,qY he2.2.1 (h.sl 5 rfl).2⟩ rfl (zc 0 hc3 rfl (X0 3 rfl (qr rfl hF ?_ ?_)))<;>intro hF
  ·refine X0 9 rfl ?_
   replace h:=h.pick [2,0,1,3,4,5,6,7,8,9,10] rfl
   obtain ⟨o5,hr6,hF⟩:=qe hF
   obtain ⟨i13,i14,i15⟩:=o5
   refine qB (cB 32 rfl) (qj (a_0:=(⟨a_0.code,i10,i11⟩:Tl01Source)) (a_1:=(W64 ((x2.length:Int)-1))) h ⟨[.slice p1 a_0.code.length k1],[.int .i64 i10,.int .i64 i11],rfl,⟨_,_,rfl,(qf (h.frG 10 0 1 rfl rfl rfl)).1⟩,⟨[.int .i64 i10],[.int .i64 i11],rfl,rfl,rfl⟩⟩ hr6) rfl rfl rfl rfl ?_
   rintro w19 us3 ⟨rfl,h⟩
   replace h:SH _ _ [Ch.box bb1 [.slice p1 a_0.code.length k1,.int .i64 i14,.int .i64 i15] 108,Ch.own S11 (x4:List Int) [.slice p11 x4.length k5],Ch.box bb4 [.string z1,.int .i64 y1,.slice p11 x4.length k5] 111,Ch.own S8 (x2:List ByteArray) [.slice p8 x2.length k3],Ch.own S9 (x3:List ql) [.slice p9 x3.length k4],Ch.own S4 (([2,2,3,3,4,3,3,3]:List Int):List Int) [.slice p4 8 8],Ch.own S3 (([(⟨(⟨#[99,107]⟩:ByteArray),1,0⟩:qv),(⟨(⟨#[97]⟩:ByteArray),1,1⟩:qv),(⟨(⟨#[98]⟩:ByteArray),1,2⟩:qv)]:List qv):List qv) [.slice p3 3 3],Ch.box bb3 [.slice none 0 0,.slice p2 3 3,.slice p3 3 3] 31,Ch.own S2 (([(⟨#[110,99,107]⟩:ByteArray),(⟨#[110,97]⟩:ByteArray),(⟨#[110,98]⟩:ByteArray)]:List ByteArray):List ByteArray) [.slice p2 3 3],Ch.box bb2 [.slice none 0 0,.slice none 0 0,.slice none 0 0] 31,Ch.grp (old w0) (FS F) [fct (a_0:Tl01Source) [.slice p1 a_0.code.length k1,.int .i64 a_0.at_,.int .i64 a_0.seed],same w0 w F]]:=h
   refine X0 7 rfl ?_
   obtain ⟨o6,hr7,hF⟩:=qe hF
   obtain ⟨i16,i17,i18⟩:=o6
   refine qB (cB 32 rfl) (qj (a_0:=(⟨a_0.code,i14,i15⟩:Tl01Source)) (a_1:=3) h ⟨[.slice p1 a_0.code.length k1],[.int .i64 i14,.int .i64 i15],rfl,⟨_,_,rfl,(qf (h.frG 10 0 1 rfl rfl rfl)).1⟩,⟨[.int .i64 i14],[.int .i64 i15],rfl,rfl,rfl⟩⟩ hr7) rfl rfl rfl rfl ?_
   rintro w20 us4 ⟨rfl,h⟩
   replace h:SH _ _ [Ch.box bb1 [.slice p1 a_0.code.length k1,.int .i64 i17,.int .i64 i18] 108,Ch.own S11 (x4:List Int) [.slice p11 x4.length k5],Ch.box bb4 [.string z1,.int .i64 y1,.slice p11 x4.length k5] 111,Ch.own S8 (x2:List ByteArray) [.slice p8 x2.length k3],Ch.own S9 (x3:List ql) [.slice p9 x3.length k4],Ch.own S4 (([2,2,3,3,4,3,3,3]:List Int):List Int) [.slice p4 8 8],Ch.own S3 (([(⟨(⟨#[99,107]⟩:ByteArray),1,0⟩:qv),(⟨(⟨#[97]⟩:ByteArray),1,1⟩:qv),(⟨(⟨#[98]⟩:ByteArray),1,2⟩:qv)]:List qv):List qv) [.slice p3 3 3],Ch.box bb3 [.slice none 0 0,.slice p2 3 3,.slice p3 3 3] 31,Ch.own S2 (([(⟨#[110,99,107]⟩:ByteArray),(⟨#[110,97]⟩:ByteArray),(⟨#[110,98]⟩:ByteArray)]:List ByteArray):List ByteArray) [.slice p2 3 3],Ch.box bb2 [.slice none 0 0,.slice none 0 0,.slice none 0 0] 31,Ch.grp (old w0) (FS F) [fct (a_0:Tl01Source) [.slice p1 a_0.code.length k1,.int .i64 a_0.at_,.int .i64 a_0.seed],same w0 w F]]:=h
   refine X0 2 rfl ?_
   obtain ⟨KF2,hKF2,o8,hF,hK4⟩:=bindE hF
   refine qb5 (fun e w'=>∃ (i19:Int),KF2 i19=some o4∧e=[(0,.pointer (some ⟨bb1,0,none⟩)),(2,.bool a_2),(6,.pointer (some ⟨bb2,0,none⟩)),(7,.pointer (some ⟨bb3,0,none⟩)),(8,.slice p4 8 8),(9,.slice p9 x3.length k4),(10,.slice p8 x2.length k3),(11,.int .i64 i6),(12,.int .i64 y1),(13,.pointer (some ⟨bb4,0,none⟩)),(14,.int .i64 i12),(15,.int .i64 i19)]∧SH w0 w' [Ch.box bb1 [.slice p1 a_0.code.length k1,.int .i64 i17,.int .i64 i18] 108,Ch.own S11 (x4:List Int) [.slice p11 x4.length k5],Ch.box bb4 [.string z1,.int .i64 y1,.slice p11 x4.length k5] 111,Ch.own S8 (x2:List ByteArray) [.slice p8 x2.length k3],Ch.own S9 (x3:List ql) [.slice p9 x3.length k4],Ch.own S4 (([2,2,3,3,4,3,3,3]:List Int):List Int) [.slice p4 8 8],Ch.own S3 (([(⟨(⟨#[99,107]⟩:ByteArray),1,0⟩:qv),(⟨(⟨#[97]⟩:ByteArray),1,1⟩:qv),(⟨(⟨#[98]⟩:ByteArray),1,2⟩:qv)]:List qv):List qv) [.slice p3 3 3],Ch.box bb3 [.slice none 0 0,.slice p2 3 3,.slice p3 3 3] 31,Ch.own S2 (([(⟨#[110,99,107]⟩:ByteArray),(⟨#[110,97]⟩:ByteArray),(⟨#[110,98]⟩:ByteArray)]:List ByteArray):List ByteArray) [.slice p2 3 3],Ch.box bb2 [.slice none 0 0,.slice none 0 0,.slice none 0 0] 31,Ch.grp (old w0) (FS F) [fct (a_0:Tl01Source) [.slice p1 a_0.code.length k1,.int .i64 a_0.at_,.int .i64 a_0.seed],same w0 w F]]) ?_ ?_
   ·refine qr rfl hF ?_ ?_<;>intro hF
    ·refine X0 6 rfl ?_
     obtain rfl:=qb hF
     exact rG ⟨_,hK4,rfl,h⟩ rfl
    refine qf1 ?_
    obtain rfl:=qb hF
    exact rG ⟨_,hK4,rfl,h⟩ rfl
   rintro e4 w32 ⟨i19,hF,rfl,h⟩
   subst hKF2
   refine zSS ?_
   obtain ⟨KF1,hKF1,o7,hF,hK3⟩:=bindE hF
   refine qb5 (fun e w'=>∃ (b3:Bool),KF1 b3=some o4∧e=[(0,.pointer (some ⟨bb1,0,none⟩)),(2,.bool a_2),(6,.pointer (some ⟨bb2,0,none⟩)),(7,.pointer (some ⟨bb3,0,none⟩)),(8,.slice p4 8 8),(9,.slice p9 x3.length k4),(10,.slice p8 x2.length k3),(11,.int .i64 i6),(12,.int .i64 y1),(13,.pointer (some ⟨bb4,0,none⟩)),(14,.int .i64 i12),(15,.int .i64 i19),(77,.bool b3)]∧SH w0 w' [Ch.box bb1 [.slice p1 a_0.code.length k1,.int .i64 i17,.int .i64 i18] 108,Ch.own S11 (x4:List Int) [.slice p11 x4.length k5],Ch.box bb4 [.string z1,.int .i64 y1,.slice p11 x4.length k5] 111,Ch.own S8 (x2:List ByteArray) [.slice p8 x2.length k3],Ch.own S9 (x3:List ql) [.slice p9 x3.length k4],Ch.own S4 (([2,2,3,3,4,3,3,3]:List Int):List Int) [.slice p4 8 8],Ch.own S3 (([(⟨(⟨#[99,107]⟩:ByteArray),1,0⟩:qv),(⟨(⟨#[97]⟩:ByteArray),1,1⟩:qv),(⟨(⟨#[98]⟩:ByteArray),1,2⟩:qv)]:List qv):List qv) [.slice p3 3 3],Ch.box bb3 [.slice none 0 0,.slice p2 3 3,.slice p3 3 3] 31,Ch.own S2 (([(⟨#[110,99,107]⟩:ByteArray),(⟨#[110,97]⟩:ByteArray),(⟨#[110,98]⟩:ByteArray)]:List ByteArray):List ByteArray) [.slice p2 3 3],Ch.box bb2 [.slice none 0 0,.slice none 0 0,.slice none 0 0] 31,Ch.grp (old w0) (FS F) [fct (a_0:Tl01Source) [.slice p1 a_0.code.length k1,.int .i64 a_0.at_,.int .i64 a_0.seed],same w0 w F]]) ?_ ?_
   ·refine X0 4 rfl (qh (t:=74) hF rfl ?_ ?_)<;>intro hF
    ·refine X0 6 rfl ?_
     obtain rfl:=qb hF
     exact rG ⟨_,hK3,rfl,h⟩ rfl
    refine X0 4 rfl ?_
    obtain rfl:=qb hF
    exact rG ⟨_,hK3,rfl,h⟩ rfl
   rintro e3 w31 ⟨b3,hF,rfl,h⟩
   subst hKF1
   refine qr rfl hF ?_ ?_<;>intro hF
   ·refine X0 4 rfl (qp qa [] _ ([]:List Int) h rfl rfl rfl rfl rfl rfl rfl rfl rfl trivial rfl fun w21 p12 S12 h=>X1 2 3 h rfl ?_)
    obtain ⟨x5,hx3,hF⟩:=qe hF
    obtain ⟨g3,hx3⟩:=qx hx3
    refine qaq qa 0 h rfl (h.sl 2 rfl).1 (h.sl 2 rfl).2 rfl rfl rfl rfl rfl rfl rfl rfl rfl g3 hx3 rfl fun w22 p13 k6 S13 h=>zp1 rfl (qp qa [.tmp 82] _ ([0]:List Int) h rfl rfl rfl rfl rfl rfl rfl rfl rfl ⟨rfl,trivial⟩ rfl fun w23 p14 S14 h=>?_)
    obtain ⟨x6,hx4,hF⟩:=qe hF
    obtain ⟨g4,hx4⟩:=qx hx4
    refine qaq qa 1 h rfl (h.sl 0 rfl).1 (h.sl 0 rfl).2 rfl rfl rfl rfl rfl rfl rfl rfl rfl g4 hx4 rfl fun w24 p15 k7 S15 h=>zp1 rfl (zs 4 h rfl fun w25 h=>X0 7 rfl ?_)
    replace h:=h.pick [1,4,2,5,6,7,8,9,10,11,12] rfl
    exact rK ⟨_,_,_,_,_,_,_,_,hF,rfl,h⟩ rfl
   refine X0 2 rfl (qp qa [] _ ([]:List Int) h rfl rfl rfl rfl rfl rfl rfl rfl rfl trivial rfl fun w26 p16 S16 h=>X1 2 3 h rfl ?_)
   obtain ⟨x7,hx5,hF⟩:=qe hF
   obtain ⟨g5,hx5⟩:=qx hx5
   refine qaq qa 0 h rfl (h.sl 2 rfl).1 (h.sl 2 rfl).2 rfl rfl rfl rfl rfl rfl rfl rfl rfl g5 hx5 rfl fun w27 p17 k8 S17 h=>zp1 rfl (qp qa [.tmp 82] _ ([i19]:List Int) h rfl rfl rfl rfl rfl rfl rfl rfl rfl ⟨rfl,trivial⟩ rfl fun w28 p18 S18 h=>?_)
   obtain ⟨x8,hx6,hF⟩:=qe hF
   obtain ⟨g6,hx6⟩:=qx hx6
   refine qaq qa 1 h rfl (h.sl 0 rfl).1 (h.sl 0 rfl).2 rfl rfl rfl rfl rfl rfl rfl rfl rfl g6 hx6 rfl fun w29 p19 k9 S19 h=>zp1 rfl (zs 4 h rfl fun w30 h=>X0 7 rfl ?_)
   replace h:=h.pick [1,4,2,5,6,7,8,9,10,11,12] rfl
   exact rK ⟨_,_,_,_,_,_,_,_,hF,rfl,h⟩ rfl
  refine qw rfl ?_
  obtain rfl:=qb hF;replace hF:=hK2
  refine zSR (qp qa [] _ ([]:List Int) h rfl rfl rfl rfl rfl rfl rfl rfl rfl trivial rfl fun w33 p20 S20 h=>X1 2 2 h rfl ?_)
  obtain ⟨x9,hx7,hF⟩:=qe hF
  obtain ⟨g7,hx7⟩:=qx hx7
  refine qaq qa 0 h rfl (h.sl 1 rfl).1 (h.sl 1 rfl).2 rfl rfl rfl rfl rfl rfl rfl rfl rfl g7 hx7 rfl fun w34 p21 k10 S21 h=>zp2 rfl (qp qa [.tmp 91] _ ([(x2.length:Int)]:List Int) h rfl rfl rfl rfl rfl rfl rfl rfl rfl ⟨rfl,trivial⟩ rfl fun w35 p22 S22 h=>?_)
  obtain ⟨x10,hx8,hF⟩:=qe hF
  obtain ⟨g8,hx8⟩:=qx hx8
  refine qaq qa 1 h rfl (h.sl 0 rfl).1 (h.sl 0 rfl).2 rfl rfl rfl rfl rfl rfl rfl rfl rfl g8 hx8 rfl fun w36 p23 k11 S23 h=>zp1 rfl (zs 3 h rfl fun w37 h=>X0 6 rfl (zcS h hF qgC rfl fun r2 w38 h hF=>?_))
  obtain ⟨z2,hx9,hF⟩:=qe hF
  obtain ⟨g9,hx9⟩:=qgh hx9
  refine r_v (qku g9 rfl rfl) rfl ?_
  rw [hx9]
  refine qp qa [.tmp 99] _ ([z2]:List ByteArray) h rfl rfl rfl rfl rfl rfl rfl rfl rfl ⟨rfl,trivial⟩ rfl fun w39 p24 S24 h=>?_
  obtain ⟨x11,hx10,hF⟩:=qe hF
  obtain ⟨g10,hx10⟩:=qx hx10
  refine qaq qa 6 h rfl (h.sl 0 rfl).1 (h.sl 0 rfl).2 rfl rfl rfl rfl rfl rfl rfl rfl rfl g10 hx10 rfl fun w40 p25 k12 S25 h=>X1 5 4 h rfl (qdC qa [.tmp 103] _ ([(⟨z1,y1,x10⟩:ql)]:List ql) [0,1,3,4,5,6,7,8,9,10,11,12,13] h rfl rfl rfl rfl rfl rfl rfl rfl rfl (qbY (qix (⟨z1,y1,x10⟩:ql) h (qN (S:=fun _=>False) rfl) (qN (S:=fun _=>False) rfl) (qJ 2 h rfl) (by rfl) (by rfl)) qfn rfl) rfl rfl fun w41 p26 S26 h=>?_)
  obtain ⟨x12,hx11,hF⟩:=qe hF
  obtain ⟨g11,hx11⟩:=qx hx11
  replace h:=h.pick [0,7,1,2,3,4,5,6,8,9,10,11,12,13] rfl
  refine qiN qa h rfl rfl rfl rfl rfl rfl rfl rfl rfl g11 hx11 rfl fun w42 p27 k13 S27 h=>X0 8 rfl ?_
  replace h:=h.pick [5,6,0,7,8,9,10,11,12] rfl
  exact rK ⟨_,_,_,_,_,_,_,_,_,_,_,_,_,hF,rfl,h⟩ rfl
 refine qw rfl ?_
 obtain rfl:=qb hF;replace hF:=hK1
 refine X0 5 rfl ?_
 obtain ⟨o9,hF,hK5⟩:=qe hF
 refine qq ?_
 replace h:=h.pick [0,1,2,4,5,6,7,8] rfl
 refine rL (fun m e w'=>∃ (S28:Nat→Prop) (x13:(List ql)) (i20:Int) (i21:Int) (i22:Int),qcq a_0 a_2 x2 x3 m x13 i20 i21 i22=some o9∧e=[(0,.pointer (some ⟨bb1,0,none⟩)),(2,.bool a_2),(6,.pointer (some ⟨bb2,0,none⟩)),(7,.pointer (some ⟨bb3,0,none⟩)),(9,.slice p9 x3.length k4),(10,.slice p8 x2.length k3),(16,.int .i64 i22)]∧SH w0 w' [Ch.box bb1 [.slice p1 a_0.code.length k1,.int .i64 i20,.int .i64 i21] 108,Ch.own S8 (x2:List ByteArray) [.slice p8 x2.length k3],Ch.own S28 (x13:List ql) [.slice p9 x3.length k4],Ch.own S3 (([(⟨(⟨#[99,107]⟩:ByteArray),1,0⟩:qv),(⟨(⟨#[97]⟩:ByteArray),1,1⟩:qv),(⟨(⟨#[98]⟩:ByteArray),1,2⟩:qv)]:List qv):List qv) [.slice p3 3 3],Ch.box bb3 [.slice none 0 0,.slice p2 3 3,.slice p3 3 3] 31,Ch.own S2 (([(⟨#[110,99,107]⟩:ByteArray),(⟨#[110,97]⟩:ByteArray),(⟨#[110,98]⟩:ByteArray)]:List ByteArray):List ByteArray) [.slice p2 3 3],Ch.box bb2 [.slice none 0 0,.slice none 0 0,.slice none 0 0] 31,Ch.grp (old w0) (FS F) [fct (a_0:Tl01Source) [.slice p1 a_0.code.length k1,.int .i64 a_0.at_,.int .i64 a_0.seed],same w0 w F]]) n ⟨_,_,_,_,_,hF,rfl,h⟩ rfl ?_
 rintro m3 e5 w43 ⟨S28,x13,i20,i21,i22,hF,rfl,h⟩
 rcases m3 with _|m3
 ·cases hF
 refine X0 8 rfl (qr rfl hF ?_ ?_)<;>intro hF
 ·refine X0 4 rfl ?_
  obtain ⟨KF3,hKF3,o11,hF,hK6⟩:=bindE hF
  refine qb5 (fun e w'=>∃ (i23:Int) (i24:Int) (b4:Bool),KF3 (i23,i24,b4)=some o9∧e=[(0,.pointer (some ⟨bb1,0,none⟩)),(2,.bool a_2),(6,.pointer (some ⟨bb2,0,none⟩)),(7,.pointer (some ⟨bb3,0,none⟩)),(9,.slice p9 x3.length k4),(10,.slice p8 x2.length k3),(16,.int .i64 i22),(133,.bool b4)]∧SH w0 w' [Ch.box bb1 [.slice p1 a_0.code.length k1,.int .i64 i23,.int .i64 i24] 108,Ch.own S8 (x2:List ByteArray) [.slice p8 x2.length k3],Ch.own S28 (x13:List ql) [.slice p9 x3.length k4],Ch.own S3 (([(⟨(⟨#[99,107]⟩:ByteArray),1,0⟩:qv),(⟨(⟨#[97]⟩:ByteArray),1,1⟩:qv),(⟨(⟨#[98]⟩:ByteArray),1,2⟩:qv)]:List qv):List qv) [.slice p3 3 3],Ch.box bb3 [.slice none 0 0,.slice p2 3 3,.slice p3 3 3] 31,Ch.own S2 (([(⟨#[110,99,107]⟩:ByteArray),(⟨#[110,97]⟩:ByteArray),(⟨#[110,98]⟩:ByteArray)]:List ByteArray):List ByteArray) [.slice p2 3 3],Ch.box bb2 [.slice none 0 0,.slice none 0 0,.slice none 0 0] 31,Ch.grp (old w0) (FS F) [fct (a_0:Tl01Source) [.slice p1 a_0.code.length k1,.int .i64 a_0.at_,.int .i64 a_0.seed],same w0 w F]]) ?_ ?_
  ·refine X0 2 rfl ?_
   obtain ⟨o12,hr11,hF⟩:=qe hF
   obtain ⟨i28,i29,i30⟩:=o12
   refine qB (cB 32 rfl) (qj (a_0:=(⟨a_0.code,i20,i21⟩:Tl01Source)) (a_1:=4) h ⟨[.slice p1 a_0.code.length k1],[.int .i64 i20,.int .i64 i21],rfl,⟨_,_,rfl,(qf (h.frG 7 0 1 rfl rfl rfl)).1⟩,⟨[.int .i64 i20],[.int .i64 i21],rfl,rfl,rfl⟩⟩ hr11) rfl rfl rfl rfl ?_
   rintro w47 us6 ⟨rfl,h⟩
   replace h:SH _ _ [Ch.box bb1 [.slice p1 a_0.code.length k1,.int .i64 i29,.int .i64 i30] 108,Ch.own S8 (x2:List ByteArray) [.slice p8 x2.length k3],Ch.own S28 (x13:List ql) [.slice p9 x3.length k4],Ch.own S3 (([(⟨(⟨#[99,107]⟩:ByteArray),1,0⟩:qv),(⟨(⟨#[97]⟩:ByteArray),1,1⟩:qv),(⟨(⟨#[98]⟩:ByteArray),1,2⟩:qv)]:List qv):List qv) [.slice p3 3 3],Ch.box bb3 [.slice none 0 0,.slice p2 3 3,.slice p3 3 3] 31,Ch.own S2 (([(⟨#[110,99,107]⟩:ByteArray),(⟨#[110,97]⟩:ByteArray),(⟨#[110,98]⟩:ByteArray)]:List ByteArray):List ByteArray) [.slice p2 3 3],Ch.box bb2 [.slice none 0 0,.slice none 0 0,.slice none 0 0] 31,Ch.grp (old w0) (FS F) [fct (a_0:Tl01Source) [.slice p1 a_0.code.length k1,.int .i64 a_0.at_,.int .i64 a_0.seed],same w0 w F]]:=h
   refine zp2 rfl (qh (t:=115) hF rfl ?_ ?_)<;>intro hF
   ·refine X0 5 rfl ?_
    obtain ⟨y5,hy5,hF⟩:=qe hF
    have he5:=qcw hy5
    replace h:=h.lrn0 2 rfl
    obtain ⟨b7,o_4,q5,cs6,hp5,hq5,-,hr12,hc10⟩:=(qjn (h.lrnO 2 rfl)).1.at hy5
    have hr13:=hr12
    obtain ⟨p29,k15,rfl,s2⟩:=qai hr12
    replace h:=h.lrnAdd 2 rfl hr13
    refine zx hp5 hq5 ⟨he5.1,qY he5.2.1 (qjn (h.lrnO 2 rfl)).2⟩ rfl (X0 3 rfl (zc 1 hc10 rfl (X0 4 rfl (qh (t:=122) hF rfl ?_ ?_))))<;>intro hF
    ·refine X0 15 rfl ?_
     replace h:=h.unlrn 2 rfl
     obtain rfl:=qb hF
     exact rG ⟨_,_,_,hK6,rfl,h⟩ rfl
    refine X0 5 rfl ?_
    obtain ⟨y6,hy6,hF,he6,b8,_,q6,cs7,hp6,hq6,hr14,hc11⟩:=(qjn (h.lrnO 2 rfl)).1.ix hF
    have hr15:=hr14
    obtain ⟨p30,k16,rfl,s3⟩:=qai hr14
    replace h:=h.lrnAdd 2 rfl hr15
    refine zx hp6 hq6 ⟨he6.1,qY he6.2.1 (qjn (h.lrnO 2 rfl)).2⟩ rfl (X0 3 rfl (zc 1 hc11 rfl (X0 6 rfl (qh (t:=130) hF rfl ?_ ?_))))<;>intro hF
    ·refine X0 5 rfl ?_
     replace h:=h.unlrn 2 rfl
     obtain rfl:=qb hF
     exact rG ⟨_,_,_,hK6,rfl,h⟩ rfl
    refine X0 6 rfl ?_
    replace h:=h.unlrn 2 rfl
    obtain rfl:=qb hF
    exact rG ⟨_,_,_,hK6,rfl,h⟩ rfl
   refine X0 19 rfl ?_
   obtain rfl:=qb hF
   exact rG ⟨_,_,_,hK6,rfl,h⟩ rfl
  rintro e6 w48 ⟨i23,i24,b4,hF,rfl,h⟩
  subst hKF3
  refine qr rfl hF ?_ ?_<;>intro hF
  ·obtain ⟨y3,hy3,hF⟩:=qe hF
   have he3:=qcw hy3
   replace h:=h.pick [2,0,1,3,4,5,6,7] rfl
   obtain ⟨S29,S30,cs4,h⟩:=h.take hy3
   obtain ⟨p28,k14,rfl,-⟩:=qai (h.own 0 rfl)
   obtain ⟨S31,h⟩:=qjr h
   refine rA [] [1] h rfl fun w44 h=>M0 3 [0,1] (h.pick [1] rfl) rfl ?_
   obtain ⟨b5,hp3,-,-,hl2⟩:=h.holeAt 1 rfl
   obtain ⟨q3,hq3⟩:∃ q,q=0+(i22).toNat*GoT.k ql:=⟨_,rfl⟩
   refine Ax 2 7 hp3 hq3 ⟨he3.1,qY he3.2.1 hl2⟩ (h.pick [1] rfl) rfl (M0 15 [3] (h.pick [1] rfl) rfl (Aw 4 31 (fun w' hw=>qfq qa (qeU hw 0 rfl hp3 hq3) (j:=2) rfl rfl rfl) (h.pick [1] rfl) rfl ?_))
   refine M0 511 [5,6,7,8] (h.pick [1] rfl) rfl (Ao 9 1023 rfl ?_)
   replace h:=h.pick [2,0,1,3,4,5,6,7,8] rfl
   obtain ⟨o10,hr9,hF⟩:=qe hF
   obtain ⟨i25,i26,i27⟩:=o10
   refine qB (cB 32 rfl) (qj (a_0:=(⟨a_0.code,i23,i24⟩:Tl01Source)) (a_1:=(W64 ((x2.length:Int)-1))) h ⟨[.slice p1 a_0.code.length k1],[.int .i64 i23,.int .i64 i24],rfl,⟨_,_,rfl,(qf (h.frG 8 0 1 rfl rfl rfl)).1⟩,⟨[.int .i64 i23],[.int .i64 i24],rfl,rfl,rfl⟩⟩ hr9) rfl rfl rfl rfl ?_
   rintro w45 us5 ⟨rfl,h⟩
   replace h:SH _ _ [Ch.box bb1 [.slice p1 a_0.code.length k1,.int .i64 i26,.int .i64 i27] 108,Ch.own S31 (y3.Ai:List Int) [.slice p28 y3.Ai.length k14],Ch.hole S30 (x13:List ql) p9 x3.length k4 (i22).toNat [.string y3.Ar,.int .i64 y3.Av,.slice p28 y3.Ai.length k14],Ch.own S8 (x2:List ByteArray) [.slice p8 x2.length k3],Ch.own S3 (([(⟨(⟨#[99,107]⟩:ByteArray),1,0⟩:qv),(⟨(⟨#[97]⟩:ByteArray),1,1⟩:qv),(⟨(⟨#[98]⟩:ByteArray),1,2⟩:qv)]:List qv):List qv) [.slice p3 3 3],Ch.box bb3 [.slice none 0 0,.slice p2 3 3,.slice p3 3 3] 31,Ch.own S2 (([(⟨#[110,99,107]⟩:ByteArray),(⟨#[110,97]⟩:ByteArray),(⟨#[110,98]⟩:ByteArray)]:List ByteArray):List ByteArray) [.slice p2 3 3],Ch.box bb2 [.slice none 0 0,.slice none 0 0,.slice none 0 0] 31,Ch.grp (old w0) (FS F) [fct (a_0:Tl01Source) [.slice p1 a_0.code.length k1,.int .i64 a_0.at_,.int .i64 a_0.seed],same w0 w F]]:=h
   refine G0 2047 [10] (h.pick [2] rfl) rfl ?_
   obtain ⟨y4,hy4,hF,he4,b6,_,q4,cs5,hp4,hq4,rfl,hc9⟩:=(h.sl 1 rfl).1.ix hF
   refine Ax 11 4095 hp4 hq4 ⟨he4.1,qY he4.2.1 (h.sl 1 rfl).2⟩ (h.pick [2] rfl) rfl (Ao 12 8191 rfl (qde qa 1 0 (W64 (1+i25)) h rfl hy4 hp4 hq4 rfl hc9 rfl rfl rfl rfl rfl rfl rfl fun w46 h=>Ag (h.pick [2] rfl) (Ad (X0 6 rfl ?_))))
   obtain ⟨S32,h⟩:=h.gather [0,2,3,4,5,6,7,8] (qix (⟨y3.Ar,y3.Av,(setS y3.Ai 0 (W64 (1+i25)))⟩:ql) h (qN (S:=fun _=>False) rfl) (qN (S:=fun _=>False) rfl) (qJ 1 h rfl) (by rfl) (by rfl)) rfl
   replace h:=h.pick [0,2,1,3,4,5,6,7,8] rfl
   replace h:=h.put
   obtain ⟨S33,h⟩:=qjh (S:=_) h
   replace h:=h.pick [1,2,0,3,4,5,6,7] rfl
   exact rK ⟨_,_,_,_,_,hF,rfl,h⟩ rfl
  exact X0 7 rfl (rK ⟨_,_,_,_,_,hF,rfl,h⟩ rfl)
 refine qw rfl ?_
 obtain rfl:=qb hF;replace hF:=hK5
 refine zSR (qp qa [] _ ([]:List qv) h rfl rfl rfl rfl rfl rfl rfl rfl rfl trivial rfl fun w49 p31 S34 h=>X1 2 5 h rfl ?_)
 obtain ⟨x14,hx12,hF⟩:=qe hF
 obtain ⟨g12,hx12⟩:=qx hx12
 refine qaq qa 0 h rfl (h.sl 4 rfl).1 (h.sl 4 rfl).2 rfl rfl rfl rfl rfl rfl rfl rfl rfl g12 hx12 rfl fun w50 p32 k17 S35 h=>X0 8 rfl (r_v (qay qa [0,1,2] [.const (.string (⟨#[121]⟩:ByteArray)),.const (.int .i64 (2)),.tmp 153] rfl rfl rfl rfl rfl rfl rfl rfl) rfl (qp qa [.tmp 154] _ ([(⟨(⟨#[121]⟩:ByteArray),2,W64 ((x2.length:Int)-1)⟩:qv)]:List qv) h rfl rfl rfl rfl rfl rfl rfl rfl rfl ⟨(qfv (⟨(⟨#[121]⟩:ByteArray),2,W64 ((x2.length:Int)-1)⟩:qv)),trivial⟩ rfl fun w51 p33 S36 h=>?_))
 obtain ⟨x15,hx13,hF⟩:=qe hF
 obtain ⟨g13,hx13⟩:=qx hx13
 refine qaq qa 1 h rfl (h.sl 0 rfl).1 (h.sl 0 rfl).2 rfl rfl rfl rfl rfl rfl rfl rfl rfl g13 hx13 rfl fun w52 p34 k18 S37 h=>X0 6 rfl ?_
 replace h:=h.pick [2,0,1,3,4,5,6,7,8,9] rfl
 obtain ⟨o13,hr16,hF⟩:=qe hF
 obtain ⟨i31,i32,i33⟩:=o13
 refine qB (cB 32 rfl) (qj (a_0:=(⟨a_0.code,i20,i21⟩:Tl01Source)) (a_1:=2) h ⟨[.slice p1 a_0.code.length k1],[.int .i64 i20,.int .i64 i21],rfl,⟨_,_,rfl,(qf (h.frG 9 0 1 rfl rfl rfl)).1⟩,⟨[.int .i64 i20],[.int .i64 i21],rfl,rfl,rfl⟩⟩ hr16) rfl rfl rfl rfl ?_
 rintro w53 us7 ⟨rfl,h⟩
 replace h:SH _ _ [Ch.box bb1 [.slice p1 a_0.code.length k1,.int .i64 i32,.int .i64 i33] 108,Ch.own S36 (([(⟨(⟨#[121]⟩:ByteArray),2,W64 ((x2.length:Int)-1)⟩:qv)]:List qv):List qv) [.slice p33 1 1],Ch.own S37 (x15:List qv) [.slice p34 x15.length k18],Ch.own S8 (x2:List ByteArray) [.slice p8 x2.length k3],Ch.own S28 (x13:List ql) [.slice p9 x3.length k4],Ch.own S3 (([(⟨(⟨#[99,107]⟩:ByteArray),1,0⟩:qv),(⟨(⟨#[97]⟩:ByteArray),1,1⟩:qv),(⟨(⟨#[98]⟩:ByteArray),1,2⟩:qv)]:List qv):List qv) [.slice p3 3 3],Ch.box bb3 [.slice none 0 0,.slice p2 3 3,.slice p3 3 3] 31,Ch.own S2 (([(⟨#[110,99,107]⟩:ByteArray),(⟨#[110,97]⟩:ByteArray),(⟨#[110,98]⟩:ByteArray)]:List ByteArray):List ByteArray) [.slice p2 3 3],Ch.box bb2 [.slice none 0 0,.slice none 0 0,.slice none 0 0] 31,Ch.grp (old w0) (FS F) [fct (a_0:Tl01Source) [.slice p1 a_0.code.length k1,.int .i64 a_0.at_,.int .i64 a_0.seed],same w0 w F]]:=h
 refine X0 2 rfl (qr rfl hF ?_ ?_)<;>intro hF
 ·refine X0 6 rfl ?_
  obtain ⟨o14,hr17,hF⟩:=qe hF
  obtain ⟨i34,i35,i36⟩:=o14
  refine qB (cB 32 rfl) (qj (a_0:=(⟨a_0.code,i32,i33⟩:Tl01Source)) (a_1:=(W64 ((x2.length:Int)-1))) h ⟨[.slice p1 a_0.code.length k1],[.int .i64 i32,.int .i64 i33],rfl,⟨_,_,rfl,(qf (h.frG 9 0 1 rfl rfl rfl)).1⟩,⟨[.int .i64 i32],[.int .i64 i33],rfl,rfl,rfl⟩⟩ hr17) rfl rfl rfl rfl ?_
  rintro w54 us8 ⟨rfl,h⟩
  replace h:SH _ _ [Ch.box bb1 [.slice p1 a_0.code.length k1,.int .i64 i35,.int .i64 i36] 108,Ch.own S36 (([(⟨(⟨#[121]⟩:ByteArray),2,W64 ((x2.length:Int)-1)⟩:qv)]:List qv):List qv) [.slice p33 1 1],Ch.own S37 (x15:List qv) [.slice p34 x15.length k18],Ch.own S8 (x2:List ByteArray) [.slice p8 x2.length k3],Ch.own S28 (x13:List ql) [.slice p9 x3.length k4],Ch.own S3 (([(⟨(⟨#[99,107]⟩:ByteArray),1,0⟩:qv),(⟨(⟨#[97]⟩:ByteArray),1,1⟩:qv),(⟨(⟨#[98]⟩:ByteArray),1,2⟩:qv)]:List qv):List qv) [.slice p3 3 3],Ch.box bb3 [.slice none 0 0,.slice p2 3 3,.slice p3 3 3] 31,Ch.own S2 (([(⟨#[110,99,107]⟩:ByteArray),(⟨#[110,97]⟩:ByteArray),(⟨#[110,98]⟩:ByteArray)]:List ByteArray):List ByteArray) [.slice p2 3 3],Ch.box bb2 [.slice none 0 0,.slice none 0 0,.slice none 0 0] 31,Ch.grp (old w0) (FS F) [fct (a_0:Tl01Source) [.slice p1 a_0.code.length k1,.int .i64 a_0.at_,.int .i64 a_0.seed],same w0 w F]]:=h
  refine zp1 rfl (r_v (qay qa [0,1,2] [.const (.string (⟨#[122]⟩:ByteArray)),.const (.int .i64 (2)),.tmp 166] rfl rfl rfl rfl rfl rfl rfl rfl) rfl (qp qa [.tmp 167] _ ([(⟨(⟨#[122]⟩:ByteArray),2,W64 (1+i34)⟩:qv)]:List qv) h rfl rfl rfl rfl rfl rfl rfl rfl rfl ⟨(qfv (⟨(⟨#[122]⟩:ByteArray),2,W64 (1+i34)⟩:qv)),trivial⟩ rfl fun w55 p35 S38 h=>?_))
  obtain ⟨x16,hx14,hF⟩:=qe hF
  obtain ⟨g14,hx14⟩:=qx hx14
  refine qaq qa 3 h rfl (h.sl 0 rfl).1 (h.sl 0 rfl).2 rfl rfl rfl rfl rfl rfl rfl rfl rfl g14 hx14 rfl fun w56 p36 k19 S39 h=>X0 7 rfl (r_v (qay qa [0,1,2] [.tmp 170,.tmp 171,.tmp 172] rfl rfl rfl rfl rfl rfl rfl rfl) rfl (zs 9 h rfl fun w57 h=>qbs ?_))
  have hk1:=h
  obtain ⟨S40,h⟩:=h.gather [0,1,2,6,7,8,9,10] (qjP (⟨x13,x2,x16⟩:qc) h (qJ 5 h rfl) (qJ 4 h rfl) (qJ 3 h rfl) (by rfl) (by rfl)) rfl
  obtain rfl:=qb hF
  replace h:=h.pick [0,2,8] rfl
  replace h:SH _ _ [Ch.own S40 ((⟨x13,x2,x16⟩:qc):qc) [.slice p9 x3.length k4,.slice p8 x2.length k3,.slice p36 x16.length k19],Ch.box bb1 [.slice p1 a_0.code.length k1,.int .i64 i35,.int .i64 i36] 108,Ch.grp (old w0) (FS F) [fct (a_0:Tl01Source) [.slice p1 a_0.code.length k1,.int .i64 a_0.at_,.int .i64 a_0.seed],same w0 w F]]:=h
  exact qce qa [GoT.v qc [.slice p9 x3.length k4,.slice p8 x2.length k3,.slice p36 x16.length k19]] ⟨⟨_,_,_,rfl,rfl,hk1.box 9 rfl,rfl⟩,trivial⟩ ⟨_,_,rfl,SH.unframe 1 (L0:=[Ch.box bb1 (qg a_0 p1 k1) 108]) h0 [Ch.own S40 ((⟨x13,x2,x16⟩:qc):qc) [.slice p9 x3.length k4,.slice p8 x2.length k3,.slice p36 x16.length k19],Ch.box bb1 [.slice p1 a_0.code.length k1,.int .i64 i35,.int .i64 i36] 108] h rfl⟩
 refine X0 6 rfl (r_v (qay qa [0,1,2] [.tmp 170,.tmp 171,.tmp 172] rfl rfl rfl rfl rfl rfl rfl rfl) rfl (zs 8 h rfl fun w58 h=>qbs ?_))
 have hk2:=h
 obtain ⟨S41,h⟩:=h.gather [0,1,5,6,7,8,9] (qjP (⟨x13,x2,x15⟩:qc) h (qJ 4 h rfl) (qJ 3 h rfl) (qJ 2 h rfl) (by rfl) (by rfl)) rfl
 obtain rfl:=qb hF
 replace h:=h.pick [0,1,7] rfl
 replace h:SH _ _ [Ch.own S41 ((⟨x13,x2,x15⟩:qc):qc) [.slice p9 x3.length k4,.slice p8 x2.length k3,.slice p34 x15.length k18],Ch.box bb1 [.slice p1 a_0.code.length k1,.int .i64 i32,.int .i64 i33] 108,Ch.grp (old w0) (FS F) [fct (a_0:Tl01Source) [.slice p1 a_0.code.length k1,.int .i64 a_0.at_,.int .i64 a_0.seed],same w0 w F]]:=h
 exact qce qa [GoT.v qc [.slice p9 x3.length k4,.slice p8 x2.length k3,.slice p34 x15.length k18]] ⟨⟨_,_,_,rfl,rfl,hk2.box 8 rfl,rfl⟩,trivial⟩ ⟨_,_,rfl,SH.unframe 1 (L0:=[Ch.box bb1 (qg a_0 p1 k1) 108]) h0 [Ch.own S41 ((⟨x13,x2,x15⟩:qc):qc) [.slice p9 x3.length k4,.slice p8 x2.length k3,.slice p34 x15.length k18],Ch.box bb1 [.slice p1 a_0.code.length k1,.int .i64 i32,.int .i64 i33] 108] h rfl⟩
def qd0 (_:Nat) (list:(List Int)):Option (List Int) :=
 (appS ([]:List Int) list).bind fun x1 =>
 some x1
theorem qd2 {list:(List Int)} (ha1:GoT.R w (old w) list cs1) {r:(List Int)} (hF:qd0 n list=some r):RetV Tryz.prog 114 [GoT.v (List Int) cs1] w r:=by
 obtain ⟨p1,k1,rfl,s1⟩:=ha1
 refine zV 6 Tryz.func114 rfl fun h=>X0 6 rfl (qp qa [] _ ([]:List Int) h rfl rfl rfl rfl rfl rfl rfl rfl rfl trivial rfl fun w1 p2 S1 h=>zp1 rfl ?_)
 obtain ⟨x1,hx1,hF⟩:=qe hF
 obtain ⟨g1,hx1⟩:=qx hx1
 refine qaq qa 0 h rfl (h.oldS s1) rfl rfl rfl rfl rfl rfl rfl rfl rfl rfl g1 hx1 rfl fun w2 p3 k2 S2 h=>X0 2 rfl ?_
 obtain rfl:=qb hF
 exact rO 0 h rfl ⟨rfl,trivial⟩
def qe5 (_:Nat) (sinks:Int) (load:Int):Option qK :=
 (mkS sinks (0:Int)).bind fun x1 =>
 some (⟨([(-1)]:List Int),([0]:List Int),([load]:List Int),x1⟩:qK)
theorem qiA {sinks:Int} {load:Int}  {r:qK} (hF:qe5 n sinks load=some r):RetV Tryz.prog 144 [.int .i64 sinks,.int .i64 load] w r:=by
 refine zV 12 Tryz.func144 rfl fun h=>zSR (qy qa h rfl rfl rfl fun w1 bb1 h=>zNSR (qp qa [.const (.int .i64 (-1))] _ ([(-1)]:List Int) h rfl rfl rfl rfl rfl rfl rfl rfl rfl ⟨rfl,trivial⟩ rfl fun w2 p1 S1 h=>qp qa [.const (.int .i64 (0))] _ ([0]:List Int) h rfl rfl rfl rfl rfl rfl rfl rfl rfl ⟨rfl,trivial⟩ rfl fun w3 p2 S2 h=>zp1 rfl (qp qa [.tmp 7] _ ([load]:List Int) h rfl rfl rfl rfl rfl rfl rfl rfl rfl ⟨rfl,trivial⟩ rfl fun w4 p3 S3 h=>zp1 rfl ?_)))
 obtain ⟨x1,hx1,hF⟩:=qe hF
 obtain ⟨g1,g2,hx1⟩:=qfU hx1
 refine qgy qa Int h rfl rfl rfl rfl rfl rfl rfl rfl rfl g1 g2 hx1 rfl fun w5 S4 p4 h=>r_v (qay qa [0,1,2,3] [.tmp 5,.tmp 6,.tmp 8,.tmp 10] rfl rfl rfl rfl rfl rfl rfl rfl) rfl (zs 4 h rfl fun w6 h=>qbs ?_)
 obtain rfl:=qb hF
 exact qa9 qa (ρ:=qK) [GoT.v qK [.slice p1 1 1,.slice p2 1 1,.slice p3 1 1,.slice p4 x1.length x1.length]] h ⟨⟨_,_,_,rfl,rfl,h.box 4 rfl,rfl⟩,trivial⟩ (PV.done h (qbA (qgP (⟨([(-1)]:List Int),([0]:List Int),([load]:List Int),x1⟩:qK) h (qJ 3 h rfl) (qJ 2 h rfl) (qJ 1 h rfl) (qJ 0 h rfl) (by rfl) (by rfl) (by rfl))))
end Go.Fw
