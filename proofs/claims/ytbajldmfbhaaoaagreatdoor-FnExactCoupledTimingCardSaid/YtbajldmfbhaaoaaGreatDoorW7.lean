/- By a program of mine (gen.py): for each function a plain function and the proof that the code computes it. -/
import Derived.Test.YtbajldmfbhaaoaaGreatDoorW3
open Option renaming bind_some → jd, some → V, none → U
open Nat renaming le_refl → je, le_of_ble_eq_true → jp, mul_le_mul_right → js, lt_of_lt_of_le → jw, succ_mul → jO, zero_add → jW, le_trans → Jb, add_zero → Jh
open Bool renaming and_eq_true → jf, eq_iff_iff → jk, true_and → jx, not_eq_true' → jF, not_true → jV, false_or → Jj
open Go.Result renaming andThen_ok → jg
open List renaming length_append → jh, getElem?_eq_getElem → ji, mem_cons_of_mem → jo, getElem_mem → jq, append_assoc → jr, length_singleton → jt, mem_cons_self → ju, getElem?_append_left → jv, length_map → jy, getElem?_take → jz, take_succ_eq_append_getElem → jB, getElem?_append_right → jC, getD_eq_getElem?_getD → jD, take_length → jG, getElem?_toArray → jH, all_eq_true → jI, size_toArray → jJ, length_replicate → jK, eq_nil_of_length_eq_zero → jL, drop_eq_getElem_cons → jM, map_append → jN, length_take → jP, not_mem_nil → jQ, getElem_of_mem → jR, mem_append_left → jS, append_nil → jU, mem_of_getElem? → jX, mem_cons → Ja, range_succ → Jd, length_cons → Je, ext_getElem → Jf, map_cons → Jg
open Go.Sem renaming run_bind → jj, run_pure → jm
open Int renaming toNat_natCast → jn, tdiv_eq_ediv_of_nonneg → jE, mul_nonneg → jT, le_refl → jY, mul_assoc → jZ, mul_le_mul → Jc, add_zero → Ji
open Array renaming getElem?_append_left → jA

namespace Go.Fw
open Go Go.Proofs Go.Proofs.Tryz
open Go.RowKit (Below)
set_option maxRecDepth 100000
set_option maxHeartbeats 1600000
variable {n:Nat}{w:World}{cs1 cs2 cs3 cs4 cs5 cs6 cs7 cs8 cs9:List Value}
def qiu (n:Nat)(v:(Option Tview)):Option qq:=
 (qdi n v).bind fun a=>
 (mkS a (false:Bool)).bind fun b=>
 (mkS a ((⟨0,0⟩:qc):qc)).bind fun c=>
 (mkS a ((⟨0,0⟩:qc):qc)).bind fun d=>
 V (⟨b,c,d⟩:qq)
theorem qnG {v:(Option Tview)}(P:Ro w v cs1){r:qq}(F:qiu n v=V r):RetV prog 98 [GoT.v (Option Tview) cs1] w r:=by
 obtain⟨_,rfl,Q⟩:=qbV P;refine zV 13 func98 Z fun h=>zSR (qp qa h Z Z Z fun _ M h=>X0 4 Z (zcI h F (qgQ (h.old Q)) Z fun _ _ h F=>X0 3 Z (rA [] [] h Z fun _ h=>M0 21 [0,2,4] (h.pick [] Z) Z ?_)));obtain⟨B,a,F⟩:=qd F;obtain⟨C,b,F⟩:=qd F;obtain⟨D,c,F⟩:=qd F;refine qmG (fun e w'=>∃(I:Nat→Prop) (y:Option Addr) (J:Nat→Prop) (z:Option Addr) (L:Nat→Prop) (A:Option Addr),e=[(2,.pointer (V ⟨M,0,U⟩))]∧SH w w' [Ch.own I (D:List qc) [.slice y D.length D.length],Ch.own J (C:List qc) [.slice z C.length C.length],Ch.own L (B:List Bool) [.slice A B.length B.length],Ch.box M [.slice A B.length B.length,.slice z C.length C.length,.slice y D.length D.length] 45]) 0 (bits 8 255) ?_ ?_
 ·intro K;refine qr6 1 3 5 Z Z Z (bits 8 23) (bits 8 29) (bits 8 53) (by kernel_rfl) (by kernel_rfl) (by kernel_rfl) (by kernel_rfl) ?_ ?_ ?_
  ·obtain⟨m,o,a⟩:=qR a;refine qas qa Bool h Z Z Z Z Z Z Z Z Z m o a Z fun O H N h=>Ag (h.pick [] Z) (At 3 5 31 55 Z ?_ ?_)
   ·obtain⟨d,f,b⟩:=qR b;refine qas qa qc h Z Z Z Z Z Z Z Z Z d f b Z fun t k p h=>Ag (h.pick [] Z) (Ao 5 63 Z ?_);obtain⟨g,i,c⟩:=qR c;refine qas qa qc h Z Z Z Z Z Z Z Z Z g i c Z fun u l s h=>Ag (h.pick [] Z) (Aw 6 127 (fun w' hw=>qaf qa [0,1,2] [.tmp 7,.tmp 9,.tmp 11] Z Z Z Z Z Z Z Z) (h.pick [] Z) Z ?_);exact Ao 7 255 Z (zs 3 h Z fun x h=>Ag (h.pick [] Z) (qeJ [(2,_)] ⟨rfl,trivial⟩ (K _ _ ⟨_,_,_,_,_,_,rfl,h⟩)))
   obtain⟨d,f,c⟩:=qR c;refine qas qa qc h Z Z Z Z Z Z Z Z Z d f c Z fun t k p h=>Ag (h.pick [] Z) (Ao 3 63 Z ?_);obtain⟨g,i,b⟩:=qR b;refine qas qa qc h Z Z Z Z Z Z Z Z Z g i b Z fun u l s h=>Ag (h.pick [] Z) (Aw 6 127 (fun w' hw=>qaf qa [0,1,2] [.tmp 7,.tmp 9,.tmp 11] Z Z Z Z Z Z Z Z) (h.pick [] Z) Z ?_);refine Ao 7 255 Z (zs 3 h Z fun x h=>Ag (h.pick [] Z) ?_);replace h:=h.pick [1,0,2,3] Z;exact qeJ [(2,_)] ⟨rfl,trivial⟩ (K _ _ ⟨_,_,_,_,_,_,rfl,h⟩)
  ·obtain⟨m,o,b⟩:=qR b;refine qas qa qc h Z Z Z Z Z Z Z Z Z m o b Z fun O H N h=>Ag (h.pick [] Z) (At 1 5 31 61 Z ?_ ?_)
   ·obtain⟨d,f,a⟩:=qR a;refine qas qa Bool h Z Z Z Z Z Z Z Z Z d f a Z fun t k p h=>Ag (h.pick [] Z) (Ao 5 63 Z ?_);obtain⟨g,i,c⟩:=qR c;refine qas qa qc h Z Z Z Z Z Z Z Z Z g i c Z fun u l s h=>Ag (h.pick [] Z) (Aw 6 127 (fun w' hw=>qaf qa [0,1,2] [.tmp 7,.tmp 9,.tmp 11] Z Z Z Z Z Z Z Z) (h.pick [] Z) Z ?_);refine Ao 7 255 Z (zs 3 h Z fun x h=>Ag (h.pick [] Z) ?_);replace h:=h.pick [0,2,1,3] Z;exact qeJ [(2,_)] ⟨rfl,trivial⟩ (K _ _ ⟨_,_,_,_,_,_,rfl,h⟩)
   obtain⟨d,f,c⟩:=qR c;refine qas qa qc h Z Z Z Z Z Z Z Z Z d f c Z fun t k p h=>Ag (h.pick [] Z) (Ao 1 63 Z ?_);obtain⟨g,i,a⟩:=qR a;refine qas qa Bool h Z Z Z Z Z Z Z Z Z g i a Z fun u l s h=>Ag (h.pick [] Z) (Aw 6 127 (fun w' hw=>qaf qa [0,1,2] [.tmp 7,.tmp 9,.tmp 11] Z Z Z Z Z Z Z Z) (h.pick [] Z) Z ?_);refine Ao 7 255 Z (zs 3 h Z fun x h=>Ag (h.pick [] Z) ?_);replace h:=h.pick [1,2,0,3] Z;exact qeJ [(2,_)] ⟨rfl,trivial⟩ (K _ _ ⟨_,_,_,_,_,_,rfl,h⟩)
  obtain⟨m,o,c⟩:=qR c;refine qas qa qc h Z Z Z Z Z Z Z Z Z m o c Z fun O H N h=>Ag (h.pick [] Z) (At 1 3 55 61 Z ?_ ?_)
  ·obtain⟨d,f,a⟩:=qR a;refine qas qa Bool h Z Z Z Z Z Z Z Z Z d f a Z fun t k p h=>Ag (h.pick [] Z) (Ao 3 63 Z ?_);obtain⟨g,i,b⟩:=qR b;refine qas qa qc h Z Z Z Z Z Z Z Z Z g i b Z fun u l s h=>Ag (h.pick [] Z) (Aw 6 127 (fun w' hw=>qaf qa [0,1,2] [.tmp 7,.tmp 9,.tmp 11] Z Z Z Z Z Z Z Z) (h.pick [] Z) Z ?_);refine Ao 7 255 Z (zs 3 h Z fun x h=>Ag (h.pick [] Z) ?_);replace h:=h.pick [2,0,1,3] Z;exact qeJ [(2,_)] ⟨rfl,trivial⟩ (K _ _ ⟨_,_,_,_,_,_,rfl,h⟩)
  obtain⟨d,f,b⟩:=qR b;refine qas qa qc h Z Z Z Z Z Z Z Z Z d f b Z fun t k p h=>Ag (h.pick [] Z) (Ao 1 63 Z ?_);obtain⟨g,i,a⟩:=qR a;refine qas qa Bool h Z Z Z Z Z Z Z Z Z g i a Z fun u l s h=>Ag (h.pick [] Z) (Aw 6 127 (fun w' hw=>qaf qa [0,1,2] [.tmp 7,.tmp 9,.tmp 11] Z Z Z Z Z Z Z Z) (h.pick [] Z) Z ?_);refine Ao 7 255 Z (zs 3 h Z fun x h=>Ag (h.pick [] Z) ?_);replace h:=h.pick [2,1,0,3] Z;exact qeJ [(2,_)] ⟨rfl,trivial⟩ (K _ _ ⟨_,_,_,_,_,_,rfl,h⟩)
 rintro _ _ ⟨I,y,J,z,L,A,rfl,h⟩;refine Ad ?_;obtain rfl:=qb F;exact qX qa (ρ:=qq) [GoT.v qq [.slice A B.length B.length,.slice z C.length C.length,.slice y D.length D.length]] h ⟨⟨_,_,_,rfl,rfl,h.box 3 Z,rfl⟩,trivial⟩ (PV.done h (qad (qe4 (⟨B,C,D⟩:qq) h (qak 2 h Z) (qak 1 h Z) (qak 0 h Z) (by rfl) (by rfl))))
def qkV (_:Nat)(s:qf)(a:Int):Option Bool:=
 V (s.Bm==a)
theorem qpF {s:qf}{g:Int}(a:Ro w s cs1){f:Option Addr}(b:Ro w (V g) [.pointer f]){r:Bool}(F:qkV n s g=V r):RetV prog 229 [GoT.v qf cs1,.pointer f] w r:=by
 obtain rfl:=qac a;obtain⟨_,i,_,rfl,-,d,c⟩:=PtR.get b Z;obtain rfl:=d;exact zV 8 func229 Z fun h=>zSR (qw h Z Z fun _ _ h=>X1 6 0 h Z (zc 0 (c.below h.below) Z (X0 3 Z (rb h F Z))))
def qab (s:(List qf))(a:Int):Nat→Int→Option (Flow Int Int)
 | 0,_=>U
 | n+1,b=>
  bif decide (b<(s.length:Int)) then
   (idx s b).bind fun d=>
   (qkV n d a).bind fun c=>
   bif c then V (.ret b) else
   qab s a n (W64 (b+1))
  else
   V (.nxt b)
def qaM (n:Nat)(s:(List qf))(a:Int):Option Int:=
 (qab s a n 0).bind fun o=>match o with
 | .ret r=>V r
 | .nxt _=>
  V (-1)
theorem qfH {s:(List qf)}{a:Int}(d:Ro w s cs1){v:Option Addr}(c:Ro w (V a) [.pointer v]){r:Int}(F:qaM n s a=V r):RetV prog 228 [GoT.v (List qf) cs1,.func (.func 229) #[] #[.pointer v]] w r:=by
 obtain⟨z,x,rfl,A⟩:=d;obtain⟨b1,t,_,rfl,-,l,_⟩:=PtR.get c Z;obtain rfl:=l;refine zV 19 func228 Z fun h=>X0 11 Z ?_;obtain⟨y,F,b⟩:=qd F;refine qn (rL (fun m e w'=>∃(p:Int),qab s a m p=V y∧e=[(0,.slice z s.length x),(1,.func (.func 229) #[] #[.pointer (V ⟨b1,t,U⟩)]),(7,.int .i64 (s.length:Int)),(8,.int .i64 p)]∧SH w w' []) n ⟨_,F,rfl,h⟩ Z ?_);rintro u _ _ ⟨p,F,rfl,h⟩;rcases u with _|u
 ·cases F
 refine X0 5 Z (qi Z F ?_ ?_)<;>intro F
 ·refine X0 13 Z ?_;obtain⟨B,_,F,g,_,_,_,_,i,k,o,f⟩:=A.ix F;obtain rfl:=qac o;refine zxe i k g Z (zc 0 (f.below h.below) Z (zcB h F (qpF (qaP B) (h.old c)) Z fun _ _ h F=>qcU (qi Z F ?_ ?_)))<;>intro F
  ·refine X0 5 Z ?_;obtain rfl:=qb F;replace F:=b;exact ri h F Z
  exact X0 6 Z (rK ⟨_,F,rfl,h⟩ Z)
 refine qr Z ?_;obtain rfl:=qb F;replace F:=b;exact X0 4 Z (ri h F Z)
def qkg (n:Nat)(list:(List qf))(node:Int):Option (qf×Bool):=
 (qaM n list node).bind fun a=>
 bif decide (a ≥ 0) then
  (idx list a).bind fun b=>
  V (b,true)
 else
  V ((⟨0,(⟨0,0⟩:qc),(⟨0,0⟩:qc)⟩:qf),false)
theorem qrc {list:(List qf)}{node:Int}(a:Ro w list cs1){r:(qf×Bool)}(F:qkg n list node=V r):RetV prog 162 [GoT.v (List qf) cs1,.int .i64 node] w r:=by
 obtain⟨_,_,rfl,i⟩:=a;refine zV 17 func162 Z fun h=>zSR (qw h Z Z fun _ _ h=>qp qa h Z Z Z fun _ _ h=>X0 7 Z (zcI h F (qfH ⟨_,_,rfl,(h.oldS i)⟩ (qcW (x:=node) 1 h Z Z)) Z fun _ _ h F=>X0 7 Z (qi Z F ?_ ?_)))<;>intro F
 ·refine X0 4 Z ?_;obtain⟨k,_,F,c,_,_,_,_,d,f,g,b⟩:=i.ix F;obtain rfl:=qac g;refine zxe d f c Z (zc 0 (b.below h.below) Z (zs 0 h Z fun _ h=>X0 2 Z ?_));obtain rfl:=qb F;exact qX qa (ρ:=(qf×Bool)) [GoT.v qf (qf5 k),GoT.v Bool [.bool true]] h ⟨⟨_,_,_,rfl,rfl,h.box 0 Z,rfl⟩,rfl,trivial⟩ (PV.done h (qP h (qy (S:=fun _=>False) (qaP k)) (qad (qy (S:=fun _=>False) Z)) (by rfl)))
 refine zKSR (r_v (qaf qa [] [] Z Z Z Z Z Z Z Z) Z (zs 0 h Z fun _ h=>X0 2 Z ?_));obtain rfl:=qb F;exact qX qa (ρ:=(qf×Bool)) [GoT.v qf [.int .i64 0,.int .i64 0,.int .i64 0,.int .i64 0,.int .i64 0],GoT.v Bool [.bool false]] h ⟨⟨_,_,_,rfl,rfl,h.box 0 Z,rfl⟩,rfl,trivial⟩ (PV.done h (qP h (qy (S:=fun _=>False) (qaP (⟨0,(⟨0,0⟩:qc),(⟨0,0⟩:qc)⟩:qf))) (qad (qy (S:=fun _=>False) Z)) (by rfl)))
def qhF (_:Nat)(s:qc)(t:qc):Option qc:=
 V (⟨(if t.Am<s.Am then t.Am else s.Am),(if t.Au > s.Au then t.Au else s.Au)⟩:qc)
theorem qd0 {s:qc}{t:qc}(a:Ro w s cs1)(b:Ro w t cs2){r:qc}(F:qhF n s t=V r):RetV prog 230 [GoT.v qc cs1,GoT.v qc cs2] w r:=by
 obtain rfl:=qu a;obtain rfl:=qu b;refine zV 16 func230 Z fun h=>zSR (qw h Z Z fun _ _ h=>qw h Z Z fun _ _ h=>qp qa h Z Z Z fun _ _ h=>X4 13 2 1 2 1 h Z (r_v (qaf qa [0,1] [.tmp 9,.tmp 14] Z Z Z Z Z Z Z Z) Z (zs 0 h Z fun _ h=>qcU ?_)));obtain rfl:=qb F;exact qX qa (ρ:=qc) [GoT.v qc [.int .i64 (if t.Am<s.Am then t.Am else s.Am),.int .i64 (if t.Au > s.Au then t.Au else s.Au)]] h ⟨⟨_,_,_,rfl,rfl,h.box 0 Z,rfl⟩,trivial⟩ (PV.done h (qad (qy (S:=fun _=>False) (qB (⟨(if t.Am<s.Am then t.Am else s.Am),(if t.Au > s.Au then t.Au else s.Au)⟩:qc)))))
def qdC (n:Nat)(s:qf)(reached:Bool)(arrival:qc)(slew:qc):Option (qf×Bool):=
 bif (!reached) then V ((⟨s.Bm,(⟨arrival.Am,arrival.Au⟩:qc),(⟨slew.Am,slew.Au⟩:qc)⟩:qf),true) else
 (qhF n (⟨s.Ac.Am,s.Ac.Au⟩:qc) arrival).bind fun a=>
 (qhF n (⟨s.Aq.Am,s.Aq.Au⟩:qc) slew).bind fun b=>
 V ((⟨s.Bm,(⟨a.Am,a.Au⟩:qc),(⟨b.Am,b.Au⟩:qc)⟩:qf),reached)
theorem qhY {n:Nat}{i w:World}{F:List Ch}{a:Nat}{s:qf}{b:Nat}{reached:Bool}{arrival:qc}{slew:qc}(h:SH i w (Ch.box b [.bool reached] 4::Ch.box a (qf5 s) 95::F)){r:(qf×Bool)}(hF:qdC n s reached arrival slew=V r):RetU prog 163 [.pointer (V ⟨a,0,U⟩),.pointer (V ⟨b,0,U⟩),.agg #[.int .i64 arrival.Am,.int .i64 arrival.Au],.agg #[.int .i64 slew.Am,.int .i64 slew.Au]] w (fun w'=>SH i w' (Ch.box b [.bool r.2] 4::Ch.box a (qf5 r.1) 95::F)):=by
 refine qvG func163 Z (m:=40) Z Z (zSR (qw h Z Z fun _ _ h=>qw h Z Z fun _ _ h=>X1 9 2 h Z (qi Z hF ?_ ?_)))<;>intro hF
 ·refine qcx (rA [] [0,1] h Z fun _ h=>M2 63 [0,1,2,3,4,5] 1 0 (h.pick [0,1] Z) Z (Ao 6 127 Z (zs 2 h Z fun _ h=>G0 511 [7,8] (h.pick [0,1] Z) Z (Ao 9 1023 Z (zs 3 h Z fun _ h=>G0 4095 [10,11] (h.pick [0,1] Z) Z (Ao 12 8191 Z (zs 3 h Z fun _ h=>Ag (h.pick [0,1] Z) (Ad ?_))))))));obtain rfl:=qb hF;replace h:=h.pickT 4 [2,3] Z;exact qAS qa h trivial
 refine qhD ?_;obtain⟨f,c,hF⟩:=qd hF;obtain⟨g,d,hF⟩:=qd hF;refine qaT (fun e w'=>e=[]∧SH i w' (Ch.box b [.bool reached] 4::Ch.box a [.int .i64 s.Bm,.int .i64 f.Am,.int .i64 f.Au,.int .i64 g.Am,.int .i64 g.Au] 95::F)) ?_ ?_
 ·refine rA [] [0,1] h Z fun _ h=>M2 5983 [0,1,2,3,4,6,8,9,10,12] 1 0 (h.pick [0,1] Z) Z (At 5 11 6015 8031 Z ?_ ?_)
  ·refine zl 3 1 h Z (Ag (h.pick [0,1] Z) (At 7 11 6143 8063 Z ?_ ?_))
   ·refine qeC f h (cB 230 Z) (qd0 (qB _) (qB arrival) c) Z Z Z Z fun _ _ _ h=>?_;obtain rfl:=qu (h.own 0 Z);refine Ag (h.pick [1,2] Z) (Ao 11 8191 Z (zl 4 3 h Z (Ag (h.pick [1,2] Z) (Ao 13 16383 Z (qeC g h (cB 230 Z) (qd0 (qB _) (qB slew) d) Z Z Z Z fun _ _ _ h=>?_)))));obtain rfl:=qu (h.own 0 Z);refine G0 65535 [14,15] (h.pick [2,3] Z) Z (Ao 16 131071 Z (zs 5 h Z fun _ h=>G0 524287 [17,18] (h.pick [2,3] Z) Z (Ao 19 1048575 Z (zs 5 h Z fun _ h=>Ag (h.pick [2,3] Z) (Ad ?_)))));replace h:=h.pickT 6 [4,5] Z;exact rG ⟨rfl,h⟩ Z
   refine zl 3 3 h Z (Ag (h.pick [0,1] Z) (Ao 7 8191 Z (qeC f h (cB 230 Z) (qd0 (qB _) (qB arrival) c) Z Z Z Z fun _ _ _ h=>?_)));obtain rfl:=qu (h.own 0 Z);refine Ag (h.pick [1,2] Z) (Ao 13 16383 Z (qeC g h (cB 230 Z) (qd0 (qB _) (qB slew) d) Z Z Z Z fun _ _ _ h=>?_));obtain rfl:=qu (h.own 0 Z);refine G0 65535 [14,15] (h.pick [2,3] Z) Z (Ao 16 131071 Z (zs 5 h Z fun _ h=>G0 524287 [17,18] (h.pick [2,3] Z) Z (Ao 19 1048575 Z (zs 5 h Z fun _ h=>Ag (h.pick [2,3] Z) (Ad ?_)))));replace h:=h.pickT 6 [4,5] Z;exact rG ⟨rfl,h⟩ Z
  refine zl 3 3 h Z (Ag (h.pick [0,1] Z) (Ao 5 8063 Z (zl 3 1 h Z (Ag (h.pick [0,1] Z) (Ao 7 8191 Z (qeC f h (cB 230 Z) (qd0 (qB _) (qB arrival) c) Z Z Z Z fun _ _ _ h=>?_))))));obtain rfl:=qu (h.own 0 Z);refine Ag (h.pick [1,2] Z) (Ao 13 16383 Z (qeC g h (cB 230 Z) (qd0 (qB _) (qB slew) d) Z Z Z Z fun _ _ _ h=>?_));obtain rfl:=qu (h.own 0 Z);refine G0 65535 [14,15] (h.pick [2,3] Z) Z (Ao 16 131071 Z (zs 5 h Z fun _ h=>G0 524287 [17,18] (h.pick [2,3] Z) Z (Ao 19 1048575 Z (zs 5 h Z fun _ h=>Ag (h.pick [2,3] Z) (Ad ?_)))));replace h:=h.pickT 6 [4,5] Z;exact rG ⟨rfl,h⟩ Z
 rintro _ _ ⟨rfl,h⟩;obtain rfl:=qb hF;exact qAV qa h trivial
def qkT (_:Nat)(l:qv)(a:Int):Option Bool:=
 V (l.To==a)
theorem qpw {l:qv}{g:Int}(a:Ro w l cs1){f:Option Addr}(b:Ro w (V g) [.pointer f]){r:Bool}(F:qkT n l g=V r):RetV prog 231 [GoT.v qv cs1,.pointer f] w r:=by
 obtain rfl:=qbd a;obtain⟨_,i,_,rfl,-,d,c⟩:=PtR.get b Z;obtain rfl:=d;exact zV 8 func231 Z fun h=>zSR (qw h Z Z fun _ _ h=>X1 6 0 h Z (zc 0 (c.below h.below) Z (X0 3 Z (rb h F Z))))
def qO (is_0:Int)(d:Tgraph)(b:Tview):Nat→(List Int)→Int→Option ((List Int)×Int)
 | 0,_,_=>U
 | n+1,c,a=>
  bif decide (a<(b.links.length:Int)) then
   (idx b.links a).bind fun h=>
   (idx d.live a).bind fun i=>
   bif i then
    (qkT n h is_0).bind fun f=>
    bif f then
     (appS c ([a]:List Int)).bind fun g=>
     qO is_0 d b n g (W64 (a+1))
    else
     qO is_0 d b n c (W64 (a+1))
   else
    qO is_0 d b n c (W64 (a+1))
  else
   V (c,a)
def qcT (n:Nat)(g:(Option Tgraph))(is_0:Int):Option (List Int):=
 (g).bind fun a=>
 (a.view).bind fun c=>
 (qO is_0 a c n ([]:List Int) 0).bind fun o=>match o with
 | (b,_)=>
  V b
theorem qix {g:(Option Tgraph)}{is_0:Int}(o:Ro w g cs1){S:Option Addr}(f:Ro w (V is_0) [.pointer S]){r:(List Int)}(F:qcT n g is_0=V r):RetV prog 223 [GoT.v (Option Tgraph) cs1,.func (.func 231) #[] #[.pointer S]] w r:=by
 obtain⟨_,rfl,s1⟩:=qbV o;obtain⟨b1,L,_,rfl,-,C,_⟩:=PtR.get f Z;obtain rfl:=C;refine zV 39 func223 Z fun h=>X0 12 Z ?_;obtain⟨y1,J,F⟩:=qd F;obtain⟨b2,M,_,rfl,-,D,i⟩:=PtR.get s1 J;obtain⟨_,_,_,rfl,s2,s3⟩:=qjf D;refine zp2 Z (zc 0 (i.below h.below) Z ?_);obtain⟨Q,K,F⟩:=qd F;obtain⟨_,Y,_,rfl,-,H,p⟩:=PtR.get s2 K;obtain⟨_,_,_,_,_,_,_,_,_,_,_,_,N,W,_,_,_,_,_,_,rfl,_,_,_,_,_,_,O,_,_,_⟩:=qcB H;refine zp2 Z (zc 6 (p.below h.below) Z (X0 3 Z ?_));replace h:=h.nil (α:=Int);obtain⟨X,F,l⟩:=qd F;refine qn (rL (fun m e w'=>∃(S1:Nat→Prop) (d:Option Addr) (c:Nat) (b:Nat) (P:(List Int)) (k:Int),qO is_0 y1 Q m P k=V X∧e=[(0,.pointer (V ⟨b2,M,U⟩)),(1,.func (.func 231) #[] #[.pointer (V ⟨b1,L,U⟩)]),(5,.slice d c b),(14,.slice N Q.links.length W),(15,.int .i64 (Q.links.length:Int)),(16,.int .i64 k)]∧SH w w' [Ch.own S1 (P:List Int) [.slice d c b]]) n ⟨_,_,_,_,_,_,F,rfl,h⟩ Z ?_);rintro R _ _ ⟨S1,d,c,b,P,k,F,rfl,h⟩;obtain rfl:=(h.sl 0 Z).2;rcases R with _|R
 ·cases F
 refine X0 5 Z (qi Z F ?_ ?_)<;>intro F
 ·refine X0 6 Z ?_;obtain⟨y3,_,F,v,_,_,_,_,y,A,I,s⟩:=O.ix F;obtain rfl:=qbd I;refine zxe y A v Z (zc 0 (s.below h.below) Z (qp qa h Z Z Z fun _ _ h=>zp1 Z (zs 0 h Z fun _ h=>X0 6 Z (zc 1 (i.below h.below) Z (zp1 Z ?_)))));obtain⟨_,_,F,x,_,_,_,_,z,B,rfl,u⟩:=s3.ix F;refine zxe z B x Z (zc 0 (u.below h.below) Z (zp1 Z (qj (t:=28) F Z ?_ ?_)))<;>intro F
  ·refine X1 5 0 h Z (zcB h F (qpw (qcm y3) (h.old f)) Z fun _ _ h F=>X0 2 Z (qi Z F ?_ ?_))<;>intro F
   ·refine X0 3 Z (qG qa [.tmp 34] _ ([k]:List Int) h Z Z Z Z Z Z Z Z Z ⟨rfl,trivial⟩ Z fun _ _ _ h=>?_);obtain⟨_,a,F⟩:=qd F;obtain⟨T,a⟩:=qaD a;refine qcs qa 2 h Z (h.sl 0 Z).1 (h.sl 0 Z).2 Z Z Z Z Z Z Z Z Z T a Z fun _ _ _ _ h=>X0 7 Z ?_;replace h:=h.pick [2] Z;exact rK ⟨_,_,_,_,_,_,F,rfl,h⟩ Z
   refine X0 6 Z ?_;replace h:=h.pick [1] Z;exact rK ⟨_,_,_,_,_,_,F,rfl,h⟩ Z
  refine X0 5 Z (qbL Z Z (X0 6 Z ?_));replace h:=h.pick [1] Z;exact rK ⟨_,_,_,_,_,_,F,rfl,h⟩ Z
 refine qr Z ?_;obtain rfl:=qb F;replace F:=l;refine X0 5 Z ?_;obtain rfl:=qb F;exact rO 0 h Z ⟨rfl,trivial⟩
def qkk (n:Nat)(g:(Option Tgraph))(node:Int):Option (List Int):=
 (qcT n g node).bind fun a=>
 V a
theorem qqG {g:(Option Tgraph)}{node:Int}(a:Ro w g cs1){r:(List Int)}(F:qkk n g node=V r):RetV prog 164 [GoT.v (Option Tgraph) cs1,.int .i64 node] w r:=by
 obtain⟨_,rfl,b⟩:=qbV a;refine zV 8 func164 Z fun h=>zSR (qw h Z Z fun _ _ h=>X0 6 Z (zcL h F (qix (h.old b) (qcW (x:=node) 0 h Z Z)) Z fun _ _ _ _ _ h F=>X0 2 Z ?_));obtain rfl:=qb F;exact rO 0 h Z ⟨rfl,trivial⟩
def qfu (_:Nat)(v:(Option Tview))(l:qv):Option Int:=
 (v).bind fun a=>
 (idx a.places (W64 (l.To.tdiv 2))).bind fun b=>
 V b.net
theorem qi1 {v:(Option Tview)}{l:qv}(a:Ro w v cs1)(b:Ro w l cs2){r:Int}(F:qfu n v l=V r):RetV prog 233 [GoT.v (Option Tview) cs1,GoT.v qv cs2] w r:=by
 obtain⟨_,rfl,s⟩:=qbV a;obtain rfl:=qbd b;refine zV 15 func233 Z fun h=>zSR (qw h Z Z fun _ _ h=>X0 3 Z (rD (zd1 Z ?_)));obtain⟨_,o,F⟩:=qd F;obtain⟨_,p,_,rfl,-,k,c⟩:=PtR.get s o;obtain⟨_,_,_,_,_,_,_,_,_,_,_,_,_,_,_,_,_,_,_,_,rfl,_,_,_,_,_,t,_,_,_,_⟩:=qcB k;refine zd2 Z (zdc 5 (c.below h.below) Z (Y1 2 0 h Z ?_));refine zd1 Z ?_;obtain⟨_,_,F,f,_,_,_,_,g,i,m,d⟩:=t.ix F;obtain rfl:=qfL m;exact zdxe g i f Z (zd1 Z (zdc 2 (d.below h.below) Z (zd1 Z (dN h fun _ h=>ri h F Z))))
def qgV (_:Nat)(v:(Option Tview))(l:qv):Option qL:=
 (v).bind fun a=>
 (idx a.places (W64 (l.To.tdiv 2))).bind fun b=>
 (idx a.Bv.Aa.Ab b.instance_).bind fun c=>
 (idx a.Bv.Ar.Ap c.Bo).bind fun d=>
 (idx d.As l.Bw).bind fun f=>
 V f
theorem qlZ {A:Nat→Prop}(hA:∀ b,A b→old w b){v:(Option Tview)}{l:qv}(k:GoT.R w A v cs1)(o:GoT.R w A l cs2){r:qL}(F:qgV n v l=V r):RetG prog 276 [GoT.v (Option Tview) cs1,GoT.v qv cs2] w A r:=by
 obtain⟨_,rfl,s1⟩:=qbV k;obtain rfl:=qbd o;have hg:=Rg.start hA;refine qrn func276 Z (m:=39) Z Z (fun h=>?_);refine zSR (qw h Z Z fun _ _ h=>qp qa h Z Z Z fun _ _ h=>zNS (rA [] [1] h Z fun _ h=>M0 1 [0] (h.pick [1] Z) Z ?_));obtain⟨_,T,F⟩:=qd F;obtain⟨_,e,_,rfl,-,N,a⟩:=PtR.get s1 T;obtain⟨_,_,_,_,_,_,_,_,_,_,_,_,_,_,_,_,_,_,_,_,rfl,s2,s3,_,_,_,s7,_,_,_,_⟩:=qcB N;refine M0 31 [1,2,3,4] (h.pick [1] Z) Z (Al 5 63 1 a (h.pick [1] Z) Z (M0 511 [6,7,8] (h.pick [1] Z) Z (Al 9 1023 5 a (h.pick [1] Z) Z (M1 8191 [10,11,12] 0 (h.pick [1] Z) Z ?_))));obtain⟨_,_,F,x,_,_,_,_,C,J,O,p⟩:=s7.ix F;obtain rfl:=qfL O;refine Ae 13 16383 C J x (h.pick [1] Z) Z (M0 32767 [14] (h.pick [1] Z) Z (Al 15 65535 0 p (h.pick [1] Z) Z ?_));obtain⟨_,_,F,y,_,_,_,_,D,K,P,s⟩:=s3.ix F;obtain⟨_,_,rfl,_⟩:=qW P;refine Ae 16 131071 D K y (h.pick [1] Z) Z (Al 17 262143 0 s (h.pick [1] Z) Z (Ao 18 524287 Z (qp qa h Z Z Z fun _ _ h=>Ag (h.pick [2] Z) (Ao 19 1048575 Z (zs 0 h Z fun _ h=>Ag (h.pick [2] Z) (Ad (qcx (rA [] [0,2] h Z fun _ h=>M0 31 [0,1,2,3,4] (h.pick [0,2] Z) Z (Al 5 63 0 a (h.pick [0,2] Z) Z (M1 255 [6,7] 0 (h.pick [0,2] Z) Z ?_))))))))));obtain⟨_,_,F,z,_,_,_,_,H,L,Q,t⟩:=s2.ix F;obtain⟨_,_,_,_,_,_,rfl,_,W,_⟩:=qal Q;refine Ae 8 511 H L z (h.pick [0,2] Z) Z (M0 1023 [9] (h.pick [0,2] Z) Z (Al 10 2047 3 t (h.pick [0,2] Z) Z (M1 8191 [11,12] 1 (h.pick [0,2] Z) Z ?_)));obtain⟨i,_,F,B,_,_,_,_,I,M,R,u⟩:=W.ix F;obtain⟨f,c,g,d,rfl,X,Y⟩:=qaq R;refine Ae 13 16383 I M B (h.pick [0,2] Z) Z (Al 14 32767 0 u (h.pick [0,2] Z) Z (Ao 15 65535 Z (zs 1 h Z fun _ h=>Ag (h.pick [0,2] Z) (Ad ?_))));obtain rfl:=qb F;have S:GoRs.Rs (ρ:=qL) h.wc (reg A w h.wc) i [GoT.v qL (qh3 i f g c d)]:=⟨_,rfl,(hg.outR h (qgo i (hg.inS h X) (hg.inS h Y)))⟩;exact qy6 qa (ρ:=qL) (r:=i) [GoT.v qL (qh3 i f g c d)] h ⟨⟨_,_,_,rfl,rfl,h.box 1 Z,rfl⟩,trivial⟩ S
def qfK (_:Nat)(a:Int)(b:Int)(mode:Int):Option Int:=
 (quoS a b).bind fun c=>
 (remS a b).bind fun d=>
 (
  bif (mode==0) then V (decide (d<0)) else
  V false).bind fun b1=>
 bif b1 then V (W64 (c-1)) else
 bif (mode==1) then
  bif decide (d > 0) then V (W64 (c+1)) else
  V c
 else
  V c
theorem qjQ {a:Int}{b:Int}{mode:Int}  {r:Int}(F:qfK n a b mode=V r):RetV prog 278 [.int .i64 a,.int .i64 b,.int .i64 mode] w r:=by
 refine zV 34 func278 Z fun h=>X0 5 Z (rD (zd2 Z ?_));obtain⟨m,c,F⟩:=qd F;obtain⟨k,c⟩:=qt0 c;refine d_v (fun _ hb=>qAG k Z Z) Z ?_;rw[c];refine zd2 Z ?_;obtain⟨o,d,F⟩:=qd F;obtain⟨l,d⟩:=qtW d;refine d_v (fun _ hb=>qAF l Z Z) Z ?_;rw[d];refine zd2 Z (dN h fun _ h=>X0 3 Z ?_);obtain⟨i,g,_,F,f⟩:=bindE F;refine qaT (fun e w'=>∃(b1:Bool),i b1=V r∧e=[(2,.int .i64 mode),(7,.int .i64 m),(8,.int .i64 o),(15,.bool b1)]∧SH w w' []) ?_ ?_
 ·refine X0 4 Z (qj (t:=18) F Z ?_ ?_)<;>intro F
  ·refine X0 7 Z ?_;obtain rfl:=qb F;exact rG ⟨_,f,rfl,h⟩ Z
  refine X0 5 Z ?_;obtain rfl:=qb F;exact rG ⟨_,f,rfl,h⟩ Z
 rintro _ _ ⟨b1,F,rfl,h⟩;subst g;refine qi Z F ?_ ?_<;>intro F
 ·exact X0 6 Z (ri h F Z)
 refine X0 5 Z (qj (t:=27) F Z ?_ ?_)<;>intro F
 ·refine X0 7 Z (qi Z F ?_ ?_)<;>intro F
  ·exact X0 6 Z (ri h F Z)
  exact X0 7 Z (ri h F Z)
 exact X0 5 Z (qbL Z Z (X0 7 Z (ri h F Z)))
def qlB (n:Nat)(x:Int)(y:Int):Option Bool:=
 (qeh n x).bind fun a=>
 bif a then
  (qeh n y).bind fun b=>
  bif (!b) then V true else
  V (decide (x<y))
 else
  V (decide (x<y))
theorem qpN {x:Int}{y:Int}  {r:Bool}(F:qlB n x y=V r):RetV prog 177 [.int .i64 x,.int .i64 y] w r:=by
 refine zV 17 func177 Z fun h=>X0 7 Z (zcB h F qgH Z fun _ _ h F=>zp1 Z (qj (t:=7) F Z ?_ ?_))<;>intro F
 ·refine X0 3 Z (zcB h F qgH Z fun _ _ h F=>X0 4 Z (qj (t:=12) F Z ?_ ?_))<;>intro F
  ·exact X0 6 Z (rb h F Z)
  exact X0 9 Z (rb h F Z)
 exact X0 14 Z (rb h F Z)
def qgO (_:Nat)(x:Int):Option Bool:=
 V (x != x)
theorem qjS {x:Int}  {r:Bool}(F:qgO n x=V r):RetV prog 332 [.int .i64 x] w r:=by
 exact zV 6 func332 Z fun h=>X0 11 Z (rb h F Z)
def qaG (x:(List Int))(target:Int):Nat→Int→Int→Option (Int×Int)
 | 0,_,_=>U
 | n+1,a,b=>
  bif decide (a<b) then
   (shrS .u64 (IntKind.wrap .u64 (W64 (a+b))) 1).bind fun c=>
   (idx x (W64 c)).bind fun f=>
   (qlB n f target).bind fun d=>
   bif d then qaG x target n (W64 ((W64 c)+1)) b else
   qaG x target n a (W64 c)
  else
   V (a,b)
def qdp (n:Nat)(x:(List Int))(target:Int):Option (Int×Bool):=
 (qaG x target n 0 (x.length:Int)).bind fun o=>match o with
 | (a,_)=>
  bif decide (a<(x.length:Int)) then
   (idx x a).bind fun d=>
   bif (d==target) then V (a,true) else
   (idx x a).bind fun f=>
   (qgO n f).bind fun b=>
   bif b then
    (qgO n target).bind fun c=>
    V (a,c)
   else
    V (a,false)
  else
   V (a,false)
theorem qkX {x:(List Int)}{target:Int}(d:Ro w x cs1){r:(Int×Bool)}(F:qdp n x target=V r):RetV prog 321 [GoT.v (List Int) cs1,.int .i64 target] w r:=by
 obtain⟨J,H,rfl,B⟩:=d;refine zV 54 func321 Z fun h=>X0 18 Z ?_;obtain⟨I,F,c⟩:=qd F;refine qn (rL (fun m e w'=>∃(b:Int) (A:Int),qaG x target m b A=V I∧e=[(0,.slice J x.length H),(1,.int .i64 target),(6,.int .i64 (x.length:Int)),(7,.int .i64 b),(8,.int .i64 A)]∧SH w w' []) n ⟨_,_,F,rfl,h⟩ Z ?_);rintro C _ _ ⟨b,A,F,rfl,h⟩;rcases C with _|C
 ·cases F
 refine X0 7 Z (qi Z F ?_ ?_)<;>intro F
 ·refine X0 8 Z ?_;obtain⟨_,a,F⟩:=qd F;obtain⟨D,a⟩:=qxI a;refine r_v (qBo D Z Z) Z ?_;rw[a];refine X0 7 Z ?_;obtain⟨_,_,F,k,_,_,_,_,p,v,rfl,f⟩:=B.ix F;refine zxe p v k Z (zc 0 (f.below h.below) Z (zp1 Z (zcB h F qpN Z fun _ _ h F=>qcU (qi Z F ?_ ?_))))<;>intro F
  ·exact X0 6 Z (rK ⟨_,_,F,rfl,h⟩ Z)
  exact X0 5 Z (rK ⟨_,_,F,rfl,h⟩ Z)
 refine qr Z ?_;obtain rfl:=qb F;replace F:=c;refine X0 7 Z (qj (t:=35) F Z ?_ ?_)<;>intro F
 ·refine X0 5 Z ?_;obtain⟨_,_,F,l,_,_,_,_,s,y,rfl,g⟩:=B.ix F;refine zxe s y l Z (X0 1 Z (zc 0 (g.below h.below) Z (X0 6 Z (qj (t:=42) F Z ?_ ?_))))<;>intro F
  ·refine X0 15 Z ?_;obtain rfl:=qb F;exact qX qa (ρ:=(Int×Bool)) [GoT.v Int [.int .i64 b],GoT.v Bool [.bool true]] h ⟨rfl,rfl,trivial⟩ (PV.done h (qP h (qy (S:=fun _=>False) Z) (qad (qy (S:=fun _=>False) Z)) (by rfl)))
  refine X0 5 Z ?_;obtain⟨_,_,F,o,_,_,_,_,u,z,rfl,i⟩:=B.ix F;refine zxe u z o Z (X0 1 Z (zc 0 (i.below h.below) Z (X0 1 Z (zcB h F qjS Z fun _ _ h F=>X0 2 Z (qj (t:=48) F Z ?_ ?_)))))<;>intro F
  ·refine X0 3 Z (zcB h F qjS Z fun K _ h F=>X0 8 Z ?_);obtain rfl:=qb F;exact qX qa (ρ:=(Int×Bool)) [GoT.v Int [.int .i64 b],GoT.v Bool [.bool K]] h ⟨rfl,rfl,trivial⟩ (PV.done h (qP h (qy (S:=fun _=>False) Z) (qad (qy (S:=fun _=>False) Z)) (by rfl)))
  refine X0 10 Z ?_;obtain rfl:=qb F;exact qX qa (ρ:=(Int×Bool)) [GoT.v Int [.int .i64 b],GoT.v Bool [.bool false]] h ⟨rfl,rfl,trivial⟩ (PV.done h (qP h (qy (S:=fun _=>False) Z) (qad (qy (S:=fun _=>False) Z)) (by rfl)))
 refine X0 21 Z ?_;obtain rfl:=qb F;exact qX qa (ρ:=(Int×Bool)) [GoT.v Int [.int .i64 b],GoT.v Bool [.bool false]] h ⟨rfl,rfl,trivial⟩ (PV.done h (qP h (qy (S:=fun _=>False) Z) (qad (qy (S:=fun _=>False) Z)) (by rfl)))
def qio (n:Nat)(axis:(List Int))(x:Int):Option ((List Tweight)×Int):=
 (idx axis 0).bind fun a=>
 (idx axis (W64 ((axis.length:Int)-1))).bind fun c=>
 (qdp n axis (if c<(if a > x then a else x) then c else(if a > x then a else x))).bind fun o=>match o with
  | (b,d)=>
   bif d then V (([(⟨b,1⟩:Tweight)]:List Tweight),1) else
   (idx axis b).bind fun f=>
   (idx axis (W64 (b-1))).bind fun g=>
   (idx axis b).bind fun h=>
   (idx axis (W64 (b-1))).bind fun i=>
   V (([(⟨W64 (b-1),W64 (f-(if c<(if a > x then a else x) then c else(if a > x then a else x)))⟩:Tweight),(⟨b,W64 ((if c<(if a > x then a else x) then c else(if a > x then a else x))-g)⟩:Tweight)]:List Tweight),W64 (h-i))
theorem qnY {axis:(List Int)}{x:Int}(f:Ro w axis cs1){r:((List Tweight)×Int)}(F:qio n axis x=V r):RetV prog 303 [GoT.v (List Int) cs1,.int .i64 x] w r:=by
 obtain⟨_,_,rfl,d⟩:=f;refine zV 59 func303 Z fun h=>X0 6 Z (rD (zd2 Z ?_));obtain⟨a,_,F,p,_,_,_,_,z,I,rfl,g⟩:=d.ix F;refine zdxe z I p Z (zdc 0 (g.below h.below) Z (zd5 Z ?_));obtain⟨b,_,F,s,_,_,_,_,A,J,rfl,i⟩:=d.ix F;refine zdxe A J s Z (zdc 0 (i.below h.below) Z (zd2 Z (dN h fun _ h=>X0 4 Z ?_)));obtain⟨r1,O,F⟩:=qd F;obtain⟨c,r3⟩:=r1;refine qaF (c,r3) h (cB 321 Z) (qkX ⟨_,_,rfl,(h.oldS d)⟩ O) Z Z Z Z fun _ _ _ R P=>?_;obtain⟨_,_,rfl,T,Q⟩:=R.consI P;obtain⟨rfl,h⟩:=T.lastB Q;refine X0 11 Z (qi Z F ?_ ?_)<;>intro F
 ·refine X0 3 Z (r_v (qaf qa [0,1] [.tmp 27,.const (.int .i64 (1))] Z Z Z Z Z Z Z Z) Z (qG qa [.tmp 28] _ ([(⟨c,1⟩:Tweight)]:List Tweight) h Z Z Z Z Z Z Z Z Z ⟨(qos (⟨c,1⟩:Tweight)),trivial⟩ Z fun _ Y _ h=>X0 3 Z ?_));obtain rfl:=qb F;exact qX qa (ρ:=((List Tweight)×Int)) [GoT.v (List Tweight) [.slice Y 1 1],GoT.v Int [.int .i64 1]] h ⟨rfl,rfl,trivial⟩ (PV.done h (qP h (qak 0 h Z) (qad (qy (S:=fun _=>False) Z)) (by rfl)))
 refine zKS (rA [] [] h Z fun _ h=>M0 15 [0,1,2,3] (h.pick [] Z) Z ?_);obtain⟨W,_,F,t,_,_,_,_,B,K,rfl,k⟩:=d.ix F;refine Ae 4 31 B K t (h.pick [] Z) Z (Al 5 63 0 k (h.pick [] Z) Z (M0 255 [6,7] (h.pick [] Z) Z (Aw 8 511 (fun w' hw=>qaf qa [0,1] [.tmp 31,.tmp 37] Z Z Z Z Z Z Z Z) (h.pick [] Z) Z ?_)));refine M0 16383 [9,10,11,12,13] (h.pick [] Z) Z ?_;obtain⟨X,_,F,u,_,_,_,_,C,L,rfl,l⟩:=d.ix F;refine Ae 14 32767 C L u (h.pick [] Z) Z (Al 15 65535 0 l (h.pick [] Z) Z (M0 131071 [16] (h.pick [] Z) Z (Aw 17 262143 (fun w' hw=>qaf qa [0,1] [.tmp 39,.tmp 46] Z Z Z Z Z Z Z Z) (h.pick [] Z) Z ?_)));refine M0 1835007 [19,20] (h.pick [] Z) Z ?_;obtain⟨y5,_,F,v,_,_,_,_,D,M,rfl,m⟩:=d.ix F;refine Ae 21 3932159 D M v (h.pick [] Z) Z (Al 22 8126463 0 m (h.pick [] Z) Z (M0 66846719 [23,24,25] (h.pick [] Z) Z ?_));obtain⟨y6,_,F,y,_,_,_,_,H,N,rfl,o⟩:=d.ix F;refine Ae 26 133955583 H N y (h.pick [] Z) Z (Al 27 268173311 0 o (h.pick [] Z) Z (M0 536608767 [28] (h.pick [] Z) Z (Ao 18 536870911 Z (qG qa [.tmp 38,.tmp 47] _ ([(⟨W64 (c-1),W64 (W-(if b<(if a > x then a else x) then b else(if a > x then a else x)))⟩:Tweight),(⟨c,W64 ((if b<(if a > x then a else x) then b else(if a > x then a else x))-X)⟩:Tweight)]:List Tweight) h Z Z Z Z Z Z Z Z Z ⟨(qos (⟨W64 (c-1),W64 (W-(if b<(if a > x then a else x) then b else(if a > x then a else x)))⟩:Tweight)),(qos (⟨c,W64 ((if b<(if a > x then a else x) then b else(if a > x then a else x))-X)⟩:Tweight)),trivial⟩ Z fun _ e _ h=>G0 2147483647 [29,30] (h.pick [] Z) Z (Ad ?_)))));obtain rfl:=qb F;exact qX qa (ρ:=((List Tweight)×Int)) [GoT.v (List Tweight) [.slice e 2 2],GoT.v Int [.int .i64 (W64 (y5-y6))]] h ⟨rfl,rfl,trivial⟩ (PV.done h (qP h (qak 0 h Z) (qad (qy (S:=fun _=>False) Z)) (by rfl)))
def qbi (a:qx)(c:(List Tweight))(d:Tweight):Nat→Int→Int→Option (Int×Int)
 | 0,_,_=>U
 | n+1,f,b=>
  bif decide (b<(c.length:Int)) then
   (idx c b).bind fun g=>
   (idx a.Ba (W64 ((W64 (d.index*(a.Bb.length:Int)))+g.index))).bind fun h=>
   qbi a c d n (W64 (f+(W64 ((W64 (h*d.part))*g.part)))) (W64 (b+1))
  else
   V (f,b)
def qbj (a:qx)(c:(List Tweight))(f:(List Tweight)):Nat→Int→Int→Option (Int×Int)
 | 0,_,_=>U
 | n+1,d,b=>
  bif decide (b<(c.length:Int)) then
   (idx c b).bind fun h=>
   (qbi a f h n d 0).bind fun o=>match o with
   | (g,_)=>
    qbj a c f n g (W64 (b+1))
  else
   V (d,b)
def qea (n:Nat)(a:qx)(b:Int)(c:Int)(d:Int):Option Int:=
 (qio n a.Bi b).bind fun o=>match o with
  | (g,h)=>
   (qio n a.Bb c).bind fun o=>match o with
    | (i,k)=>
     (qbj a g i n 0 0).bind fun o=>match o with
     | (f,_)=>
      (qfK n f (W64 (h*k)) d).bind fun l=>
      V l
theorem qkC {a:qx}{g:Int}{i:Int}{d:Int}(A:Ro w a cs1){r:Int}(F:qea n a g i d=V r):RetV prog 277 [GoT.v qx cs1,.int .i64 g,.int .i64 i,.int .i64 d] w r:=by
 obtain⟨p1,k1,p2,k2,p3,k3,rfl,s1,s2,s3⟩:=qaK A;refine zV 73 func277 Z fun h=>zSR (qw h Z Z fun _ f h=>X1 7 0 h Z ?_);obtain⟨r1,O,F⟩:=qd F;obtain⟨c,r3⟩:=r1;refine qaF (c,r3) h (cB 303 Z) (qnY ⟨_,_,rfl,(h.oldS s1)⟩ O) Z Z Z Z fun _ _ _ X P=>?_;obtain⟨S2,_,x,v,_,rfl,Y,Q⟩:=X.consL P;obtain⟨rfl,h⟩:=Y.lastI Q;refine X1 11 1 h Z ?_;obtain⟨r4,R,F⟩:=qd F;obtain⟨b,r6⟩:=r4;refine qaF (b,r6) h (cB 303 Z) (qnY ⟨_,_,rfl,(h.oldS s2)⟩ R) Z Z Z Z fun _ _ _ a3 S=>?_;obtain⟨S6,_,t,s,_,rfl,a4,T⟩:=a3.consL S;obtain⟨rfl,h⟩:=a4.lastI T;refine X0 17 Z ?_;obtain⟨o1,F,y⟩:=qd F;refine qn (rL (fun m e w'=>∃(i1:Int) (u:Int),qbj a c b m i1 u=V o1∧e=[(3,.int .i64 d),(4,.pointer (V ⟨f,0,U⟩)),(10,.int .i64 r3),(11,.slice t b.length s),(12,.int .i64 r6),(13,.int .i64 i1),(32,.slice x c.length v),(33,.int .i64 (c.length:Int)),(34,.int .i64 u)]∧SH w w' [Ch.own S6 (b:List Tweight) [.slice t b.length s],Ch.own S2 (c:List Tweight) [.slice x c.length v],Ch.box f (qhH a p1 p2 p3 k1 k2 k3) 142]) n ⟨_,_,F,rfl,h⟩ Z ?_);rintro m1 _ _ ⟨i1,u,F,rfl,h⟩;rcases m1 with _|m1
 ·cases F
 refine X0 5 Z (qi Z F ?_ ?_)<;>intro F
 ·refine zKSBSR ?_;obtain⟨y1,_,F,l,_,_,_,_,I,L,W,B⟩:=(h.sl 1 Z).1.ix F;obtain rfl:=qpK W;refine zx I L ⟨l.1,qD l.2.1 (h.sl 1 Z).2⟩ Z (zc 0 B Z (qp qa h Z Z Z fun _ k h=>zs 0 h Z fun _ h=>X0 7 Z ?_));obtain⟨o2,F,z⟩:=qd F;refine qn (rL (fun m e w'=>∃(i3:Int) (i4:Int),qbi a b y1 m i3 i4=V o2∧e=[(3,.int .i64 d),(4,.pointer (V ⟨f,0,U⟩)),(10,.int .i64 r3),(11,.slice t b.length s),(12,.int .i64 r6),(13,.int .i64 i3),(15,.pointer (V ⟨k,0,U⟩)),(32,.slice x c.length v),(33,.int .i64 (c.length:Int)),(34,.int .i64 u),(38,.slice t b.length s),(39,.int .i64 (b.length:Int)),(40,.int .i64 i4)]∧SH w w' [Ch.box k (qqZ y1) 377,Ch.own S6 (b:List Tweight) [.slice t b.length s],Ch.own S2 (c:List Tweight) [.slice x c.length v],Ch.box f (qhH a p1 p2 p3 k1 k2 k3) 142]) m1 ⟨_,_,F,rfl,h⟩ Z ?_);rintro m2 _ _ ⟨i3,i4,F,rfl,h⟩;rcases m2 with _|m2
  ·cases F
  refine X0 5 Z (qi Z F ?_ ?_)<;>intro F
  ·refine zKSBSR ?_;obtain⟨_,_,F,o,_,_,_,_,J,M,p,C⟩:=(h.sl 1 Z).1.ix F;obtain rfl:=qpK p;refine zx J M ⟨o.1,qD o.2.1 (h.sl 1 Z).2⟩ Z (zc 0 C Z (qp qa h Z Z Z fun _ _ h=>zs 0 h Z fun _ h=>qcU (rD (Y1 3 4 h Z ?_))));refine Y1 2 1 h Z ?_;refine Y1 2 4 h Z ?_;refine Y1 4 0 h Z ?_;refine zd1 Z ?_;obtain⟨_,_,F,H,_,_,_,_,K,N,rfl,D⟩:=s3.ix F;refine zdxe K N H Z (zdc 0 (D.below h.below) Z (Y1 2 1 h Z ?_));refine Y1 3 0 h Z ?_;refine zd3 Z (dN h fun _ h=>X0 5 Z ?_);replace h:=h.pick [1,2,3,4] Z;exact rK ⟨_,_,F,rfl,h⟩ Z
  refine qr Z ?_;obtain rfl:=qb F;replace F:=z;refine X0 5 Z ?_;replace h:=h.pick [1,2,3] Z;exact rK ⟨_,_,F,rfl,h⟩ Z
 refine qr Z ?_;obtain rfl:=qb F;replace F:=y;exact X0 7 Z (zcI h F qjQ Z fun _ _ h F=>X0 2 Z (ri h F Z))
def qlK (n:Nat)(t:Int)(thousandths:Int)(mode:Int):Option Int:=
 (qfK n (W64 (t*thousandths)) 1000 mode).bind fun a=>
 V a
theorem qpl {t:Int}{thousandths:Int}{mode:Int}  {r:Int}(F:qlK n t thousandths mode=V r):RetV prog 279 [.int .i64 t,.int .i64 thousandths,.int .i64 mode] w r:=by
 exact zV 12 func279 Z fun h=>X0 10 Z (zcI h F qjQ Z fun _ _ h F=>X0 2 Z (ri h F Z))
def qfe (_:Nat)(c:qz)(kind:Int)(mode:Int):Option Int:=
 (
  bif (kind==1) then V (mode==0) else
  V false).bind fun b1=>
 bif b1 then V c.Bc else
 bif (kind==1) then V c.Be else
 bif (mode==0) then V c.Bd else
 V c.Bh
theorem qjT {c:qz}{kind:Int}{mode:Int}(g:Ro w c cs1){r:Int}(F:qfe n c kind mode=V r):RetV prog 280 [GoT.v qz cs1,.int .i64 kind,.int .i64 mode] w r:=by
 obtain rfl:=qag g;refine zV 28 func280 Z fun h=>zSR (qw h Z Z fun _ a h=>X0 5 Z ?_);obtain⟨f,d,_,F,b⟩:=bindE F;refine qaT (fun e w'=>∃(b1:Bool),f b1=V r∧e=[(1,.int .i64 kind),(2,.int .i64 mode),(3,.pointer (V ⟨a,0,U⟩)),(7,.bool b1)]∧SH w w' [Ch.box a (qam c) 59]) ?_ ?_
 ·refine X0 4 Z (qj (t:=10) F Z ?_ ?_)<;>intro F
  ·refine X0 7 Z ?_;obtain rfl:=qb F;exact rG ⟨_,b,rfl,h⟩ Z
  refine X0 5 Z ?_;obtain rfl:=qb F;exact rG ⟨_,b,rfl,h⟩ Z
 rintro _ _ ⟨b1,F,rfl,h⟩;subst d;refine qi Z F ?_ ?_<;>intro F
 ·exact X1 6 0 h Z (ri h F Z)
 refine X0 6 Z (qi Z F ?_ ?_)<;>intro F
 ·exact X1 6 0 h Z (ri h F Z)
 refine X0 6 Z (qi Z F ?_ ?_)<;>intro F
 ·exact X1 6 0 h Z (ri h F Z)
 exact X1 8 0 h Z (ri h F Z)
def qcu (n:Nat)(b:(Option Tview))(d:qz)(f:Int)(g:Int)(a:Int):Option Int:=
 (b).bind fun h=>
 (idx h.links f).bind fun c=>
 (qfu n b c).bind fun i=>
 bif (c.Ay==1) then
  (idx h.loads i).bind fun t=>
  (qgV n b c).bind fun k=>
  (idx k.Bj (c.To.tmod 2)).bind fun u=>
  (qea n u g t a).bind fun l=>
  (qfe n d c.Ay a).bind fun m=>
  (qlK n l m a).bind fun o=>
  V o
 else
  (idx h.delays i).bind fun v=>
  (idx v c.Bw).bind fun x=>
  (qfK n x 1000 a).bind fun p=>
  (qfe n d c.Ay a).bind fun r=>
  (qlK n p r a).bind fun s=>
  V s
theorem qaE {k:(Option Tview)}{i:qz}{l:Int}{m:Int}{o:Int}(A:Ro w k cs1)(f:Ro w i cs2){r:Int}(F:qcu n k i l m o=V r):RetV prog 232 [GoT.v (Option Tview) cs1,GoT.v qz cs2,.int .i64 l,.int .i64 m,.int .i64 o] w r:=by
 obtain⟨_,rfl,s1⟩:=qbV A;obtain rfl:=qag f;refine zV 67 func232 Z fun h=>zSR (qw h Z Z fun _ _ h=>X0 5 Z ?_);obtain⟨_,a8,F⟩:=qd F;obtain⟨_,o_1,_,rfl,-,a3,g⟩:=PtR.get s1 a8;obtain⟨_,_,_,_,_,_,_,_,_,_,_,_,_,_,_,_,_,_,_,_,rfl,s2,s3,s4,s5,s6,s7,s8,s9,y,s11⟩:=qcB a3;refine zp2 Z (zc 6 (g.below h.below) Z (zp1 Z ?_));obtain⟨z,_,F,K,_,_,_,_,O,T,a4,B⟩:=s8.ix F;obtain rfl:=qbd a4;refine zxe O T K Z (zc 0 (B.below h.below) Z (qp qa h Z Z Z fun _ _ h=>zs 0 h Z fun _ h=>X1 5 0 h Z (zcI h F (qi1 (h.old s1) (qcm z)) Z fun _ _ h F=>X1 13 0 h Z (qi Z F ?_ ?_))))<;>intro F
 ·refine rA [] [0] h Z fun _ h=>M2 7795 [0,1,4,5,6,9,10,11,12] 0 0 (h.pick [0] Z) Z (Al 13 15987 7 g (h.pick [0] Z) Z (M0 32371 [14] (h.pick [0] Z) Z ?_));obtain⟨_,_,F,L,_,_,_,_,P,W,rfl,C⟩:=s9.ix F;refine Ae 15 65139 P W L (h.pick [0] Z) Z (Al 16 130675 0 C (h.pick [0] Z) Z (M0 261747 [17] (h.pick [0] Z) Z (Ao 2 261751 Z ?_)));have b:Rg (old w) w (old w) w:=.start (fun _ h=>h);obtain⟨r2,a5,F⟩:=qd F;refine qr3 r2 b h (cB 276 Z) (qlZ (b.regOld h) (b.inR h s1) (qcm z) a5) Z Z Z Z fun _ _ _ d a a9 a7=>?_;have hL1:=h.ext a.below;have D:=Up.box 0 h a Z;have ha3:=Up.boxP (x:=z) b 0 h a Z (qcm z);have H:=Up.box 1 h a Z;have s12:=Up.R b h a f;have ha4:=Up.boxP (x:=i) b 1 h a Z (b.inR h f);have hc7:=Up.C h a g;have s13:=Up.S b h a s2;have s14:=Up.S b h a s3;have s15:=Up.S b h a s4;have s16:=Up.S b h a s5;have s17:=Up.S b h a s6;have s18:=Up.S b h a s7;have s19:=Up.S b h a s8;have s20:=Up.S b h a s9;have s21:=Up.S b h a y;have s22:=Up.S b h a s11;have hb1:=h.below.trans (a.below.mono h.below.size);have c:=((h.pick [0] Z)).ext a.below;replace h:=a9;obtain⟨_,rfl,v⟩:=qun a7;have ha5:=v;obtain⟨_,_,_,_,rfl,s23,_⟩:=qaq v;refine qbz (fun _=>(c.ext h.below)) (qkS 3 Z (bits 20 261759) (by kernel_rfl) (by kernel_rfl) (fun w' hw=>v_p qa Z w') (c.ext h.below) Z ?_);obtain⟨y4,_,F,s,_,_,_,_,Q,X,a6,I⟩:=s23.ix F;obtain⟨_,_,_,_,_,_,rfl,s25,s26,s27⟩:=qaK a6;refine qkS 7 Z (bits 20 261887) (by kernel_rfl) (by kernel_rfl) (fun w' hw=>qv7 qa Q X ⟨s.1,s.2.1⟩ Z Z Z Z Z Z) (c.ext h.below) Z (Ao 8 262143 Z (zc 0 (I.below h.below) Z (qbz (fun _=>(c.ext h.below)) (Ao 18 524287 Z (zcI h F (qkC (qf0 y4 (h.oldS (s25.mono d.old)) (h.oldS (s26.mono d.old)) (h.oldS (s27.mono d.old)))) Z fun _ _ h F=>qbz (fun _=>(c.ext h.below)) (qkS 19 Z (bits 20 1048575) (by kernel_rfl) (by kernel_rfl) (fun w' hw=>v_p qa Z w') (c.ext h.below) Z (Ad (X0 3 Z (zc 0 (H.below h.below) Z (zp1 Z (zc 2 (D.below h.below) Z (zp1 Z (zcI h F (qjT (h.old (GoT.mono s12 d.old))) Z fun _ _ h F=>zp1 Z (zcI h F qpl Z fun _ _ h F=>X0 2 Z ?_))))))))))))));replace h:=h.unbase d.below (show NoD [] from trivial);exact ri h F Z
 refine rD (zd3 Z (zdc 8 (g.below h.below) Z (zd1 Z ?_)));obtain⟨_,_,F,M,_,_,_,_,R,Y,t,J⟩:=y.ix F;obtain⟨_,_,rfl,s28⟩:=t;refine zdxe R Y M Z (zdc 0 (J.below h.below) Z (Y1 2 0 h Z ?_));obtain⟨_,_,F,N,_,_,_,_,S,e,rfl,p⟩:=s28.ix F;refine zdxe S e N Z (zdc 0 (p.below h.below) Z (zd1 Z ?_));obtain⟨r6,u,F⟩:=qd F;exact qbn r6 (vsI _) (cB 278 Z) (fun _ hb=>qjQ  u) Z Z Z Z (zd1 Z (dN h fun _ h=>X2 7 1 0 h Z (zcI h F (qjT (h.old f)) Z fun _ _ h F=>zp1 Z (zcI h F qpl Z fun _ _ h F=>X0 2 Z (ri h F Z)))))
def qgw (a_n:Int):Nat→Int→Int→Option (Int×Int)
 | 0,_,_=>U
 | n+1,a,b=>
  bif decide (a<b) then
   bif decide ((W64 ((W64 ((W64 ((W64 (a+b))+1)).tdiv 2))*(W64 ((W64 ((W64 (a+b))+1)).tdiv 2))))≤a_n) then qgw a_n n (W64 ((W64 ((W64 (a+b))+1)).tdiv 2)) b else
   qgw a_n n a (W64 ((W64 ((W64 ((W64 (a+b))+1)).tdiv 2))-1))
  else
   V (a,b)
def qoT (n:Nat)(a_n:Int):Option Int:=
 (qgw a_n n 0 3000000000).bind fun o=>match o with
 | (a,_)=>
  V a
theorem que {a_n:Int}  {r:Int}(F:qoT n a_n=V r):RetV prog 304 [.int .i64 a_n] w r:=by
 refine zV 23 func304 Z fun h=>X0 10 Z ?_;obtain⟨f,F,a⟩:=qd F;refine qn (rL (fun m e w'=>∃(b:Int) (c:Int),qgw a_n m b c=V f∧e=[(0,.int .i64 a_n),(3,.int .i64 b),(4,.int .i64 c)]∧SH w w' []) n ⟨_,_,F,rfl,h⟩ Z ?_);rintro d _ _ ⟨b,c,F,rfl,h⟩;rcases d with _|d
 ·cases F
 refine X0 7 Z (qi Z F ?_ ?_)<;>intro F
 ·refine X0 19 Z (qi Z F ?_ ?_)<;>intro F
  ·exact X0 5 Z (rK ⟨_,_,F,rfl,h⟩ Z)
  exact X0 6 Z (rK ⟨_,_,F,rfl,h⟩ Z)
 refine qr Z ?_;obtain rfl:=qb F;replace F:=a;exact X0 5 Z (ri h F Z)
def qkm (n:Nat)(slew:Int)(delay:Int)(mode:Int):Option Int:=
 (qoT n (W64 ((W64 ((W64 ((W64 (500*slew))*500))*slew))+(W64 (delay*delay))))).bind fun a=>
 (
  bif (mode==1) then V (decide ((W64 (a*a))<(W64 ((W64 ((W64 ((W64 (500*slew))*500))*slew))+(W64 (delay*delay)))))) else
  V false).bind fun b1=>
 bif b1 then V (W64 ((W64 (a.tdiv 500))+1)) else
 (qfK n a 500 mode).bind fun b=>
 V b
theorem qqT {slew:Int}{delay:Int}{mode:Int}  {r:Int}(F:qkm n slew delay mode=V r):RetV prog 281 [.int .i64 slew,.int .i64 delay,.int .i64 mode] w r:=by
 refine zV 35 func281 Z fun h=>X0 20 Z (zcI h F que Z fun d _ h F=>X0 4 Z ?_);obtain⟨c,b,_,F,a⟩:=bindE F;refine qaT (fun e w'=>∃(b1:Bool),c b1=V r∧e=[(2,.int .i64 mode),(8,.int .i64 d),(28,.bool b1)]∧SH w w' []) ?_ ?_
 ·refine X0 4 Z (qj (t:=22) F Z ?_ ?_)<;>intro F
  ·refine X0 12 Z ?_;obtain rfl:=qb F;exact rG ⟨_,a,rfl,h⟩ Z
  refine X0 7 Z ?_;obtain rfl:=qb F;exact rG ⟨_,a,rfl,h⟩ Z
 rintro _ _ ⟨b1,F,rfl,h⟩;subst b;refine qi Z F ?_ ?_<;>intro F
 ·exact X0 7 Z (ri h F Z)
 exact X0 5 Z (zcI h F qjQ Z fun _ _ h F=>X0 2 Z (ri h F Z))
def qbs (n:Nat)(v:(Option Tview))(link:Int)(slew:Int)(mode:Int):Option Int:=
 (v).bind fun b=>
 (idx b.links link).bind fun a=>
 (qfu n v a).bind fun c=>
 bif (a.Ay==1) then
  (idx b.loads c).bind fun h=>
  (qgV n v a).bind fun g=>
  (idx g.Aq (a.To.tmod 2)).bind fun i=>
  (qea n i slew h mode).bind fun d=>
  V (if 1000000<d then 1000000 else d)
 else
  (idx b.delays c).bind fun k=>
  (idx k a.Bw).bind fun l=>
  (qkm n slew l mode).bind fun f=>
  V (if 1000000<f then 1000000 else f)
theorem qht {v:(Option Tview)}{link:Int}{slew:Int}{mode:Int}(m:Ro w v cs1){r:Int}(F:qbs n v link slew mode=V r):RetV prog 234 [GoT.v (Option Tview) cs1,.int .i64 link,.int .i64 slew,.int .i64 mode] w r:=by
 obtain⟨_,rfl,Y⟩:=qbV m;refine zV 59 func234 Z fun h=>X0 7 Z ?_;obtain⟨_,W,F⟩:=qd F;obtain⟨_,o_1,_,rfl,-,O,d⟩:=PtR.get Y W;obtain⟨_,_,_,_,_,_,_,_,_,_,_,_,_,_,_,_,_,_,_,_,rfl,s2,s3,s4,s5,s6,s7,s8,s9,l,e⟩:=qcB O;refine zp2 Z (zc 6 (d.below h.below) Z (zp1 Z ?_));obtain⟨y2,_,F,x,_,_,_,_,B,J,P,o⟩:=s8.ix F;obtain rfl:=qbd P;refine zxe B J x Z (zc 0 (o.below h.below) Z (qp qa h Z Z Z fun _ _ h=>zs 0 h Z fun _ h=>X1 5 0 h Z (zcI h F (qi1 (h.old Y) (qcm y2)) Z fun _ _ h F=>X1 9 0 h Z (qi Z F ?_ ?_))))<;>intro F
 ·refine qcx (rA [] [0] h Z fun _ h=>M2 7795 [0,1,4,5,6,9,10,11,12] 0 0 (h.pick [0] Z) Z (Al 13 15987 7 d (h.pick [0] Z) Z (M0 32371 [14] (h.pick [0] Z) Z ?_)));obtain⟨_,_,F,y,_,_,_,_,C,K,rfl,p⟩:=s9.ix F;refine Ae 15 65139 C K y (h.pick [0] Z) Z (Al 16 130675 0 p (h.pick [0] Z) Z (M0 261747 [17] (h.pick [0] Z) Z (Ao 2 261751 Z ?_)));have b:Rg (old w) w (old w) w:=.start (fun _ h=>h);obtain⟨r2,Q,F⟩:=qd F;refine qr3 r2 b h (cB 276 Z) (qlZ (b.regOld h) (b.inR h Y) (qcm y2) Q) Z Z Z Z fun _ _ _ f a X T=>?_;have hL1:=h.ext a.below;have hc5:=Up.C h a d;have s12:=Up.S b h a s2;have s13:=Up.S b h a s3;have s14:=Up.S b h a s4;have s15:=Up.S b h a s5;have s16:=Up.S b h a s6;have s17:=Up.S b h a s7;have s18:=Up.S b h a s8;have s19:=Up.S b h a s9;have s20:=Up.S b h a l;have s21:=Up.S b h a e;have hb1:=h.below.trans (a.below.mono h.below.size);have c:=((h.pick [0] Z)).ext a.below;replace h:=X;obtain⟨_,rfl,k⟩:=qun T;have ha2:=k;obtain⟨_,_,_,_,rfl,_,a3⟩:=qaq k;refine qbz (fun _=>(c.ext h.below)) (qkS 3 Z (bits 21 261759) (by kernel_rfl) (by kernel_rfl) (fun w' hw=>v_p qa Z w') (c.ext h.below) Z ?_);obtain⟨y4,_,F,g,_,_,_,_,D,L,R,s⟩:=a3.ix F;obtain⟨_,_,_,_,_,_,rfl,a4,a5,a6⟩:=qaK R;refine qkS 7 Z (bits 21 261887) (by kernel_rfl) (by kernel_rfl) (fun w' hw=>qv7 qa D L ⟨g.1,g.2.1⟩ Z Z Z Z Z Z) (c.ext h.below) Z (Ao 8 262143 Z (zc 0 (s.below h.below) Z (qbz (fun _=>(c.ext h.below)) (Ao 18 524287 Z (zcI h F (qkC (qf0 y4 (h.oldS (a4.mono f.old)) (h.oldS (a5.mono f.old)) (h.oldS (a6.mono f.old)))) Z fun _ _ h F=>qbz (fun _=>(c.ext h.below)) (qkS 19 Z (bits 21 1048575) (by kernel_rfl) (by kernel_rfl) (fun w' hw=>v_p qa Z w') (c.ext h.below) Z (qkS 20 Z (bits 21 2097151) (by kernel_rfl) (by kernel_rfl) (fun w' hw=>v_p qa Z w') (c.ext h.below) Z (Ad ?_))))))));replace h:=h.unbase f.below (show NoD [] from trivial);exact ri h F Z
 refine zKS (rD (zd4 Z (zdc 8 (d.below h.below) Z (zd1 Z ?_))));obtain⟨_,_,F,z,_,_,_,_,H,M,S,t⟩:=l.ix F;obtain⟨_,_,rfl,a7⟩:=S;refine zdxe H M z Z (zdc 0 (t.below h.below) Z (Y1 2 0 h Z ?_));obtain⟨_,_,F,A,_,_,_,_,I,N,rfl,u⟩:=a7.ix F;refine zdxe I N A Z (zdc 0 (u.below h.below) Z (zd1 Z ?_));obtain⟨r4,i,F⟩:=qd F;exact qbn r4 (vsI _) (cB 281 Z) (fun _ hb=>qqT  i) Z Z Z Z (zd2 Z (dN h fun _ h=>ri h F Z))
def qg4 (n:Nat)(a:(Option Tview))(d:qz)(b:Int)(c:qc):Option (qc×qc):=
 (qcu n a d b c.Am 0).bind fun f=>
 (qcu n a d b c.Au 0).bind fun g=>
 (qcu n a d b c.Am 1).bind fun h=>
 (qcu n a d b c.Au 1).bind fun i=>
 (a).bind fun k=>
 (idx k.links b).bind fun s=>
 (
  bif decide ((k.extras.length:Int) > 0) then V (s.Ay==2) else
  V false).bind fun u=>
 (
  bif u then
   (qfu n a s).bind fun y=>
   (idx k.extras y).bind fun t=>
   V (W64 ((if g<f then g else f)-t),W64 ((if i > h then i else h)+t))
  else
   V ((if g<f then g else f),(if i > h then i else h))).bind fun o=>match o with
  | (v,x)=>
   (qbs n a b c.Am 0).bind fun l=>
   (qbs n a b c.Au 0).bind fun m=>
   (qbs n a b c.Am 1).bind fun p=>
   (qbs n a b c.Au 1).bind fun r=>
   V ((⟨v,x⟩:qc),(⟨(if m<l then m else l),(if r > p then r else p)⟩:qc))
theorem qfc {y:(Option Tview)}{z:qz}{i:Int}{d:qc}(W:Ro w y cs1)(a:Ro w z cs2)(X:Ro w d cs3){r:(qc×qc)}(F:qg4 n y z i d=V r):RetV prog 165 [GoT.v (Option Tview) cs1,GoT.v qz cs2,.int .i64 i,GoT.v qc cs3] w r:=by
 obtain⟨p1,rfl,c⟩:=qbV W;obtain rfl:=qag a;obtain rfl:=qu X;refine zV 100 func165 Z fun h=>zSR (qw h Z Z fun _ _ h=>qw h Z Z fun _ _ h=>qp qa h Z Z Z fun _ f h=>qp qa h Z Z Z fun _ g h=>zNS (rD (Y1 2 2 h Z ?_)));refine Y1 2 2 h Z ?_;refine zd2 Z (dN h fun _ h=>qcx ?_);obtain⟨x,H,F⟩:=qd F;obtain⟨v,u,F⟩:=qd F;obtain⟨p,l,F⟩:=qd F;obtain⟨m,k,F⟩:=qd F;refine qaT (fun e w'=>∃(b:Nat),e=[(0,.pointer p1),(2,.int .i64 i),(8,.pointer (V ⟨f,0,U⟩)),(9,.pointer (V ⟨g,0,U⟩)),(10,.int .i64 d.Am),(11,.int .i64 d.Au),(12,.pointer (V ⟨b,0,U⟩))]∧SH w w' [Ch.box b [.int .i64 (if v<x then v else x),.int .i64 (if m > p then m else p)] 93,Ch.box g [.int .i64 0,.int .i64 0] 93,Ch.box f [.int .i64 0,.int .i64 0] 93]) ?_ ?_
 ·refine rA [24] [3] h Z fun _ h=>M4 1014255 [0,1,2,3,5,6,7,8,11,12,13,14,16,17,18,19] 0 0 0 0 (h.pick [3] Z) Z (At 4 23 1014271 9402863 Z ?_ ?_)
  ·refine qcw x h (cB 232 Z) (qaE (h.old c) (h.old a) H) Z Z Z Z fun _ h=>Ag (h.pick [3] Z) (At 9 23 1014783 9402879 Z ?_ ?_)
   ·refine qcw v h (cB 232 Z) (qaE (h.old c) (h.old a) u) Z Z Z Z fun _ h=>G0 1015807 [10] (h.pick [3] Z) Z (At 15 23 1048575 9404415 Z ?_ ?_)
    ·refine qcw p h (cB 232 Z) (qaE (h.old c) (h.old a) l) Z Z Z Z fun _ h=>Ag (h.pick [3] Z) (At 20 23 2097151 9437183 Z ?_ ?_)
     ·refine qcw m h (cB 232 Z) (qaE (h.old c) (h.old a) k) Z Z Z Z fun _ h=>G0 4194303 [21] (h.pick [3] Z) Z (Aw 22 8388607 (fun w' hw=>qaf qa [0,1] [.tmp 30,.tmp 41] Z Z Z Z Z Z Z Z) (h.pick [3] Z) Z ?_);refine Ao 23 16777215 Z (qp qa h Z Z Z fun _ _ h=>Ag (h.pick [4] Z) (Ao 24 33554431 Z (zs 0 h Z fun _ h=>qbz (fun hs=>absurd (hs 24 (by decide)) (by decide)) (Ad ?_))));replace h:=h.pick [0,1,2] Z;exact rG ⟨_,rfl,h⟩ Z
     refine qp qa h Z Z Z fun _ _ h=>Ag (h.pick [4] Z) (Ao 20 10485759 Z (qcw m h (cB 232 Z) (qaE (h.old c) (h.old a) k) Z Z Z Z fun _ h=>G0 12582911 [21] (h.pick [4] Z) Z (Aw 22 16777215 (fun w' hw=>qaf qa [0,1] [.tmp 30,.tmp 41] Z Z Z Z Z Z Z Z) (h.pick [4] Z) Z ?_)));refine Ao 24 33554431 Z (zs 0 h Z fun _ h=>qbz (fun hs=>absurd (hs 24 (by decide)) (by decide)) (Ad ?_));replace h:=h.pick [0,1,2] Z;exact rG ⟨_,rfl,h⟩ Z
    refine qp qa h Z Z Z fun _ _ h=>Ag (h.pick [4] Z) (Ao 15 9437183 Z (qcw p h (cB 232 Z) (qaE (h.old c) (h.old a) l) Z Z Z Z fun _ h=>Ag (h.pick [4] Z) (Ao 20 10485759 Z (qcw m h (cB 232 Z) (qaE (h.old c) (h.old a) k) Z Z Z Z fun _ h=>G0 12582911 [21] (h.pick [4] Z) Z (Aw 22 16777215 (fun w' hw=>qaf qa [0,1] [.tmp 30,.tmp 41] Z Z Z Z Z Z Z Z) (h.pick [4] Z) Z ?_)))));refine Ao 24 33554431 Z (zs 0 h Z fun _ h=>qbz (fun hs=>absurd (hs 24 (by decide)) (by decide)) (Ad ?_));replace h:=h.pick [0,1,2] Z;exact rG ⟨_,rfl,h⟩ Z
   refine qp qa h Z Z Z fun _ _ h=>Ag (h.pick [4] Z) (Ao 9 9403391 Z (qcw v h (cB 232 Z) (qaE (h.old c) (h.old a) u) Z Z Z Z fun _ h=>G0 9404415 [10] (h.pick [4] Z) Z (Ao 15 9437183 Z (qcw p h (cB 232 Z) (qaE (h.old c) (h.old a) l) Z Z Z Z fun _ h=>Ag (h.pick [4] Z) (Ao 20 10485759 Z (qcw m h (cB 232 Z) (qaE (h.old c) (h.old a) k) Z Z Z Z fun _ h=>G0 12582911 [21] (h.pick [4] Z) Z (Aw 22 16777215 (fun w' hw=>qaf qa [0,1] [.tmp 30,.tmp 41] Z Z Z Z Z Z Z Z) (h.pick [4] Z) Z ?_)))))));refine Ao 24 33554431 Z (zs 0 h Z fun _ h=>qbz (fun hs=>absurd (hs 24 (by decide)) (by decide)) (Ad ?_));replace h:=h.pick [0,1,2] Z;exact rG ⟨_,rfl,h⟩ Z
  refine qp qa h Z Z Z fun _ _ h=>Ag (h.pick [4] Z) (Ao 4 9402879 Z (qcw x h (cB 232 Z) (qaE (h.old c) (h.old a) H) Z Z Z Z fun _ h=>Ag (h.pick [4] Z) (Ao 9 9403391 Z (qcw v h (cB 232 Z) (qaE (h.old c) (h.old a) u) Z Z Z Z fun _ h=>G0 9404415 [10] (h.pick [4] Z) Z (Ao 15 9437183 Z (qcw p h (cB 232 Z) (qaE (h.old c) (h.old a) l) Z Z Z Z fun _ h=>Ag (h.pick [4] Z) (Ao 20 10485759 Z (qcw m h (cB 232 Z) (qaE (h.old c) (h.old a) k) Z Z Z Z fun _ h=>G0 12582911 [21] (h.pick [4] Z) Z (Aw 22 16777215 (fun w' hw=>qaf qa [0,1] [.tmp 30,.tmp 41] Z Z Z Z Z Z Z Z) (h.pick [4] Z) Z ?_)))))))));refine Ao 24 33554431 Z (zs 0 h Z fun _ h=>qbz (fun hs=>absurd (hs 24 (by decide)) (by decide)) (Ad ?_));replace h:=h.pick [0,1,2] Z;exact rG ⟨_,rfl,h⟩ Z
 rintro _ _ ⟨b,rfl,h⟩;refine X0 4 Z ?_;obtain⟨_,b6,F⟩:=qd F;obtain⟨b1,L,_,rfl,-,b4,s⟩:=PtR.get c b6;obtain⟨_,_,_,_,_,_,_,_,_,_,_,_,_,_,_,_,_,_,_,_,rfl,_,_,_,_,_,_,s8,_,_,b7⟩:=qcB b4;refine zp2 Z (zc 6 (s.below h.below) Z (zp1 Z ?_));obtain⟨y2,_,F,a4,_,_,_,_,a6,a8,b5,Y⟩:=s8.ix F;obtain rfl:=qbd b5;refine zxe a6 a8 a4 Z (zc 0 (Y.below h.below) Z (qp qa h Z Z Z fun _ o h=>zs 0 h Z fun _ h=>zNS ?_));obtain⟨R,D,_,F,B⟩:=bindE F;refine qaT (fun e w'=>∃(T:Bool),R T=V r∧e=[(0,.pointer (V ⟨b1,L,U⟩)),(2,.int .i64 i),(8,.pointer (V ⟨f,0,U⟩)),(9,.pointer (V ⟨g,0,U⟩)),(10,.int .i64 d.Am),(11,.int .i64 d.Au),(12,.pointer (V ⟨b,0,U⟩)),(13,.pointer (V ⟨o,0,U⟩)),(60,.bool T)]∧SH w w' [Ch.box o (qki y2) 225,Ch.box b [.int .i64 (if v<x then v else x),.int .i64 (if m > p then m else p)] 93,Ch.box g [.int .i64 0,.int .i64 0] 93,Ch.box f [.int .i64 0,.int .i64 0] 93]) ?_ ?_
 ·refine X0 4 Z (zc 9 (s.below h.below) Z (zp3 Z (qj (t:=56) F Z ?_ ?_)))<;>intro F
  ·refine X1 8 0 h Z ?_;obtain rfl:=qb F;exact rG ⟨_,B,rfl,h⟩ Z
  refine X0 5 Z ?_;obtain rfl:=qb F;exact rG ⟨_,B,rfl,h⟩ Z
 rintro _ _ ⟨T,F,rfl,h⟩;subst D;obtain⟨Q,C,_,F,A⟩:=bindE F;refine qaT (fun e w'=>∃(J:Int) (K:Int),Q (J,K)=V r∧e=[(0,.pointer (V ⟨b1,L,U⟩)),(2,.int .i64 i),(8,.pointer (V ⟨f,0,U⟩)),(9,.pointer (V ⟨g,0,U⟩)),(10,.int .i64 d.Am),(11,.int .i64 d.Au),(12,.pointer (V ⟨b,0,U⟩))]∧SH w w' [Ch.box b [.int .i64 J,.int .i64 K] 93,Ch.box g [.int .i64 0,.int .i64 0] 93,Ch.box f [.int .i64 0,.int .i64 0] 93]) ?_ ?_
 ·refine qi Z F ?_ ?_<;>intro F
  ·refine qcx (rD (zd3 Z (zdc 9 (s.below h.below) Z (Y1 2 0 h Z ?_))));obtain⟨r9,I,F⟩:=qd F;refine qbn r9 (vsI _) (cB 233 Z) (fun _ hb=>qi1 ((h.ext hb).old c) (qcm y2) I) Z Z Z Z ?_;obtain⟨_,_,F,a5,_,_,_,_,a7,a9,rfl,a3⟩:=b7.ix F;refine zdxe a7 a9 a5 Z (zdc 0 (a3.below h.below) Z (zd1 Z (dN h fun _ h=>X2 9 1 1 h Z (r_v (qaf qa [0,1] [.tmp 73,.tmp 77] Z Z Z Z Z Z Z Z) Z (zs 1 h Z fun _ h=>qcU ?_)))));replace h:=h.pick [1,2,3] Z;obtain rfl:=qb F;exact rG ⟨_,_,A,rfl,h⟩ Z
  refine qhD ?_;replace h:=h.pick [1,2,3] Z;obtain rfl:=qb F;exact rG ⟨_,_,A,rfl,h⟩ Z
 rintro _ _ ⟨J,K,F,rfl,h⟩;subst C;refine X0 5 Z (zcI h F (qht (h.old c)) Z fun M _ h F=>zp3 Z (zcI h F (qht (h.old c)) Z fun N _ h F=>zp4 Z (zcI h F (qht (h.old c)) Z fun O _ h F=>zp3 Z (zcI h F (qht (h.old c)) Z fun P _ h F=>zp1 Z (r_v (qaf qa [0,1] [.tmp 87,.tmp 96] Z Z Z Z Z Z Z Z) Z (qp qa h Z Z Z fun _ _ h=>zs 0 h Z fun _ h=>zNS (rA [] [0,1] h Z fun _ h=>M2 3 [0,1] 1 0 (h.pick [0,1] Z) Z (Ao 2 7 Z (zs 3 h Z fun _ h=>Ag (h.pick [0,1] Z) (Ao 3 15 Z (zs 2 h Z fun _ h=>Ag (h.pick [0,1] Z) (Ad ?_))))))))))));obtain rfl:=qb F;exact qX qa (ρ:=(qc×qc)) [GoT.v qc [.int .i64 J,.int .i64 K],GoT.v qc [.int .i64 (if N<M then N else M),.int .i64 (if P > O then P else O)]] h ⟨⟨_,_,_,rfl,rfl,h.box 3 Z,rfl⟩,⟨_,_,_,rfl,rfl,h.box 2 Z,rfl⟩,trivial⟩ (PV.done h (qP h (qy (S:=fun _=>False) (qB (⟨J,K⟩:qc))) (qad (qy (S:=fun _=>False) (qB (⟨(if N<M then N else M),(if P > O then P else O)⟩:qc)))) (by rfl)))
def qma (_:Nat)(s:qc)(t:qc):Option qc:=
 V (⟨W64 (s.Am+t.Am),W64 (s.Au+t.Au)⟩:qc)
theorem qqk {s:qc}{t:qc}(a:Ro w s cs1)(b:Ro w t cs2){r:qc}(F:qma n s t=V r):RetV prog 166 [GoT.v qc cs1,GoT.v qc cs2] w r:=by
 obtain rfl:=qu a;obtain rfl:=qu b;refine zV 16 func166 Z fun h=>zSR (qw h Z Z fun _ _ h=>qw h Z Z fun _ _ h=>qp qa h Z Z Z fun _ _ h=>X4 13 2 1 2 1 h Z (r_v (qaf qa [0,1] [.tmp 9,.tmp 14] Z Z Z Z Z Z Z Z) Z (zs 0 h Z fun _ h=>qcU ?_)));obtain rfl:=qb F;exact qX qa (ρ:=qc) [GoT.v qc [.int .i64 (W64 (s.Am+t.Am)),.int .i64 (W64 (s.Au+t.Au))]] h ⟨⟨_,_,_,rfl,rfl,h.box 0 Z,rfl⟩,trivial⟩ (PV.done h (qad (qy (S:=fun _=>False) (qB (⟨W64 (s.Am+t.Am),W64 (s.Au+t.Au)⟩:qc)))))
def qbv (c:(Option Tgraph))(d:qz)(a:qq)(h:(List Int)):Nat→Bool→Int→Int→Int→Int→Int→Int→Option (Bool×Int×Int×Int×Int×Int×Int)
 | 0,_,_,_,_,_,_,_=>U
 | n+1,b2,i,k,i8,l,f,b=>
  bif decide (b<(h.length:Int)) then
   (idx h b).bind fun r=>
   (c).bind fun s=>
   (s.view).bind fun x=>
   (idx x.links r).bind fun p=>
   (idx a.Aj p.Bf).bind fun y=>
   bif y then
    (idx a.Aq p.Bf).bind fun z=>
    (qg4 n s.view d r z).bind fun o=>match o with
     | (t,u)=>
      (idx a.Ac p.Bf).bind fun A=>
      (qma n A t).bind fun m=>
      (qdC n (⟨i,(⟨k,i8⟩:qc),(⟨l,f⟩:qc)⟩:qf) b2 m u).bind fun o=>match o with
       | (g,v)=>
        qbv c d a h n v g.Bm g.Ac.Am g.Ac.Au g.Aq.Am g.Aq.Au (W64 (b+1))
   else
    qbv c d a h n b2 i k i8 l f (W64 (b+1))
  else
   V (b2,i,k,i8,l,f,b)
def qdX (n:Nat)(b:(Option Tgraph))(f:qz)(g:(List qf))(h:qq)(a:Int):Option (Bool×qf):=
 (qkg n g a).bind fun o=>match o with
  | (d,x)=>
   (
    bif x then
     (qdC n (⟨a,(⟨0,0⟩:qc),(⟨0,0⟩:qc)⟩:qf) false (⟨d.Ac.Am,d.Ac.Au⟩:qc) (⟨d.Aq.Am,d.Aq.Au⟩:qc)).bind fun o=>match o with
      | (c,k)=>
       V (k,c.Bm,c.Ac.Am,c.Ac.Au,c.Aq.Am,c.Aq.Au)
    else
     V (false,a,0,0,0,0)).bind fun o=>match o with
    | (b1,l,m,p,r,s)=>
     (qkk n b a).bind fun y=>
     (qbv b f h y n b1 l m p r s 0).bind fun o=>match o with
     | (b2,t,u,i8,v,i,_)=>
      bif (!b2) then V (false,(⟨0,(⟨0,0⟩:qc),(⟨0,0⟩:qc)⟩:qf)) else
      V (true,(⟨t,(⟨u,i8⟩:qc),(⟨v,i⟩:qc)⟩:qf))
theorem qm3 {T:(Option Tgraph)}{f:qz}{a_2:(List qf)}{g:qq}{W:Int}(ha1:Ro w T cs1)(B:Ro w f cs2)(ha3:Ro w a_2 cs3)(ha4:Ro w g cs4){r:(Bool×qf)}(F:qdX n T f a_2 g W=V r):RetV prog 99 [GoT.v (Option Tgraph) cs1,GoT.v qz cs2,GoT.v (List qf) cs3,GoT.v qq cs4,.int .i64 W] w r:=by
 obtain⟨p1,rfl,s1⟩:=qbV ha1;obtain rfl:=qag B;obtain⟨_,_,rfl,s2⟩:=ha3;obtain⟨p3,k2,p4,k3,p5,k4,rfl,s3,s4,s5⟩:=qM ha4;refine zV 88 func99 Z fun h=>zSR (qw h Z Z fun _ i h=>qw h Z Z fun _ k h=>zp1 Z (qp qa h Z Z Z fun _ l h=>X0 4 Z (r_v (qaf qa [0] [.tmp 21] Z Z Z Z Z Z Z Z) Z (qp qa h Z Z Z fun _ p h=>zs 0 h Z fun _ h=>zNSR (qp qa h Z Z Z fun _ s h=>zs 0 h Z fun _ h=>X0 6 Z ?_)))));obtain⟨r1,hr1,F⟩:=qd F;obtain⟨r2,r3⟩:=r1;refine qaF (r2,r3) h (cB 162 Z) (qrc ⟨_,_,rfl,(h.oldS s2)⟩ hr1) Z Z Z Z fun _ _ _ hv1 hr2=>?_;obtain⟨S2,_,_,_,rfl,hv2,hr3⟩:=hv1.cons hr2;obtain rfl:=qac (hv2.sh.own 0 Z);obtain⟨rfl,h⟩:=hv2.lastB hr3;refine zp3 Z (qp qa h Z Z Z fun _ bb6 h=>zs 0 h Z fun _ h=>X0 6 Z ?_);obtain⟨KF1,hKF1,_,F,hK2⟩:=bindE F;refine qaT (fun e w'=>∃(b1:Bool) (i1:Int) (i2:Int) (i3:Int) (i4:Int) (i5:Int),KF1 (b1,i1,i2,i3,i4,i5)=V r∧e=[(0,.pointer p1),(4,.int .i64 W),(6,.pointer (V ⟨i,0,U⟩)),(8,.pointer (V ⟨k,0,U⟩)),(11,.pointer (V ⟨l,0,U⟩)),(12,.pointer (V ⟨p,0,U⟩)),(13,.pointer (V ⟨s,0,U⟩))]∧SH w w' [Ch.box s [.bool b1] 4,Ch.box p [.int .i64 i1,.int .i64 i2,.int .i64 i3,.int .i64 i4,.int .i64 i5] 95,Ch.box l [.int .i64 0,.int .i64 0,.int .i64 0,.int .i64 0,.int .i64 0] 95,Ch.box k (qI g p3 p4 p5 k2 k3 k4) 45,Ch.box i (qam f) 59]) ?_ ?_
 ·refine qi Z F ?_ ?_<;>intro F
  ·refine X2 5 0 0 h Z ?_;replace h:=h.pick [2,3,0,1,4,5,6] Z;obtain⟨o6,hr43,F⟩:=qd F;obtain⟨x9,x10⟩:=o6;refine qr2 (cB 163 Z) (qhY h hr43) Z Z Z Z fun _ h=>?_;replace h:SH _ _ [Ch.box s [.bool x10] 4,Ch.box p (qf5 x9) 95,Ch.box bb6 (qf5 r2) 95,Ch.own S2 (r2:qf) (qf5 r2),Ch.box l [.int .i64 0,.int .i64 0,.int .i64 0,.int .i64 0,.int .i64 0] 95,Ch.box k (qI g p3 p4 p5 k2 k3 k4) 45,Ch.box i (qam f) 59]:=h;refine qcU ?_;replace h:=h.pick [0,1,4,5,6] Z;obtain rfl:=qb F;exact rG ⟨_,_,_,_,_,_,hK2,rfl,h⟩ Z
  refine qhD ?_;replace h:=h.pick [2,3,4,5,6] Z;obtain rfl:=qb F;exact rG ⟨_,_,_,_,_,_,hK2,rfl,h⟩ Z
 rintro _ _ ⟨b1,i1,i2,i3,i4,i5,F,rfl,h⟩;subst hKF1;refine X0 5 Z (zcL h F (qqG (h.old s1)) Z fun H _ S5 p6 k5 h F=>X0 3 Z ?_);obtain⟨o1,F,hK1⟩:=qd F;refine qn (rL (fun m e w'=>∃(b2:Bool) (Y:Int) (i7:Int) (i8:Int) (i9:Int) (C:Int) (Q:Int),qbv T f g H m b2 Y i7 i8 i9 C Q=V o1∧e=[(0,.pointer p1),(6,.pointer (V ⟨i,0,U⟩)),(8,.pointer (V ⟨k,0,U⟩)),(11,.pointer (V ⟨l,0,U⟩)),(12,.pointer (V ⟨p,0,U⟩)),(13,.pointer (V ⟨s,0,U⟩)),(37,.slice p6 H.length k5),(38,.int .i64 (H.length:Int)),(39,.int .i64 Q)]∧SH w w' [Ch.own S5 (H:List Int) [.slice p6 H.length k5],Ch.box s [.bool b2] 4,Ch.box p [.int .i64 Y,.int .i64 i7,.int .i64 i8,.int .i64 i9,.int .i64 C] 95,Ch.box l [.int .i64 0,.int .i64 0,.int .i64 0,.int .i64 0,.int .i64 0] 95,Ch.box k (qI g p3 p4 p5 k2 k3 k4) 45,Ch.box i (qam f) 59]) n ⟨_,_,_,_,_,_,_,F,rfl,h⟩ Z ?_);rintro m1 _ _ ⟨b2,Y,i7,i8,i9,C,Q,F,rfl,h⟩;rcases m1 with _|m1
 ·cases F
 refine X0 5 Z (qi Z F ?_ ?_)<;>intro F
 ·refine zKSBSR ?_;obtain⟨_,_,F,he1,_,_,_,_,hp1,hq1,rfl,hc2⟩:=(h.sl 0 Z).1.ix F;refine zx hp1 hq1 ⟨he1.1,qD he1.2.1 (h.sl 0 Z).2⟩ Z (zc 0 hc2 Z (X0 5 Z ?_));obtain⟨_,hy2,F⟩:=qd F;obtain⟨b4,o_2,_,rfl,-,hr7,hc3⟩:=PtR.get s1 hy2;obtain⟨_,_,_,rfl,s6,_⟩:=qjf hr7;refine zp2 Z (zc 0 (hc3.below h.below) Z ?_);obtain⟨_,hy3,F⟩:=qd F;obtain⟨_,o_3,_,rfl,-,hr8,hc4⟩:=PtR.get s6 hy3;obtain⟨_,_,_,_,_,_,_,_,_,_,_,_,_,_,_,_,_,_,_,_,rfl,_,_,_,_,_,_,s14,_,_,_⟩:=qcB hr8;refine zp2 Z (zc 6 (hc4.below h.below) Z (zp1 Z ?_));obtain⟨y4,_,F,he2,_,_,_,_,hp2,hq2,hr9,hc5⟩:=s14.ix F;obtain rfl:=qbd hr9;refine zxe hp2 hq2 he2 Z (zp1 Z (zc 0 (hc5.below h.below) Z (X1 7 4 h Z ?_)));obtain⟨_,_,F,he3,_,_,_,_,hp3,hq3,rfl,hc6⟩:=s3.ix F;refine zxe hp3 hq3 he3 Z (zc 0 (hc6.below h.below) Z (qcU (qi Z F ?_ ?_)))<;>intro F
  ·refine qcx (rA [] [4,5] h Z fun _ h=>M0 7 [0,1,2] (h.pick [4,5] Z) Z (Al 3 15 0 hc3 (h.pick [4,5] Z) Z (M2 511 [4,5,6,7,8] 1 0 (h.pick [4,5] Z) Z ?_)));obtain⟨y6,_,F,he4,_,_,_,_,hp4,hq4,hr11,hc8⟩:=s5.ix F;obtain rfl:=qu hr11;refine Ae 9 1023 hp4 hq4 he4 (h.pick [4,5] Z) Z (Al 10 2047 0 hc8 (h.pick [4,5] Z) Z ?_);obtain⟨r5,t,F⟩:=qd F;obtain⟨R,X⟩:=r5;refine qmG (fun e w'=>∃(u:Nat) (v:Nat),e=[(0,.pointer (V ⟨b4,o_2,U⟩)),(11,.pointer (V ⟨l,0,U⟩)),(12,.pointer (V ⟨p,0,U⟩)),(13,.pointer (V ⟨s,0,U⟩)),(18,.int .i64 y4.Bf),(19,.pointer (V ⟨v,0,U⟩)),(20,.pointer (V ⟨u,0,U⟩)),(37,.slice p6 H.length k5),(38,.int .i64 (H.length:Int)),(39,.int .i64 Q),(6,.pointer (V ⟨i,0,U⟩)),(8,.pointer (V ⟨k,0,U⟩))]∧SH w w' [Ch.box u (qdK X) 93,Ch.box v (qdK R) 93,Ch.own S5 (H:List Int) [.slice p6 H.length k5],Ch.box s [.bool b2] 4,Ch.box p [.int .i64 Y,.int .i64 i7,.int .i64 i8,.int .i64 i9,.int .i64 C] 95,Ch.box l [.int .i64 0,.int .i64 0,.int .i64 0,.int .i64 0,.int .i64 0] 95,Ch.box k (qI g p3 p4 p5 k2 k3 k4) 45,Ch.box i (qam f) 59]) 0 (bits 19 524287) ?_ ?_
   ·intro K;refine qr6 11 15 16 Z Z Z (bits 19 4095) (bits 19 34815) (bits 19 67583) (by kernel_rfl) (by kernel_rfl) (by kernel_rfl) (by kernel_rfl) ?_ ?_ ?_
    ·refine qaF (R,X) h (cB 165 Z) (qfc (h.old s6) (h.old B) (qB y6) t) Z Z Z Z fun w54 N z d b=>?_;obtain⟨O,P,x,A,rfl,a,c⟩:=d.cons b;obtain rfl:=qu (a.sh.own 0 Z);obtain⟨y,rfl,h⟩:=a.last c;obtain rfl:=qu (h.own 0 Z);refine G0 32767 [12,13,14] (h.pick [6,7] Z) Z (At 15 16 65535 98303 Z ?_ ?_)
     ·refine qp qa h Z Z Z fun I D h=>Ag (h.pick [7,8] Z) (Ao 16 131071 Z (qp qa h Z Z Z fun J o h=>Ag (h.pick [8,9] Z) (Ao 17 262143 Z (zs 1 h Z fun L h=>Ag (h.pick [8,9] Z) (Ao 18 524287 Z (zs 0 h Z fun M h=>Ag (h.pick [8,9] Z) ?_))))));replace h:=h.pick [0,1,4,5,6,7,8,9] Z;exact qeJ [(0,_),(11,_),(12,_),(13,_),(18,_),(19,_),(20,_),(37,_),(38,_),(39,_),(6,_),(8,_)] ⟨rfl,rfl,rfl,rfl,rfl,rfl,rfl,rfl,rfl,rfl,rfl,rfl,trivial⟩ (K _ _ ⟨_,_,rfl,h⟩)
     refine qp qa h Z Z Z fun I D h=>Ag (h.pick [7,8] Z) (Ao 15 131071 Z (qp qa h Z Z Z fun J o h=>Ag (h.pick [8,9] Z) (Ao 17 262143 Z (zs 0 h Z fun L h=>Ag (h.pick [8,9] Z) (Ao 18 524287 Z (zs 1 h Z fun M h=>Ag (h.pick [8,9] Z) ?_))))));replace h:=h.pick [1,0,4,5,6,7,8,9] Z;exact qeJ [(0,_),(11,_),(12,_),(13,_),(18,_),(19,_),(20,_),(37,_),(38,_),(39,_),(6,_),(8,_)] ⟨rfl,rfl,rfl,rfl,rfl,rfl,rfl,rfl,rfl,rfl,rfl,rfl,trivial⟩ (K _ _ ⟨_,_,rfl,h⟩)
    ·refine qp qa h Z Z Z fun w54 D h=>Ag (h.pick [5,6] Z) (At 11 16 36863 100351 Z ?_ ?_)
     ·refine qaF (R,X) h (cB 165 Z) (qfc (h.old s6) (h.old B) (qB y6) t) Z Z Z Z fun I N z d b=>?_;obtain⟨O,P,x,A,rfl,a,c⟩:=d.cons b;obtain rfl:=qu (a.sh.own 0 Z);obtain⟨y,rfl,h⟩:=a.last c;obtain rfl:=qu (h.own 0 Z);refine G0 65535 [12,13,14] (h.pick [7,8] Z) Z (Ao 16 131071 Z (qp qa h Z Z Z fun J o h=>Ag (h.pick [8,9] Z) (Ao 17 262143 Z (zs 3 h Z fun L h=>Ag (h.pick [8,9] Z) (Ao 18 524287 Z (zs 0 h Z fun M h=>Ag (h.pick [8,9] Z) ?_))))));replace h:=h.pick [0,3,4,5,6,7,8,9] Z;exact qeJ [(0,_),(11,_),(12,_),(13,_),(18,_),(19,_),(20,_),(37,_),(38,_),(39,_),(6,_),(8,_)] ⟨rfl,rfl,rfl,rfl,rfl,rfl,rfl,rfl,rfl,rfl,rfl,rfl,trivial⟩ (K _ _ ⟨_,_,rfl,h⟩)
     refine qp qa h Z Z Z fun I o h=>Ag (h.pick [6,7] Z) (Ao 11 102399 Z (qaF (R,X) h (cB 165 Z) (qfc (h.old s6) (h.old B) (qB y6) t) Z Z Z Z fun J N z d b=>?_));obtain⟨O,P,x,A,rfl,a,c⟩:=d.cons b;obtain rfl:=qu (a.sh.own 0 Z);obtain⟨y,rfl,h⟩:=a.last c;obtain rfl:=qu (h.own 0 Z);refine G0 131071 [12,13,14] (h.pick [8,9] Z) Z (Ao 17 262143 Z (zs 3 h Z fun L h=>Ag (h.pick [8,9] Z) (Ao 18 524287 Z (zs 2 h Z fun M h=>Ag (h.pick [8,9] Z) ?_))));replace h:=h.pick [2,3,4,5,6,7,8,9] Z;exact qeJ [(0,_),(11,_),(12,_),(13,_),(18,_),(19,_),(20,_),(37,_),(38,_),(39,_),(6,_),(8,_)] ⟨rfl,rfl,rfl,rfl,rfl,rfl,rfl,rfl,rfl,rfl,rfl,rfl,trivial⟩ (K _ _ ⟨_,_,rfl,h⟩)
    refine qp qa h Z Z Z fun w54 D h=>Ag (h.pick [5,6] Z) (At 11 15 69631 100351 Z ?_ ?_)
    ·refine qaF (R,X) h (cB 165 Z) (qfc (h.old s6) (h.old B) (qB y6) t) Z Z Z Z fun I N z d b=>?_;obtain⟨O,P,x,A,rfl,a,c⟩:=d.cons b;obtain rfl:=qu (a.sh.own 0 Z);obtain⟨y,rfl,h⟩:=a.last c;obtain rfl:=qu (h.own 0 Z);refine G0 98303 [12,13,14] (h.pick [7,8] Z) Z (Ao 15 131071 Z (qp qa h Z Z Z fun J o h=>Ag (h.pick [8,9] Z) (Ao 17 262143 Z (zs 0 h Z fun L h=>Ag (h.pick [8,9] Z) (Ao 18 524287 Z (zs 3 h Z fun M h=>Ag (h.pick [8,9] Z) ?_))))));replace h:=h.pick [3,0,4,5,6,7,8,9] Z;exact qeJ [(0,_),(11,_),(12,_),(13,_),(18,_),(19,_),(20,_),(37,_),(38,_),(39,_),(6,_),(8,_)] ⟨rfl,rfl,rfl,rfl,rfl,rfl,rfl,rfl,rfl,rfl,rfl,rfl,trivial⟩ (K _ _ ⟨_,_,rfl,h⟩)
    refine qp qa h Z Z Z fun I o h=>Ag (h.pick [6,7] Z) (Ao 11 102399 Z (qaF (R,X) h (cB 165 Z) (qfc (h.old s6) (h.old B) (qB y6) t) Z Z Z Z fun J N z d b=>?_));obtain⟨O,P,x,A,rfl,a,c⟩:=d.cons b;obtain rfl:=qu (a.sh.own 0 Z);obtain⟨y,rfl,h⟩:=a.last c;obtain rfl:=qu (h.own 0 Z);refine G0 131071 [12,13,14] (h.pick [8,9] Z) Z (Ao 17 262143 Z (zs 2 h Z fun L h=>Ag (h.pick [8,9] Z) (Ao 18 524287 Z (zs 3 h Z fun M h=>Ag (h.pick [8,9] Z) ?_))));replace h:=h.pick [3,2,4,5,6,7,8,9] Z;exact qeJ [(0,_),(11,_),(12,_),(13,_),(18,_),(19,_),(20,_),(37,_),(38,_),(39,_),(6,_),(8,_)] ⟨rfl,rfl,rfl,rfl,rfl,rfl,rfl,rfl,rfl,rfl,rfl,rfl,trivial⟩ (K _ _ ⟨_,_,rfl,h⟩)
   rintro _ _ ⟨u,v,rfl,h⟩;refine Ad (rA [] [0,1,6] h Z fun _ h=>M1 7 [0,1,2] 2 (h.pick [0,1,6] Z) Z ?_);obtain⟨y9,_,F,he7,_,_,_,_,hp7,hq7,hr40,hc11⟩:=s4.ix F;obtain rfl:=qu hr40;refine Ae 3 15 hp7 hq7 he7 (h.pick [0,1,6] Z) Z (Al 4 31 0 hc11 (h.pick [0,1,6] Z) Z (M2 191 [5,7] 1 0 (h.pick [0,1,6] Z) Z (Ao 6 255 Z (zcO h F (qqk (qB y9) (qB R)) Z fun r10 _ S36 _ h F=>?_))));obtain rfl:=qu (h.own 0 Z);refine Ag (h.pick [1,2,7] Z) (Ao 8 511 Z ?_);replace h:=h.pick [4,5,0,1,2,3,6,7,8] Z;obtain⟨o4,hr42,F⟩:=qd F;obtain⟨x7,x8⟩:=o4;refine qr2 (cB 163 Z) (qhY h hr42) Z Z Z Z fun _ h=>?_;replace h:SH _ _ [Ch.box s [.bool x8] 4,Ch.box p (qf5 x7) 95,Ch.own S36 (r10:qc) (qdK r10),Ch.box u (qdK X) 93,Ch.box v (qdK R) 93,Ch.own S5 (H:List Int) [.slice p6 H.length k5],Ch.box l [.int .i64 0,.int .i64 0,.int .i64 0,.int .i64 0,.int .i64 0] 95,Ch.box k (qI g p3 p4 p5 k2 k3 k4) 45,Ch.box i (qam f) 59]:=h;refine Ag (h.pick [3,4,7] Z) (Ad (X0 5 Z ?_));replace h:=h.pick [5,0,1,6,7,8] Z;exact rK ⟨_,_,_,_,_,_,_,F,rfl,h⟩ Z
  exact X0 6 Z (rK ⟨_,_,_,_,_,_,_,F,rfl,h⟩ Z)
 refine qr Z ?_;obtain rfl:=qb F;replace F:=hK1;refine X1 6 1 h Z (qi Z F ?_ ?_)<;>intro F
 ·refine zSR (r_v (qaf qa [] [] Z Z Z Z Z Z Z Z) Z (zp1 Z (zs 3 h Z fun _ h=>qcU ?_)));obtain rfl:=qb F;exact qX qa (ρ:=(Bool×qf)) [GoT.v Bool [.bool false],GoT.v qf [.int .i64 0,.int .i64 0,.int .i64 0,.int .i64 0,.int .i64 0]] h ⟨rfl,⟨_,_,_,rfl,rfl,h.box 3 Z,rfl⟩,trivial⟩ (PV.done h (qP h (qy (S:=fun _=>False) Z) (qad (qy (S:=fun _=>False) (qaP (⟨0,(⟨0,0⟩:qc),(⟨0,0⟩:qc)⟩:qf)))) (by rfl)))
 refine zKS (rA [] [2] h Z fun _ h=>M1 3 [0,1] 0 (h.pick [2] Z) Z (Ao 2 7 Z (zs 3 h Z fun _ h=>Ag (h.pick [2] Z) (Ad ?_))));obtain rfl:=qb F;exact qX qa (ρ:=(Bool×qf)) [GoT.v Bool [.bool true],GoT.v qf [.int .i64 Y,.int .i64 i7,.int .i64 i8,.int .i64 i9,.int .i64 C]] h ⟨rfl,⟨_,_,_,rfl,rfl,h.box 3 Z,rfl⟩,trivial⟩ (PV.done h (qP h (qy (S:=fun _=>False) Z) (qad (qy (S:=fun _=>False) (qaP (⟨Y,(⟨i7,i8⟩:qc),(⟨i9,C⟩:qc)⟩:qf)))) (by rfl)))
end Go.Fw


namespace Go.Fw
open Go Go.Proofs Go.Proofs.Tryz
open Go.RowKit (Below)
set_option maxRecDepth 100000
set_option maxHeartbeats 1600000
variable {n:Nat}{w:World}{cs1 cs2 cs3 cs4 cs5 cs6 cs7 cs8 cs9:List Value}
def qa4 (g:(Option Tgraph))(c:qz)(sources:(List qf))(order:(List Int)):Nat→(List qc)→(List qc)→(List Bool)→Int→Option (Flow (qq×Bool) ((List qc)×(List qc)×(List Bool)×Int))
 | 0,_,_,_,_=>U
 | n+1,f,h,i,d=>
  bif decide (d<(order.length:Int)) then
   (idx order d).bind fun a=>
   (qdX n g c sources (⟨i,h,f⟩:qq) a).bind fun o=>match o with
    | (k,b)=>
     (
      bif k then
       (qh5 n (⟨b.Ac.Am,b.Ac.Au⟩:qc)).bind fun m=>
       V (!m)
      else
       V false).bind fun l=>
     bif l then V (.ret ((⟨[],[],[]⟩:qq),false)) else
     (idx i a).bind fun _=>
     (idx h a).bind fun _=>
     (idx f a).bind fun _=>
     qa4 g c sources order n (setS f a (⟨b.Aq.Am,b.Aq.Au⟩:qc)) (setS h a (⟨b.Ac.Am,b.Ac.Au⟩:qc)) (setS i a k) (W64 (d+1))
  else
   V (.nxt (f,h,i,d))
def qb3 (n:Nat)(g:(Option Tgraph))(c:qz)(sources:(List qf))(order:(List Int)):Option (qq×Bool):=
 (g).bind fun h=>
 (qiu n h.view).bind fun a=>
 (qa4 g c sources order n a.Aq a.Ac a.Aj 0).bind fun o=>match o with
 | .ret r=>V r
 | .nxt (b,d,f,_)=>
  V ((⟨f,d,b⟩:qq),true)
theorem qni {g:(Option Tgraph)}{c:qz}{sources:(List qf)}{order:(List Int)}(Y:Ro w g cs1)(A:Ro w c cs2)(a3:Ro w sources cs3)(a4:Ro w order cs4){r:(qq×Bool)}(F:qb3 n g c sources order=V r):RetV prog 45 [GoT.v (Option Tgraph) cs1,GoT.v qz cs2,GoT.v (List qf) cs3,GoT.v (List Int) cs4] w r:=by
 obtain⟨_,rfl,s1⟩:=qbV Y;obtain rfl:=qag A;obtain⟨p2,k1,rfl,s2⟩:=a3;obtain⟨p3,k2,rfl,s3⟩:=a4;refine zV 62 func45 Z fun h=>zSR (qw h Z Z fun _ d h=>qp qa h Z Z Z fun _ f h=>X0 5 Z ?_);obtain⟨_,c4,F⟩:=qd F;obtain⟨b1,O,_,rfl,-,b7,a5⟩:=PtR.get s1 c4;obtain⟨_,_,_,rfl,s4,_⟩:=qjf b7;refine zp2 Z (zc 0 (a5.below h.below) Z (zcO h F (qnG (h.old s4)) Z fun a _ _ _ h F=>?_));obtain⟨u,s,o,k,p,l,rfl,-,-,-⟩:=qM (h.own 0 Z);refine qp qa h Z Z Z fun _ i h=>zs 0 h Z fun _ h=>X0 8 Z ?_;replace h:=h.pick [1,0,2,3] Z;obtain⟨S2,S3,S4,h⟩:=qaz h;obtain⟨o1,F,x⟩:=qd F;refine qn (rL (fun m e w'=>∃(P:(List qc)) (Q:(List qc)) (R:(List Bool)) (T:Int),qa4 g c sources order m P Q R T=V o1∧e=[(0,.pointer (V ⟨b1,O,U⟩)),(2,.slice p2 sources.length k1),(5,.pointer (V ⟨d,0,U⟩)),(8,.pointer (V ⟨f,0,U⟩)),(10,.pointer (V ⟨i,0,U⟩)),(20,.slice p3 order.length k2),(21,.int .i64 (order.length:Int)),(22,.int .i64 T)]∧SH w w' [Ch.own S4 (P:List qc) [.slice p a.Aq.length l],Ch.own S3 (Q:List qc) [.slice o a.Ac.length k],Ch.own S2 (R:List Bool) [.slice u a.Aj.length s],Ch.box i (qI a u o p s k l) 45,Ch.box f [.slice U 0 0,.slice U 0 0,.slice U 0 0] 45,Ch.box d (qam c) 59]) n ⟨_,_,_,_,F,rfl,h⟩ Z ?_);rintro m1 _ _ ⟨P,Q,R,T,F,rfl,h⟩;rcases m1 with _|m1
 ·cases F
 refine X0 5 Z (qi Z F ?_ ?_)<;>intro F
 ·refine zKSBSR ?_;obtain⟨y2,_,F,b4,_,_,_,_,b5,b6,rfl,a6⟩:=s3.ix F;refine zxe b5 b6 b4 Z (zc 0 (a6.below h.below) Z (X2 9 5 3 h Z ?_));obtain⟨r2,b8,F⟩:=qd F;obtain⟨r3,b⟩:=r2;refine qaF (r3,b) h (cB 99 Z) (qm3 (h.old s1) (h.old A) ⟨_,_,rfl,(h.oldS s2)⟩ ⟨[.slice u a.Aj.length s],[.slice o a.Ac.length k,.slice p a.Aq.length l],rfl,(h.own 2 Z),⟨[.slice o a.Ac.length k],[.slice p a.Aq.length l],rfl,(h.own 1 Z),(h.own 0 Z)⟩⟩ b8) Z Z Z Z fun _ _ _ c2 b9=>?_;obtain⟨_,_,rfl,c3,c0⟩:=c2.consB b9;obtain⟨_,rfl,h⟩:=c3.last c0;obtain rfl:=qac (h.own 0 Z);refine zp3 Z (qp qa h Z Z Z fun _ v h=>zp1 Z (zs 0 h Z fun _ h=>zNSS ?_));obtain⟨W,z,_,F,y⟩:=bindE F;refine qaT (fun e w'=>∃(X:Bool),W X=V o1∧e=[(0,.pointer (V ⟨b1,O,U⟩)),(2,.slice p2 sources.length k1),(5,.pointer (V ⟨d,0,U⟩)),(8,.pointer (V ⟨f,0,U⟩)),(10,.pointer (V ⟨i,0,U⟩)),(12,.int .i64 y2),(13,.bool r3),(14,.pointer (V ⟨v,0,U⟩)),(20,.slice p3 order.length k2),(21,.int .i64 (order.length:Int)),(22,.int .i64 T),(41,.bool X)]∧SH w w' [Ch.box v (qf5 b) 95,Ch.own S4 (P:List qc) [.slice p a.Aq.length l],Ch.own S3 (Q:List qc) [.slice o a.Ac.length k],Ch.own S2 (R:List Bool) [.slice u a.Aj.length s],Ch.box i (qI a u o p s k l) 45,Ch.box f [.slice U 0 0,.slice U 0 0,.slice U 0 0] 45,Ch.box d (qam c) 59]) ?_ ?_
  ·refine X0 3 Z (qj (t:=36) F Z ?_ ?_)<;>intro F
   ·refine X1 5 0 h Z (zcB h F (qjp (qB _)) Z fun _ _ h F=>X0 4 Z ?_);replace h:=h.pick [0,2,3,4,5,6,7] Z;obtain rfl:=qb F;exact rG ⟨_,y,rfl,h⟩ Z
   refine X0 6 Z ?_;replace h:=h.pick [0,2,3,4,5,6,7] Z;obtain rfl:=qb F;exact rG ⟨_,y,rfl,h⟩ Z
  rintro _ _ ⟨X,F,rfl,h⟩;subst z;refine qi Z F ?_ ?_<;>intro F
  ·refine zSR (r_v (qaf qa [] [] Z Z Z Z Z Z Z Z) Z (zs 5 h Z fun _ h=>X0 2 Z ?_));obtain rfl:=qb F;replace F:=x;obtain rfl:=qb F;exact qX qa (ρ:=(qq×Bool)) [GoT.v qq [.slice U 0 0,.slice U 0 0,.slice U 0 0],GoT.v Bool [.bool false]] h ⟨⟨_,_,_,rfl,rfl,h.box 5 Z,rfl⟩,rfl,trivial⟩ (PV.done h (qP h (qe4 (⟨[],[],[]⟩:qq) h qeF qeF qeF (by rfl) (by rfl)) (qad (qy (S:=fun _=>False) Z)) (by rfl)))
  refine qhD (rA [] [0,4] h Z fun _ h=>M4 8191 [0,1,2,3,4,5,6,7,8,9,10,11,12] 1 1 1 0 (h.pick [0,4] Z) Z (M1 16383 [13] 0 (h.pick [0,4] Z) Z ?_));obtain⟨_,c5,F,B,_,_,_,_,H,K,rfl,a7⟩:=(h.sl 3 Z).1.ix F;refine Ax 14 32767 H K ⟨B.1,qD B.2.1 (h.sl 3 Z).2⟩ (h.pick [0,4] Z) Z (Ao 15 65535 Z (qao qa 3 0 r3 h Z c5 H K Z a7 Z Z Z Z Z Z Z fun _ h=>Ag (h.pick [0,4] Z) ?_));obtain⟨y4,c6,F,C,_,_,_,_,I,L,c1,a8⟩:=(h.sl 2 Z).1.ix F;obtain rfl:=qu c1;refine Ax 16 131071 I L ⟨C.1,qD C.2.1 (h.sl 2 Z).2⟩ (h.pick [0,4] Z) Z (Ao 17 262143 Z (qao qa 2 0 (⟨b.Ac.Am,b.Ac.Au⟩:qc) h Z c6 I L (qB y4) a8 Z Z Z (qB (⟨b.Ac.Am,b.Ac.Au⟩:qc)) Z Z Z fun _ h=>Ag (h.pick [0,4] Z) ?_));obtain⟨y5,c7,F,D,_,_,_,_,J,M,N,a9⟩:=(h.sl 1 Z).1.ix F;obtain rfl:=qu N;refine Ax 18 524287 J M ⟨D.1,qD D.2.1 (h.sl 1 Z).2⟩ (h.pick [0,4] Z) Z (Ao 19 1048575 Z (qao qa 1 0 (⟨b.Aq.Am,b.Aq.Au⟩:qc) h Z c7 J M (qB y5) a9 Z Z Z (qB (⟨b.Aq.Am,b.Aq.Au⟩:qc)) Z Z Z fun _ h=>Ag (h.pick [0,4] Z) (Ad (X0 5 Z ?_))));replace h:=h.pick [1,2,3,4,5,6] Z;exact rK ⟨_,_,_,_,F,rfl,h⟩ Z
 refine qr Z ?_;obtain rfl:=qb F;replace F:=x;refine X1 3 3 h Z (zs 4 h Z fun _ h=>X0 2 Z ?_);obtain rfl:=qb F;exact qX qa (ρ:=(qq×Bool)) [GoT.v qq (qI a u o p s k l),GoT.v Bool [.bool true]] h ⟨⟨_,_,_,rfl,rfl,h.box 4 Z,rfl⟩,rfl,trivial⟩ (PV.done h (qP h (qe4 (⟨R,Q,P⟩:qq) h (qak 2 h Z) (qak 1 h Z) (qak 0 h Z) (by rfl) (by rfl)) (qad (qy (S:=fun _=>False) Z)) (by rfl)))
end Go.Fw


namespace Go.Fw
open Go Go.Proofs Go.Proofs.Tryz
open Go.RowKit (Below)
set_option maxRecDepth 100000
set_option maxHeartbeats 1600000
variable {n:Nat}{w:World}{cs1 cs2 cs3 cs4 cs5 cs6 cs7 cs8 cs9:List Value}
def qe7 (list:(List Int))(x:Int):Nat→Int→Option (Flow Bool Int)
 | 0,_=>U
 | n+1,a=>
  bif decide (a<(list.length:Int)) then
   (idx list a).bind fun b=>
   bif (b==x) then V (.ret true) else
   qe7 list x n (W64 (a+1))
  else
   V (.nxt a)
def qja (n:Nat)(list:(List Int))(x:Int):Option Bool:=
 (qe7 list x n 0).bind fun o=>match o with
 | .ret r=>V r
 | .nxt _=>
  V false
theorem qlJ {list:(List Int)}{x:Int}(b:Ro w list cs1){r:Bool}(F:qja n list x=V r):RetV prog 86 [GoT.v (List Int) cs1,.int .i64 x] w r:=by
 obtain⟨p,l,rfl,s⟩:=b;refine zV 18 func86 Z fun h=>X0 9 Z ?_;obtain⟨o,F,a⟩:=qd F;refine qn (rL (fun m e w'=>∃(i:Int),qe7 list x m i=V o∧e=[(0,.slice p list.length l),(1,.int .i64 x),(5,.int .i64 i)]∧SH w w' []) n ⟨_,F,rfl,h⟩ Z ?_);rintro k _ _ ⟨i,F,rfl,h⟩;rcases k with _|k
 ·cases F
 refine X0 8 Z (qi Z F ?_ ?_)<;>intro F
 ·refine X0 7 Z ?_;obtain⟨_,_,F,d,_,_,_,_,f,g,rfl,c⟩:=s.ix F;refine zxe f g d Z (zc 0 (c.below h.below) Z (X0 3 Z (qi Z F ?_ ?_)))<;>intro F
  ·refine X0 4 Z ?_;obtain rfl:=qb F;replace F:=a;exact rb h F Z
  exact X0 7 Z (rK ⟨_,F,rfl,h⟩ Z)
 refine qr Z ?_;obtain rfl:=qb F;replace F:=a;exact X0 4 Z (rb h F Z)
def qee (links:(List qv))(broken:(List Int)):Nat→(List Bool)→Int→Option ((List Bool)×Int)
 | 0,_,_=>U
 | n+1,b,a=>
  bif decide (a<(links.length:Int)) then
   (qja n broken a).bind fun c=>
   (appS b ([(!c)]:List Bool)).bind fun d=>
   qee links broken n d (W64 (a+1))
  else
   V (b,a)
def qjR (n:Nat)(links:(List qv))(broken:(List Int)):Option (List Bool):=
 (qee links broken n ([]:List Bool) 0).bind fun o=>match o with
 | (a,_)=>
  V a
theorem qnU {links:(List qv)}{broken:(List Int)}(d:Ro w links cs1)(f:Ro w broken cs2){r:(List Bool)}(F:qjR n links broken=V r):RetV prog 81 [GoT.v (List qv) cs1,GoT.v (List Int) cs2] w r:=by
 obtain⟨v,s,rfl,_⟩:=d;obtain⟨x,t,rfl,s2⟩:=f;refine zV 22 func81 Z fun h=>X0 6 Z (qG qa [] _ ([]:List Bool) h Z Z Z Z Z Z Z Z Z trivial Z fun _ _ _ h=>X0 7 Z ?_);obtain⟨u,F,c⟩:=qd F;refine qn (rL (fun m e w'=>∃(S2:Nat→Prop) (k:Option Addr) (b:Nat) (i:Nat) (l:(List Bool)) (g:Int),qee links broken m l g=V u∧e=[(0,.slice v links.length s),(1,.slice x broken.length t),(5,.slice k b i),(6,.int .i64 g)]∧SH w w' [Ch.own S2 (l:List Bool) [.slice k b i]]) n ⟨_,_,_,_,_,_,F,rfl,h⟩ Z ?_);rintro o _ _ ⟨S2,k,b,i,l,g,F,rfl,h⟩;obtain rfl:=(h.sl 0 Z).2;rcases o with _|o
 ·cases F
 refine X0 8 Z (qi Z F ?_ ?_)<;>intro F
 ·refine X0 7 Z (zcB h F (qlJ ⟨_,_,rfl,(h.oldS s2)⟩) Z fun y _ h F=>zp1 Z (qG qa [.tmp 18] _ ([(!y)]:List Bool) h Z Z Z Z Z Z Z Z Z ⟨rfl,trivial⟩ Z fun _ _ _ h=>?_));obtain⟨_,a,F⟩:=qd F;obtain⟨p,a⟩:=qaD a;refine qcs qa 1 h Z (h.sl 0 Z).1 (h.sl 0 Z).2 Z Z Z Z Z Z Z Z Z p a Z fun _ _ _ _ h=>X0 8 Z ?_;replace h:=h.pick [1] Z;exact rK ⟨_,_,_,_,_,_,F,rfl,h⟩ Z
 refine qr Z ?_;obtain rfl:=qb F;replace F:=c;refine X0 5 Z ?_;obtain rfl:=qb F;exact rO 0 h Z ⟨rfl,trivial⟩
def qfi (n:Nat)(b:qe)(broken:(List Int)):Option ((List Int)×Int):=
 (qih n b broken).bind fun a=>
 bif (a != 0) then V (([]:List Int),a) else
 (qhh n b).bind fun c=>
 (qhi n b).bind fun d=>
 (qjR n c broken).bind fun f=>
 (qiy n d c f).bind fun o=>match o with
  | (g,h)=>
   bif (!h) then V (([]:List Int),7) else
   V (g,0)
theorem qmK {b:qe}{broken:(List Int)}(a:Ro w b cs1)(c:Ro w broken cs2){r:((List Int)×Int)}(F:qfi n b broken=V r):RetV prog 134 [GoT.v qe cs1,GoT.v (List Int) cs2] w r:=by
 obtain⟨_,_,_,_,_,_,_,_,_,_,rfl,_,_,_,_,_⟩:=qE a;obtain⟨_,_,rfl,p⟩:=c;refine zV 33 func134 Z fun h=>zSR (qw h Z Z fun _ _ h=>X1 8 0 h Z (zcI h F (qnR (h.old a) ⟨_,_,rfl,(h.oldS p)⟩) Z fun u _ h F=>X0 7 Z (qi Z F ?_ ?_)))<;>intro F
 ·refine zSR (qG qa [] _ ([]:List Int) h Z Z Z Z Z Z Z Z Z trivial Z fun _ t _ h=>X0 4 Z ?_);obtain rfl:=qb F;exact qX qa (ρ:=((List Int)×Int)) [GoT.v (List Int) [.slice t 0 0],GoT.v Int [.int .i64 u]] h ⟨rfl,rfl,trivial⟩ (PV.done h (qP h (qak 0 h Z) (qad (qy (S:=fun _=>False) Z)) (by rfl)))
 refine X1 4 0 h Z (zcL h F (qkb (h.old a)) Z fun _ _ _ _ _ h F=>X1 5 1 h Z (zcI h F (qjY (h.old a)) Z fun _ _ h F=>zp3 Z (zcL h F (qnU (h.own 0 Z) ⟨_,_,rfl,(h.oldS p)⟩) Z fun _ _ _ _ _ h F=>?_)));obtain⟨v,d,F⟩:=qd F;obtain⟨o,x⟩:=v;refine qaF (o,x) h (cB 204 Z) (qqV (h.own 1 Z) (h.own 0 Z) d) Z Z Z Z fun _ _ _ i f=>?_;obtain⟨_,_,l,s,_,rfl,k,g⟩:=i.consL f;obtain⟨rfl,h⟩:=k.lastB g;refine X0 12 Z (qi Z F ?_ ?_)<;>intro F
 ·refine zSR (qG qa [] _ ([]:List Int) h Z Z Z Z Z Z Z Z Z trivial Z fun _ m _ h=>X0 3 Z ?_);obtain rfl:=qb F;exact qX qa (ρ:=((List Int)×Int)) [GoT.v (List Int) [.slice m 0 0],GoT.v Int [.int .i64 7]] h ⟨rfl,rfl,trivial⟩ (PV.done h (qP h (qak 0 h Z) (qad (qy (S:=fun _=>False) Z)) (by rfl)))
 refine X0 7 Z ?_;obtain rfl:=qb F;exact qX qa (ρ:=((List Int)×Int)) [GoT.v (List Int) [.slice l o.length s],GoT.v Int [.int .i64 0]] h ⟨rfl,rfl,trivial⟩ (PV.done h (qP h (qak 0 h Z) (qad (qy (S:=fun _=>False) Z)) (by rfl)))
def qgI (n:Nat)(b:qe)(c:qz)(broken:(List Int))(sources:(List qf)):Option ((List Int)×Int):=
 (
  (qfB n b).bind fun h=>
  bif (!h) then V true else
  (qfV n c).bind fun i=>
  V (!i)).bind fun b1=>
 bif b1 then V (([]:List Int),1) else
 (
  (qih n b broken).bind fun f=>
  bif (f != 0) then V true else
  (qhb n b sources).bind fun g=>
  V (!g)).bind fun b2=>
 bif b2 then V (([]:List Int),2) else
 (qfi n b broken).bind fun o=>match o with
  | (a,d)=>
   V (a,d)
theorem qrE {b:qe}{c:qz}{broken:(List Int)}{sources:(List qf)}(a:Ro w b cs1)(l:Ro w c cs2)(p:Ro w broken cs3)(s:Ro w sources cs4){r:((List Int)×Int)}(F:qgI n b c broken sources=V r):RetV prog 79 [GoT.v qe cs1,GoT.v qz cs2,GoT.v (List Int) cs3,GoT.v (List qf) cs4] w r:=by
 obtain⟨K,B,L,C,M,D,N,H,O,I,rfl,_,_,_,_,_⟩:=qE a;obtain rfl:=qag l;obtain⟨P,J,rfl,T⟩:=p;obtain⟨Y,W,rfl,s7⟩:=s;refine zV 35 func79 Z fun h=>zSR (qw h Z Z fun _ d h=>qw h Z Z fun _ _ h=>X0 5 Z ?_);obtain⟨o,k,_,F,g⟩:=bindE F;refine qaT (fun e w'=>∃(b1:Bool),o b1=V r∧e=[(2,.slice P broken.length J),(3,.slice Y sources.length W),(4,.pointer (V ⟨d,0,U⟩)),(17,.bool b1)]∧SH w w' [Ch.box d (qJ b K L M N O B C D H I) 57]) ?_ ?_
 ·refine X1 2 1 h Z (zcB h F (qk1 (h.old a)) Z fun _ _ h F=>zp2 Z (qj (t:=13) F Z ?_ ?_))<;>intro F
  ·refine X0 5 Z ?_;replace h:=h.pick [1] Z;obtain rfl:=qb F;exact rG ⟨_,g,rfl,h⟩ Z
  refine X1 3 0 h Z (zcB h F (qmW (h.old l)) Z fun _ _ h F=>X0 4 Z ?_);replace h:=h.pick [1] Z;obtain rfl:=qb F;exact rG ⟨_,g,rfl,h⟩ Z
 rintro _ _ ⟨b1,F,rfl,h⟩;subst k;refine qi Z F ?_ ?_<;>intro F
 ·refine zSR (qG qa [] _ ([]:List Int) h Z Z Z Z Z Z Z Z Z trivial Z fun _ p8 _ h=>X0 3 Z ?_);obtain rfl:=qb F;exact qX qa (ρ:=((List Int)×Int)) [GoT.v (List Int) [.slice p8 0 0],GoT.v Int [.int .i64 1]] h ⟨rfl,rfl,trivial⟩ (PV.done h (qP h (qak 0 h Z) (qad (qy (S:=fun _=>False) Z)) (by rfl)))
 refine zKSS ?_;obtain⟨m,i,_,F,f⟩:=bindE F;refine qaT (fun e w'=>∃(b2:Bool),m b2=V r∧e=[(2,.slice P broken.length J),(4,.pointer (V ⟨d,0,U⟩)),(28,.bool b2)]∧SH w w' [Ch.box d (qJ b K L M N O B C D H I) 57]) ?_ ?_
 ·refine X1 3 0 h Z (zcI h F (qnR (h.old a) ⟨_,_,rfl,(h.oldS T)⟩) Z fun _ _ h F=>zp2 Z (qj (t:=23) F Z ?_ ?_))<;>intro F
  ·refine X0 6 Z ?_;obtain rfl:=qb F;exact rG ⟨_,f,rfl,h⟩ Z
  refine X1 5 0 h Z (zcB h F (qpu (h.old a) ⟨_,_,rfl,(h.oldS s7)⟩) Z fun _ _ h F=>X0 4 Z ?_);obtain rfl:=qb F;exact rG ⟨_,f,rfl,h⟩ Z
 rintro _ _ ⟨b2,F,rfl,h⟩;subst i;refine qi Z F ?_ ?_<;>intro F
 ·refine zSR (qG qa [] _ ([]:List Int) h Z Z Z Z Z Z Z Z Z trivial Z fun _ p9 _ h=>X0 3 Z ?_);obtain rfl:=qb F;exact qX qa (ρ:=((List Int)×Int)) [GoT.v (List Int) [.slice p9 0 0],GoT.v Int [.int .i64 2]] h ⟨rfl,rfl,trivial⟩ (PV.done h (qP h (qak 0 h Z) (qad (qy (S:=fun _=>False) Z)) (by rfl)))
 refine X1 5 0 h Z ?_;obtain⟨r1,u,F⟩:=qd F;obtain⟨Q,R⟩:=r1;refine qaF (Q,R) h (cB 134 Z) (qmK (h.old a) ⟨_,_,rfl,(h.oldS T)⟩ u) Z Z Z Z fun _ _ _ y v=>?_;obtain⟨_,_,A,X,_,rfl,z,x⟩:=y.consL v;obtain⟨rfl,h⟩:=z.lastI x;refine X0 5 Z ?_;obtain rfl:=qb F;exact qX qa (ρ:=((List Int)×Int)) [GoT.v (List Int) [.slice A Q.length X],GoT.v Int [.int .i64 R]] h ⟨rfl,rfl,trivial⟩ (PV.done h (qP h (qak 0 h Z) (qad (qy (S:=fun _=>False) Z)) (by rfl)))
def qnD (n:Nat)(b:qe)(c:qz)(broken:(List Int))(sources:(List qf))(list:(List qh)):Option ((List Int)×Int):=
 (
  (qfB n b).bind fun g=>
  bif (!g) then V true else
  (qfV n c).bind fun h=>
  V (!h)).bind fun b1=>
 bif b1 then V (([]:List Int),1) else
 (qhp n b list).bind fun a=>
 bif (!a) then V (([]:List Int),2) else
 (qgI n b c broken sources).bind fun o=>match o with
  | (d,f)=>
   V (d,f)
theorem qrI {b:qe}{c:qz}{broken:(List Int)}{sources:(List qf)}{list:(List qh)}(a:Ro w b cs1)(d:Ro w c cs2)(m:Ro w broken cs3)(o:Ro w sources cs4)(p:Ro w list cs5){r:((List Int)×Int)}(F:qnD n b c broken sources list=V r):RetV prog 33 [GoT.v qe cs1,GoT.v qz cs2,GoT.v (List Int) cs3,GoT.v (List qf) cs4,GoT.v (List qh) cs5] w r:=by
 obtain⟨P,D,Q,H,R,I,T,J,W,K,rfl,_,_,_,_,_⟩:=qE a;obtain rfl:=qag d;obtain⟨X,L,rfl,s6⟩:=m;obtain⟨Y,M,rfl,s7⟩:=o;obtain⟨p8,N,rfl,s8⟩:=p;refine zV 33 func33 Z fun h=>zSR (qw h Z Z fun _ f h=>qw h Z Z fun _ g h=>X0 5 Z ?_);obtain⟨l,k,_,F,i⟩:=bindE F;refine qaT (fun e w'=>∃(b1:Bool),l b1=V r∧e=[(2,.slice X broken.length L),(3,.slice Y sources.length M),(4,.slice p8 list.length N),(5,.pointer (V ⟨f,0,U⟩)),(6,.pointer (V ⟨g,0,U⟩)),(19,.bool b1)]∧SH w w' [Ch.box g (qam c) 59,Ch.box f (qJ b P Q R T W D H I J K) 57]) ?_ ?_
 ·refine X1 2 1 h Z (zcB h F (qk1 (h.old a)) Z fun _ _ h F=>zp2 Z (qj (t:=15) F Z ?_ ?_))<;>intro F
  ·refine X0 5 Z ?_;obtain rfl:=qb F;exact rG ⟨_,i,rfl,h⟩ Z
  refine X1 3 0 h Z (zcB h F (qmW (h.old d)) Z fun _ _ h F=>X0 4 Z ?_);obtain rfl:=qb F;exact rG ⟨_,i,rfl,h⟩ Z
 rintro _ _ ⟨b1,F,rfl,h⟩;subst k;refine qi Z F ?_ ?_<;>intro F
 ·refine zSR (qG qa [] _ ([]:List Int) h Z Z Z Z Z Z Z Z Z trivial Z fun _ p9 _ h=>X0 3 Z ?_);obtain rfl:=qb F;exact qX qa (ρ:=((List Int)×Int)) [GoT.v (List Int) [.slice p9 0 0],GoT.v Int [.int .i64 1]] h ⟨rfl,rfl,trivial⟩ (PV.done h (qP h (qak 0 h Z) (qad (qy (S:=fun _=>False) Z)) (by rfl)))
 refine X1 6 1 h Z (zcB h F (qom (h.old a) ⟨_,_,rfl,(h.oldS s8)⟩) Z fun _ _ h F=>X0 2 Z (qi Z F ?_ ?_))<;>intro F
 ·refine zSR (qG qa [] _ ([]:List Int) h Z Z Z Z Z Z Z Z Z trivial Z fun _ z _ h=>X0 3 Z ?_);obtain rfl:=qb F;exact qX qa (ρ:=((List Int)×Int)) [GoT.v (List Int) [.slice z 0 0],GoT.v Int [.int .i64 2]] h ⟨rfl,rfl,trivial⟩ (PV.done h (qP h (qak 0 h Z) (qad (qy (S:=fun _=>False) Z)) (by rfl)))
 refine X2 7 1 0 h Z ?_;obtain⟨r2,s,F⟩:=qd F;obtain⟨B,C⟩:=r2;refine qaF (B,C) h (cB 79 Z) (qrE (h.old a) (h.old d) ⟨_,_,rfl,(h.oldS s6)⟩ ⟨_,_,rfl,(h.oldS s7)⟩ s) Z Z Z Z fun _ _ _ x u=>?_;obtain⟨_,_,A,O,_,rfl,y,v⟩:=x.consL u;obtain⟨rfl,h⟩:=y.lastI v;refine X0 5 Z ?_;obtain rfl:=qb F;exact qX qa (ρ:=((List Int)×Int)) [GoT.v (List Int) [.slice A B.length O],GoT.v Int [.int .i64 C]] h ⟨rfl,rfl,trivial⟩ (PV.done h (qP h (qak 0 h Z) (qad (qy (S:=fun _=>False) Z)) (by rfl)))
def qmJ (_:Nat)(a_n:Int):Option qq:=
 (mkS a_n (false:Bool)).bind fun a=>
 (mkS a_n ((⟨0,0⟩:qc):qc)).bind fun b=>
 (mkS a_n ((⟨0,0⟩:qc):qc)).bind fun c=>
 V (⟨a,b,c⟩:qq)
theorem qq7 {a_n:Int}  {r:qq}(F:qmJ n a_n=V r):RetV prog 82 [.int .i64 a_n] w r:=by
 refine zV 10 func82 Z fun h=>zSR (qp qa h Z Z Z fun _ L h=>zNS (rA [] [] h Z fun _ h=>M0 21 [0,2,4] (h.pick [] Z) Z ?_));obtain⟨A,a,F⟩:=qd F;obtain⟨B,b,F⟩:=qd F;obtain⟨C,c,F⟩:=qd F;refine qmG (fun e w'=>∃(H:Nat→Prop) (x:Option Addr) (I:Nat→Prop) (y:Option Addr) (J:Nat→Prop) (z:Option Addr),e=[(2,.pointer (V ⟨L,0,U⟩))]∧SH w w' [Ch.own H (C:List qc) [.slice x C.length C.length],Ch.own I (B:List qc) [.slice y B.length B.length],Ch.own J (A:List Bool) [.slice z A.length A.length],Ch.box L [.slice z A.length A.length,.slice y B.length B.length,.slice x C.length C.length] 45]) 0 (bits 8 255) ?_ ?_
 ·intro K;refine qr6 1 3 5 Z Z Z (bits 8 23) (bits 8 29) (bits 8 53) (by kernel_rfl) (by kernel_rfl) (by kernel_rfl) (by kernel_rfl) ?_ ?_ ?_
  ·obtain⟨m,o,a⟩:=qR a;refine qas qa Bool h Z Z Z Z Z Z Z Z Z m o a Z fun N D M h=>Ag (h.pick [] Z) (At 3 5 31 55 Z ?_ ?_)
   ·obtain⟨d,f,b⟩:=qR b;refine qas qa qc h Z Z Z Z Z Z Z Z Z d f b Z fun t k p h=>Ag (h.pick [] Z) (Ao 5 63 Z ?_);obtain⟨g,i,c⟩:=qR c;refine qas qa qc h Z Z Z Z Z Z Z Z Z g i c Z fun u l s h=>Ag (h.pick [] Z) (Aw 6 127 (fun w' hw=>qaf qa [0,1,2] [.tmp 4,.tmp 6,.tmp 8] Z Z Z Z Z Z Z Z) (h.pick [] Z) Z ?_);exact Ao 7 255 Z (zs 3 h Z fun v h=>Ag (h.pick [] Z) (qeJ [(2,_)] ⟨rfl,trivial⟩ (K _ _ ⟨_,_,_,_,_,_,rfl,h⟩)))
   obtain⟨d,f,c⟩:=qR c;refine qas qa qc h Z Z Z Z Z Z Z Z Z d f c Z fun t k p h=>Ag (h.pick [] Z) (Ao 3 63 Z ?_);obtain⟨g,i,b⟩:=qR b;refine qas qa qc h Z Z Z Z Z Z Z Z Z g i b Z fun u l s h=>Ag (h.pick [] Z) (Aw 6 127 (fun w' hw=>qaf qa [0,1,2] [.tmp 4,.tmp 6,.tmp 8] Z Z Z Z Z Z Z Z) (h.pick [] Z) Z ?_);refine Ao 7 255 Z (zs 3 h Z fun v h=>Ag (h.pick [] Z) ?_);replace h:=h.pick [1,0,2,3] Z;exact qeJ [(2,_)] ⟨rfl,trivial⟩ (K _ _ ⟨_,_,_,_,_,_,rfl,h⟩)
  ·obtain⟨m,o,b⟩:=qR b;refine qas qa qc h Z Z Z Z Z Z Z Z Z m o b Z fun N D M h=>Ag (h.pick [] Z) (At 1 5 31 61 Z ?_ ?_)
   ·obtain⟨d,f,a⟩:=qR a;refine qas qa Bool h Z Z Z Z Z Z Z Z Z d f a Z fun t k p h=>Ag (h.pick [] Z) (Ao 5 63 Z ?_);obtain⟨g,i,c⟩:=qR c;refine qas qa qc h Z Z Z Z Z Z Z Z Z g i c Z fun u l s h=>Ag (h.pick [] Z) (Aw 6 127 (fun w' hw=>qaf qa [0,1,2] [.tmp 4,.tmp 6,.tmp 8] Z Z Z Z Z Z Z Z) (h.pick [] Z) Z ?_);refine Ao 7 255 Z (zs 3 h Z fun v h=>Ag (h.pick [] Z) ?_);replace h:=h.pick [0,2,1,3] Z;exact qeJ [(2,_)] ⟨rfl,trivial⟩ (K _ _ ⟨_,_,_,_,_,_,rfl,h⟩)
   obtain⟨d,f,c⟩:=qR c;refine qas qa qc h Z Z Z Z Z Z Z Z Z d f c Z fun t k p h=>Ag (h.pick [] Z) (Ao 1 63 Z ?_);obtain⟨g,i,a⟩:=qR a;refine qas qa Bool h Z Z Z Z Z Z Z Z Z g i a Z fun u l s h=>Ag (h.pick [] Z) (Aw 6 127 (fun w' hw=>qaf qa [0,1,2] [.tmp 4,.tmp 6,.tmp 8] Z Z Z Z Z Z Z Z) (h.pick [] Z) Z ?_);refine Ao 7 255 Z (zs 3 h Z fun v h=>Ag (h.pick [] Z) ?_);replace h:=h.pick [1,2,0,3] Z;exact qeJ [(2,_)] ⟨rfl,trivial⟩ (K _ _ ⟨_,_,_,_,_,_,rfl,h⟩)
  obtain⟨m,o,c⟩:=qR c;refine qas qa qc h Z Z Z Z Z Z Z Z Z m o c Z fun N D M h=>Ag (h.pick [] Z) (At 1 3 55 61 Z ?_ ?_)
  ·obtain⟨d,f,a⟩:=qR a;refine qas qa Bool h Z Z Z Z Z Z Z Z Z d f a Z fun t k p h=>Ag (h.pick [] Z) (Ao 3 63 Z ?_);obtain⟨g,i,b⟩:=qR b;refine qas qa qc h Z Z Z Z Z Z Z Z Z g i b Z fun u l s h=>Ag (h.pick [] Z) (Aw 6 127 (fun w' hw=>qaf qa [0,1,2] [.tmp 4,.tmp 6,.tmp 8] Z Z Z Z Z Z Z Z) (h.pick [] Z) Z ?_);refine Ao 7 255 Z (zs 3 h Z fun v h=>Ag (h.pick [] Z) ?_);replace h:=h.pick [2,0,1,3] Z;exact qeJ [(2,_)] ⟨rfl,trivial⟩ (K _ _ ⟨_,_,_,_,_,_,rfl,h⟩)
  obtain⟨d,f,b⟩:=qR b;refine qas qa qc h Z Z Z Z Z Z Z Z Z d f b Z fun t k p h=>Ag (h.pick [] Z) (Ao 1 63 Z ?_);obtain⟨g,i,a⟩:=qR a;refine qas qa Bool h Z Z Z Z Z Z Z Z Z g i a Z fun u l s h=>Ag (h.pick [] Z) (Aw 6 127 (fun w' hw=>qaf qa [0,1,2] [.tmp 4,.tmp 6,.tmp 8] Z Z Z Z Z Z Z Z) (h.pick [] Z) Z ?_);refine Ao 7 255 Z (zs 3 h Z fun v h=>Ag (h.pick [] Z) ?_);replace h:=h.pick [2,1,0,3] Z;exact qeJ [(2,_)] ⟨rfl,trivial⟩ (K _ _ ⟨_,_,_,_,_,_,rfl,h⟩)
 rintro _ _ ⟨H,x,I,y,J,z,rfl,h⟩;refine Ad ?_;obtain rfl:=qb F;exact qX qa (ρ:=qq) [GoT.v qq [.slice z A.length A.length,.slice y B.length B.length,.slice x C.length C.length]] h ⟨⟨_,_,_,rfl,rfl,h.box 3 Z,rfl⟩,trivial⟩ (PV.done h (qad (qe4 (⟨A,B,C⟩:qq) h (qak 2 h Z) (qak 1 h Z) (qak 0 h Z) (by rfl) (by rfl))))
def qh2 (n:Nat)(b:qe)(x:qv):Option Int:=
 (qcr n (⟨b.Aa.Ab,b.Aa.Ai,b.Aa.Ah⟩:qg)).bind fun a=>
 (idx a (W64 (x.To.tdiv 2))).bind fun c=>
 V c.net
theorem ql1 {b:qe}{x:qv}(c:Ro w b cs1)(d:Ro w x cs2){r:Int}(F:qh2 n b x=V r):RetV prog 141 [GoT.v qe cs1,GoT.v qv cs2] w r:=by
 obtain⟨_,_,_,_,_,_,_,_,_,_,rfl,_,s2,l,m,_⟩:=qE c;obtain rfl:=qbd d;refine zV 14 func141 Z fun h=>zSR (qw h Z Z fun _ _ h=>qw h Z Z fun _ _ h=>X0 3 Z (rA [] [0,1] h Z fun _ h=>M2 59 [0,1,3,4,5] 1 0 (h.pick [0,1] Z) Z (Ao 2 63 Z (zcL h F (qch (qav _ (h.oldS s2) (h.oldS l) (h.oldS m))) Z fun _ _ _ _ _ h F=>Ag (h.pick [1,2] Z) ?_))));obtain⟨_,_,F,a,_,_,_,_,g,i,k,f⟩:=(h.sl 0 Z).1.ix F;obtain rfl:=qb1 k;exact Ax 6 127 g i ⟨a.1,qD a.2.1 (h.sl 0 Z).2⟩ (h.pick [1,2] Z) Z (M0 255 [7] (h.pick [1,2] Z) Z (Ao 8 511 Z (zc 2 f Z (G0 1023 [9] (h.pick [1,2] Z) Z (Ad (ri h F Z))))))
def qnm (_:Nat)(list:(List Int)):Option (List Int):=
 (appS ([]:List Int) list).bind fun a=>
 V a
theorem qrV {list:(List Int)}(b:Ro w list cs1){r:(List Int)}(F:qnm n list=V r):RetV prog 315 [GoT.v (List Int) cs1] w r:=by
 obtain⟨_,_,rfl,d⟩:=b;refine zV 6 func315 Z fun h=>X0 6 Z (qG qa [] _ ([]:List Int) h Z Z Z Z Z Z Z Z Z trivial Z fun _ _ _ h=>zp1 Z ?_);obtain⟨_,a,F⟩:=qd F;obtain⟨c,a⟩:=qaD a;refine qcs qa 0 h Z (h.oldS d) Z Z Z Z Z Z Z Z Z Z c a Z fun _ _ _ _ h=>X0 2 Z ?_;obtain rfl:=qb F;exact rO 0 h Z ⟨rfl,trivial⟩
def qms (_:Nat)(l:qt)(d:qg)(p:Tl05Place):Option Int:=
 bif decide (p.instance_<0) then V 0 else
 (idx d.Ab p.instance_).bind fun a=>
 (idx l.Ap a.Bo).bind fun b=>
 (idx b.Av p.pin).bind fun c=>
 V c.Bq
theorem qs1 {l:qt}{d:qg}{p:Tl05Place}(a:Ro w l cs1)(b:Ro w d cs2)(c:Ro w p cs3){r:Int}(F:qms n l d p=V r):RetV prog 316 [GoT.v qt cs1,GoT.v qg cs2,GoT.v Tl05Place cs3] w r:=by
 obtain⟨_,_,rfl,C⟩:=qbN a;obtain⟨_,_,_,_,_,_,rfl,s2,_,_⟩:=qaI b;obtain rfl:=qb1 c;refine zV 27 func316 Z fun h=>zSR (qw h Z Z fun _ _ h=>qw h Z Z fun _ _ h=>qw h Z Z fun _ _ h=>X1 9 0 h Z (qi Z F ?_ ?_))<;>intro F
 ·exact X0 4 Z (ri h F Z)
 refine zKS (rD (Y1 2 2 h Z ?_));refine Y1 2 1 h Z ?_;refine Y1 2 0 h Z ?_;obtain⟨_,_,F,k,_,_,_,_,s,v,z,f⟩:=s2.ix F;obtain⟨_,_,rfl,_⟩:=qW z;refine zdxe s v k Z (zd1 Z (zdc 1 (f.below h.below) Z ?_));obtain⟨_,_,F,m,_,_,_,_,t,x,A,g⟩:=C.ix F;obtain⟨_,_,_,_,_,_,rfl,D,_,_⟩:=qal A;refine zdxe t x m Z (zd1 Z (zdc 2 (g.below h.below) Z (Y1 2 0 h Z ?_)));obtain⟨_,_,F,o,_,_,_,_,u,y,B,i⟩:=D.ix F;obtain rfl:=qa5 B;exact zdxe u y o Z (zd1 Z (zdc 2 (i.below h.below) Z (zd1 Z (dN h fun _ h=>ri h F Z))))
def qdD (d:qH):Nat→(List Int)→Int→Option ((List Int)×Int)
 | 0,_,_=>U
 | n+1,b,a=>
  bif decide (a > 0) then
   (idx d.Ak a).bind fun c=>
   (idx b c).bind fun f=>
   (idx b a).bind fun g=>
   (idx b c).bind fun _=>
   qdD d n (setS b c (W64 (f+g))) (W64 (a-1))
  else
   V (b,a)
def qdy (a:qe)(h:qH)(g:(List Tl05Place))(d:(List Int)):Nat→(List Int)→Int→Option ((List Int)×Int)
 | 0,_,_=>U
 | n+1,c,b=>
  bif decide (b<(d.length:Int)) then
   (idx h.Bg b).bind fun f=>
   (idx c f).bind fun k=>
   (idx d b).bind fun l=>
   (idx g l).bind fun m=>
   (qms n (⟨a.Ar.Ap⟩:qt) (⟨a.Aa.Ab,a.Aa.Ai,a.Aa.Ah⟩:qg) m).bind fun i=>
   (idx c f).bind fun _=>
   qdy a h g d n (setS c f (W64 (k+i))) (W64 (b+1))
  else
   V (c,b)
def qiI (n:Nat)(a:qe)(b:Int):Option (List Int):=
 (idx a.Af b).bind fun c=>
 (qnm n c.Bq).bind fun d=>
 (qcr n (⟨a.Aa.Ab,a.Aa.Ai,a.Aa.Ah⟩:qg)).bind fun f=>
 (qhc n (⟨a.Aa.Ab,a.Aa.Ai,a.Aa.Ah⟩:qg) b).bind fun g=>
 (qdy a c f g n d 0).bind fun o=>match o with
 | (h,_)=>
  (qdD c n h (W64 ((d.length:Int)-1))).bind fun o=>match o with
  | (i,_)=>
   V i
theorem qm8 {a:qe}{k:Int}(a5:Ro w a cs1){r:(List Int)}(F:qiI n a k=V r):RetV prog 293 [GoT.v qe cs1,.int .i64 k] w r:=by
 obtain⟨p1,k1,p2,k2,p3,k3,p4,k4,p5,k5,rfl,s1,s2,s3,s4,s5⟩:=qE a5;refine zV 76 func293 Z fun h=>zSR (qw h Z Z fun w1 l h=>X1 7 0 h Z ?_);obtain⟨Y,_,F,b3,_,_,_,_,b6,b9,c2,a6⟩:=s5.ix F;obtain⟨p6,k6,p7,k7,p8,k8,p9,k9,rfl,s6,_,s8,s9⟩:=qaS c2;refine zxe b6 b9 b3 Z (zc 0 (a6.below h.below) Z (qp qa h Z Z Z fun _ b h=>zs 0 h Z fun _ h=>X1 5 0 h Z (zcL h F (qrV ⟨_,_,rfl,(h.oldS s8)⟩) Z fun T _ S1 d c h F=>X1 6 2 h Z (zcL h F (qch (qav _ (h.oldS s2) (h.oldS s3) (h.oldS s4))) Z fun W _ S2 Q O h F=>X1 7 3 h Z (zcL h F (qj5 (qav _ (h.oldS s2) (h.oldS s3) (h.oldS s4))) Z fun X _ S3 R P h F=>X0 7 Z ?_)))));obtain⟨o1,F,a3⟩:=qd F;refine qn (rL (fun m e w'=>∃(x1:(List Int)) (i1:Int),qdy a Y W X m x1 i1=V o1∧e=[(2,.pointer (V ⟨l,0,U⟩)),(5,.pointer (V ⟨b,0,U⟩)),(6,.slice d T.length c),(7,.slice Q W.length O),(8,.slice R X.length P),(9,.int .i64 i1)]∧SH w w' [Ch.own S3 (X:List Int) [.slice R X.length P],Ch.own S2 (W:List Tl05Place) [.slice Q W.length O],Ch.own S1 (x1:List Int) [.slice d T.length c],Ch.box b (qhs Y p6 p7 p8 p9 k6 k7 k8 k9) 170,Ch.box l (qJ a p1 p2 p3 p4 p5 k1 k2 k3 k4 k5) 57]) n ⟨_,_,F,rfl,h⟩ Z ?_);rintro m1 _ _ ⟨x1,i1,F,rfl,h⟩;rcases m1 with _|m1
 ·cases F
 refine X0 8 Z (qi Z F ?_ ?_)<;>intro F
 ·refine zKSB (rA [22] [0,1,2,3,4] h Z fun _ h=>M1 15 [0,1,2,3] 3 (h.pick [0,1,2,3,4] Z) Z ?_);obtain⟨_,_,F,b4,_,_,_,_,b7,c0,rfl,a7⟩:=s9.ix F;refine Ae 4 31 b7 c0 b4 (h.pick [0,1,2,3,4] Z) Z (Al 5 63 0 a7 (h.pick [0,1,2,3,4] Z) Z ?_);obtain⟨y3,c4,F,p,_,_,_,_,y,H,rfl,_⟩:=(h.sl 2 Z).1.ix F;refine Ax 6 127 y H ⟨p.1,qD p.2.1 (h.sl 2 Z).2⟩ (h.pick [0,1,2,3,4] Z) Z (Aw 7 255 (fun w' hw=>qia qa (qbH (w1:=w) (S1:=fun _=>False) hw 2 Z c4 y H Z) (j:=0) Z Z Z) (h.pick [0,1,2,3,4] Z) Z ?_);refine M2 32767 [8,9,10,11,12,13,14] 4 4 (h.pick [0,1,2,3,4] Z) Z ?_;obtain⟨_,c5,F,s,_,_,_,_,z,I,rfl,_⟩:=(h.sl 0 Z).1.ix F;refine Ax 15 65535 z I ⟨s.1,qD s.2.1 (h.sl 0 Z).2⟩ (h.pick [0,1,2,3,4] Z) Z (Aw 16 131071 (fun w' hw=>qia qa (qbH (w1:=w) (S1:=fun _=>False) hw 0 Z c5 z I Z) (j:=0) Z Z Z) (h.pick [0,1,2,3,4] Z) Z ?_);obtain⟨y5,c6,F,t,_,_,_,_,A,J,c3,_⟩:=(h.sl 1 Z).1.ix F;obtain rfl:=qb1 c3;refine Ax 17 262143 A J ⟨t.1,qD t.2.1 (h.sl 1 Z).2⟩ (h.pick [0,1,2,3,4] Z) Z (Aw 18 524287 (fun w' hw=>qia qa (qbH hw 1 Z c6 A J (qfU (w:=w) (S:=fun _=>False) y5)) (j:=0) Z Z Z) (h.pick [0,1,2,3,4] Z) Z ?_);refine Ao 19 1048575 Z (zcI h F (qs1 (qez _ (h.oldS s1)) (qav _ (h.oldS s2) (h.oldS s3) (h.oldS s4)) (qfU y5)) Z fun r4 _ h F=>G0 2097151 [20] (h.pick [0,1,2,3,4] Z) Z ?_);obtain⟨_,c7,F,u,_,_,_,_,B,K,rfl,a8⟩:=(h.sl 2 Z).1.ix F;exact Ax 21 4194303 B K ⟨u.1,qD u.2.1 (h.sl 2 Z).2⟩ (h.pick [0,1,2,3,4] Z) Z (Ao 22 8388607 Z (qao qa 2 0 (W64 (y3+r4)) h Z c7 B K Z a8 Z Z Z Z Z Z Z fun _ h=>qbz (fun hs=>absurd (hs 22 (by decide)) (by decide)) (Ad (X0 6 Z (rK ⟨_,_,F,rfl,h⟩ Z)))))
 refine qr Z ?_;obtain rfl:=qb F;replace F:=a3;refine X0 8 Z ?_;obtain⟨o2,F,a4⟩:=qd F;refine qn ?_;replace h:=h.pick [2,3] Z;refine rL (fun m e w'=>∃(x2:(List Int)) (i2:Int),qdD Y m x2 i2=V o2∧e=[(5,.pointer (V ⟨b,0,U⟩)),(6,.slice d T.length c),(10,.int .i64 i2)]∧SH w w' [Ch.own S1 (x2:List Int) [.slice d T.length c],Ch.box b (qhs Y p6 p7 p8 p9 k6 k7 k8 k9) 170]) n ⟨_,_,F,rfl,h⟩ Z ?_;rintro m2 _ _ ⟨x2,i2,F,rfl,h⟩;rcases m2 with _|m2
 ·cases F
 refine X0 6 Z (qi Z F ?_ ?_)<;>intro F
 ·refine zKSB (rA [14] [0,1] h Z fun _ h=>M1 15 [0,1,2,3] 1 (h.pick [0,1] Z) Z ?_);obtain⟨_,_,F,b5,_,_,_,_,b8,c1,rfl,a9⟩:=s6.ix F;refine Ae 4 31 b8 c1 b5 (h.pick [0,1] Z) Z (Al 5 63 0 a9 (h.pick [0,1] Z) Z ?_);obtain⟨y8,c8,F,v,_,_,_,_,C,L,rfl,_⟩:=(h.sl 0 Z).1.ix F;refine Ax 6 127 C L ⟨v.1,qD v.2.1 (h.sl 0 Z).2⟩ (h.pick [0,1] Z) Z (Aw 7 255 (fun w' hw=>qia qa (qbH (w1:=w) (S1:=fun _=>False) hw 0 Z c8 C L Z) (j:=0) Z Z Z) (h.pick [0,1] Z) Z ?_);refine M0 1023 [8,9] (h.pick [0,1] Z) Z ?_;obtain⟨y9,c9,F,x,_,_,_,_,D,M,rfl,_⟩:=(h.sl 0 Z).1.ix F;refine Ax 10 2047 D M ⟨x.1,qD x.2.1 (h.sl 0 Z).2⟩ (h.pick [0,1] Z) Z (Aw 11 4095 (fun w' hw=>qia qa (qbH (w1:=w) (S1:=fun _=>False) hw 0 Z c9 D M Z) (j:=0) Z Z Z) (h.pick [0,1] Z) Z ?_);refine M0 8191 [12] (h.pick [0,1] Z) Z ?_;obtain⟨_,N,F,f,_,_,_,_,g,i,rfl,o⟩:=(h.sl 0 Z).1.ix F;exact Ax 13 16383 g i ⟨f.1,qD f.2.1 (h.sl 0 Z).2⟩ (h.pick [0,1] Z) Z (Ao 14 32767 Z (qao qa 0 0 (W64 (y8+y9)) h Z N g i Z o Z Z Z Z Z Z Z fun _ h=>qbz (fun hs=>absurd (hs 14 (by decide)) (by decide)) (Ad (X0 6 Z (rK ⟨_,_,F,rfl,h⟩ Z)))))
 refine qr Z ?_;obtain rfl:=qb F;replace F:=a4;refine X0 5 Z ?_;obtain rfl:=qb F;exact rO 0 h Z ⟨rfl,trivial⟩
def qkv (n:Nat)(b:qe)(x:qv):Option (qL×Int):=
 (qcr n (⟨b.Aa.Ab,b.Aa.Ai,b.Aa.Ah⟩:qg)).bind fun c=>
 (idx c (W64 (x.To.tdiv 2))).bind fun a=>
 (idx b.Aa.Ab a.instance_).bind fun f=>
 (idx b.Ar.Ap f.Bo).bind fun g=>
 (idx g.As x.Bw).bind fun h=>
 (qiI n b a.net).bind fun d=>
 (idx d 0).bind fun i=>
 V (h,i)
theorem qoi {A:Nat→Prop}(hA:∀ b,A b→old w b){b:qe}{x:qv}(y:GoT.R w A b cs1)(N:GoT.R w A x cs2){r:(qL×Int)}(F:qkv n b x=V r):RetG prog 252 [GoT.v qe cs1,GoT.v qv cs2] w A r:=by
 obtain⟨p1,k1,p2,k2,p3,k3,p4,k4,p5,k5,rfl,s1,s2,s3,s4,_⟩:=qE y;obtain rfl:=qbd N;have hg:=Rg.start hA;refine qrn func252 Z (m:=39) Z Z (fun h=>?_);refine zSR (qw h Z Z fun w1 f h=>qw h Z Z fun _ g h=>qp qa h Z Z Z fun _ c h=>X0 3 Z ?_);obtain⟨r1,I,F⟩:=qd F;obtain⟨L,a,F⟩:=qd F;refine qaT (fun e w'=>∃(d:Nat),e=[(2,.pointer (V ⟨f,0,U⟩)),(3,.pointer (V ⟨g,0,U⟩)),(4,.pointer (V ⟨c,0,U⟩)),(6,.pointer (V ⟨d,0,U⟩))]∧SH w w' [Ch.box d (qmo L) 279,Ch.box c [.int .i64 0,.int .i64 0,.int .i64 0,.int .i64 0,.slice U 0 0,.slice U 0 0] 138,Ch.box g (qki x) 225,Ch.box f (qJ b p1 p2 p3 p4 p5 k1 k2 k3 k4 k5) 57]) ?_ ?_
 ·refine rA [9] [1,2] h Z fun _ h=>M2 59 [0,1,3,4,5] 1 0 (h.pick [1,2] Z) Z (At 2 8 63 315 Z ?_ ?_)
  ·refine qa2 r1 h (cB 139 Z) (qch (qav _ (h.oldS (s2.mono hg.old)) (h.oldS (s3.mono hg.old)) (h.oldS (s4.mono hg.old))) I) Z Z Z Z fun _ _ _ _ h=>Ag (h.pick [2,3] Z) ?_;have z:=qc1 a;obtain⟨_,o_4,_,_,i,l,-,a7,_⟩:=(h.sl 0 Z).1.at a;obtain rfl:=qb1 a7;refine Ax 6 127 i l ⟨z.1,qD z.2.1 (h.sl 0 Z).2⟩ (h.pick [2,3] Z) Z (At 7 8 255 383 Z ?_ ?_)
   ·refine r_v (qia qa (qbH h 0 Z a i l (qfU (w:=w) (S:=fun _=>False) L)) (j:=0) Z Z Z) Z (Ag (h.pick [2,3] Z) (Ao 8 511 Z (qp qa h Z Z Z fun _ _ h=>Ag (h.pick [3,4] Z) (Ao 9 1023 Z (zs 0 h Z fun _ h=>qbz (fun hs=>absurd (hs 9 (by decide)) (by decide)) (Ad ?_))))));replace h:=h.pick [0,2,3,4] Z;exact rG ⟨_,rfl,h⟩ Z
   refine qp qa h Z Z Z fun _ _ h=>Ag (h.pick [3,4] Z) (Ao 7 511 Z (r_v (qia qa (qbH h 1 Z a i l (qfU (w:=w) (S:=fun _=>False) L)) (j:=0) Z Z Z) Z (Ag (h.pick [3,4] Z) (Ao 9 1023 Z (zs 0 h Z fun _ h=>qbz (fun hs=>absurd (hs 9 (by decide)) (by decide)) (Ad ?_))))));replace h:=h.pick [0,2,3,4] Z;exact rG ⟨_,rfl,h⟩ Z
  refine qp qa h Z Z Z fun _ _ h=>Ag (h.pick [2,3] Z) (Ao 2 319 Z (qa2 r1 h (cB 139 Z) (qch (qav _ (h.oldS (s2.mono hg.old)) (h.oldS (s3.mono hg.old)) (h.oldS (s4.mono hg.old))) I) Z Z Z Z fun _ _ _ _ h=>Ag (h.pick [3,4] Z) ?_));have B:=qc1 a;obtain⟨_,o_5,_,_,D,H,-,a8,_⟩:=(h.sl 0 Z).1.at a;obtain rfl:=qb1 a8;refine Ax 6 383 D H ⟨B.1,qD B.2.1 (h.sl 0 Z).2⟩ (h.pick [3,4] Z) Z (Ao 7 511 Z (r_v (qia qa (qbH h 0 Z a D H (qfU (w:=w) (S:=fun _=>False) L)) (j:=0) Z Z Z) Z (Ag (h.pick [3,4] Z) (Ao 9 1023 Z (zs 1 h Z fun _ h=>qbz (fun hs=>absurd (hs 9 (by decide)) (by decide)) (Ad ?_))))));replace h:=h.pick [1,2,3,4] Z;exact rG ⟨_,rfl,h⟩ Z
 rintro _ _ ⟨d,rfl,h⟩;refine qcx (rA [] [0,2,3] h Z fun _ h=>M3 255 [0,1,2,3,4,5,6,7] 2 2 0 (h.pick [0,2,3] Z) Z ?_);obtain⟨_,_,F,R,_,_,_,_,X,a4,a9,O⟩:=s2.ix F;obtain⟨_,_,rfl,_⟩:=qW a9;refine Ae 8 511 X a4 R (h.pick [0,2,3] Z) Z (M0 1023 [9] (h.pick [0,2,3] Z) Z (Al 10 2047 1 O (h.pick [0,2,3] Z) Z ?_));obtain⟨_,_,F,T,_,_,_,_,Y,a5,b3,P⟩:=s1.ix F;obtain⟨_,_,_,_,_,_,rfl,_,s8,_⟩:=qal b3;refine Ae 11 4095 Y a5 T (h.pick [0,2,3] Z) Z (M0 8191 [12] (h.pick [0,2,3] Z) Z (Al 13 16383 3 P (h.pick [0,2,3] Z) Z (M1 65535 [14,15] 1 (h.pick [0,2,3] Z) Z ?_)));obtain⟨v,_,F,W,_,_,_,_,a3,a6,b4,Q⟩:=s8.ix F;obtain⟨t,p,u,s,rfl,b6,b7⟩:=qaq b4;refine Ae 16 131071 a3 a6 W (h.pick [0,2,3] Z) Z (Al 17 262143 0 Q (h.pick [0,2,3] Z) Z (M2 2097151 [18,19,20] 2 0 (h.pick [0,2,3] Z) Z (Ao 21 4194303 Z (zcL h F (qm8 (h.old (GoT.mono y hg.old))) Z fun _ _ _ _ _ h F=>Ag (h.pick [1,3,4] Z) ?_))));obtain⟨M,J,F,C,_,_,_,_,k,o,rfl,_⟩:=(h.sl 0 Z).1.ix F;refine Ax 22 8388607 k o ⟨C.1,qD C.2.1 (h.sl 0 Z).2⟩ (h.pick [1,3,4] Z) Z (qmG (fun e w'=>e=[(4,.pointer (V ⟨c,0,U⟩)),(5,.int .i64 M)]∧SH w w' [Ch.box d (qmo L) 279,Ch.box c (qh3 v t u p s) 138,Ch.box g (qki x) 225,Ch.box f (qJ b p1 p2 p3 p4 p5 k1 k2 k3 k4 k5) 57]) 0 (bits 26 67108863) ?_ ?_)
 ·intro K;refine At 23 24 16777215 25165823 Z ?_ ?_
  ·refine r_v (qia qa (qbH (w1:=w) (S1:=fun _=>False) h 0 Z J k o Z) (j:=0) Z Z Z) Z (Ag (h.pick [1,3,4] Z) (Ao 24 33554431 Z (zs 2 h Z fun b8 h=>G0 67108863 [25] (h.pick [1,3,4] Z) Z ?_)));replace h:=h.pick [1,2,3,4] Z;exact qeJ [(4,_),(5,_)] ⟨rfl,rfl,trivial⟩ (K _ _ ⟨rfl,h⟩)
  refine zs 2 h Z fun b8 h=>Ag (h.pick [1,3,4] Z) (Ao 23 33554431 Z (r_v (qia qa (qbH (w1:=w) (S1:=fun _=>False) h 0 Z J k o Z) (j:=0) Z Z Z) Z (G0 67108863 [25] (h.pick [1,3,4] Z) Z ?_)));replace h:=h.pick [1,2,3,4] Z;exact qeJ [(4,_),(5,_)] ⟨rfl,rfl,trivial⟩ (K _ _ ⟨rfl,h⟩)
 rintro _ _ ⟨rfl,h⟩;refine Ad ?_;obtain rfl:=qb F;have b5:GoRs.Rs (ρ:=(qL×Int)) h.wc (reg A w h.wc) (v,M) [GoT.v qL (qh3 v t u p s),GoT.v Int [.int .i64 M]]:=⟨_,_,rfl,(hg.outR h (qgo v (hg.inS h b6) (hg.inS h b7))),⟨_,rfl,rfl⟩⟩;exact qy6 qa (ρ:=(qL×Int)) (r:=(v,M)) [GoT.v qL (qh3 v t u p s),GoT.v Int [.int .i64 M]] h ⟨⟨_,_,_,rfl,rfl,h.box 1 Z,rfl⟩,rfl,trivial⟩ b5
def qcL (_:Nat)(a:Int)(b:Int)(mode:Int):Option Int:=
 (quoS a b).bind fun c=>
 (remS a b).bind fun d=>
 (
  bif decide (d<0) then V (mode==0) else
  V false).bind fun b1=>
 bif b1 then V (W64 (c-1)) else
 bif decide (d > 0) then
  bif (mode==1) then V (W64 (c+1)) else
  V c
 else
  V c
theorem qhI {a:Int}{b:Int}{mode:Int}  {r:Int}(F:qcL n a b mode=V r):RetV prog 255 [.int .i64 a,.int .i64 b,.int .i64 mode] w r:=by
 refine zV 32 func255 Z fun h=>X0 8 Z ?_;obtain⟨m,c,F⟩:=qd F;obtain⟨k,c⟩:=qt0 c;refine r_v (qAG k Z Z) Z ?_;rw[c];refine X0 6 Z ?_;obtain⟨o,d,F⟩:=qd F;obtain⟨l,d⟩:=qtW d;refine r_v (qAF l Z Z) Z ?_;rw[d];refine X0 4 Z ?_;obtain⟨i,g,_,F,f⟩:=bindE F;refine qaT (fun e w'=>∃(b1:Bool),i b1=V r∧e=[(2,.int .i64 mode),(7,.int .i64 m),(8,.int .i64 o),(20,.bool b1)]∧SH w w' []) ?_ ?_
 ·refine X0 4 Z (qj (t:=17) F Z ?_ ?_)<;>intro F
  ·refine X0 6 Z ?_;obtain rfl:=qb F;exact rG ⟨_,f,rfl,h⟩ Z
  refine X0 4 Z ?_;obtain rfl:=qb F;exact rG ⟨_,f,rfl,h⟩ Z
 rintro _ _ ⟨b1,F,rfl,h⟩;subst g;refine qi Z F ?_ ?_<;>intro F
 ·exact X0 6 Z (ri h F Z)
 refine X0 7 Z (qj (t:=25) F Z ?_ ?_)<;>intro F
 ·refine X0 6 Z (qi Z F ?_ ?_)<;>intro F
  ·exact X0 6 Z (ri h F Z)
  exact X0 6 Z (ri h F Z)
 exact X0 4 Z (qbL Z Z (X0 6 Z (ri h F Z)))
def qbI (axis:(List Int))(x:Int)(a:Int)(c:Int):Nat→Int→Option (Flow (Int×Int×Int) Int)
 | 0,_=>U
 | n+1,b=>
  bif decide (b ≥ 0) then
   (idx axis b).bind fun d=>
   bif ((if c<(if a > x then a else x) then c else(if a > x then a else x))==d) then V (.ret (b,1,0)) else
   (idx axis b).bind fun f=>
   bif decide ((if c<(if a > x then a else x) then c else(if a > x then a else x)) > f) then
    (idx axis (W64 (b+1))).bind fun g=>
    (idx axis b).bind fun h=>
    V (.ret (b,W64 (g-(if c<(if a > x then a else x) then c else(if a > x then a else x))),W64 ((if c<(if a > x then a else x) then c else(if a > x then a else x))-h)))
   else
    qbI axis x a c n (W64 (b-1))
  else
   V (.nxt b)
def qfp (n:Nat)(axis:(List Int))(x:Int):Option (Int×Int×Int):=
 (idx axis 0).bind fun a=>
 (idx axis (W64 ((axis.length:Int)-1))).bind fun b=>
 (qbI axis x a b n (W64 ((axis.length:Int)-1))).bind fun o=>match o with
 | .ret r=>V r
 | .nxt _=>
  V (0,1,0)
theorem qlW {axis:(List Int)}{x:Int}(g:Ro w axis cs1){r:(Int×Int×Int)}(F:qfp n axis x=V r):RetV prog 294 [GoT.v (List Int) cs1,.int .i64 x] w r:=by
 obtain⟨W,R,rfl,d⟩:=g;refine zV 56 func294 Z fun h=>X0 16 Z ?_;obtain⟨a,_,F,t,_,_,_,_,B,K,rfl,i⟩:=d.ix F;refine zxe B K t Z (zc 0 (i.below h.below) Z (X0 9 Z ?_));obtain⟨c,_,F,u,_,_,_,_,C,L,rfl,k⟩:=d.ix F;refine zxe C L u Z (zc 0 (k.below h.below) Z (X0 10 Z ?_));obtain⟨T,F,b⟩:=qd F;refine qn (rL (fun m e w'=>∃(f:Int),qbI axis x a c m f=V T∧e=[(0,.slice W axis.length R),(1,.int .i64 (if c<(if a > x then a else x) then c else(if a > x then a else x))),(8,.int .i64 f)]∧SH w w' []) n ⟨_,F,rfl,h⟩ Z ?_);rintro Q _ _ ⟨f,F,rfl,h⟩;rcases Q with _|Q
 ·cases F
 refine X0 6 Z (qi Z F ?_ ?_)<;>intro F
 ·refine X0 9 Z ?_;obtain⟨_,_,F,v,_,_,_,_,D,M,rfl,l⟩:=d.ix F;refine zxe D M v Z (zc 0 (l.below h.below) Z (X0 2 Z (qi Z F ?_ ?_)))<;>intro F
  ·refine X0 7 Z ?_;obtain rfl:=qb F;replace F:=b;obtain rfl:=qb F;exact qX qa (ρ:=(Int×Int×Int)) [GoT.v Int [.int .i64 f],GoT.v Int [.int .i64 1],GoT.v Int [.int .i64 0]] h ⟨rfl,rfl,rfl,trivial⟩ (PV.done h (qP h (qy (S:=fun _=>False) Z) (qP h (qy (S:=fun _=>False) Z) (qad (qy (S:=fun _=>False) Z)) (by rfl)) (by rfl)))
  refine X0 6 Z ?_;obtain⟨_,_,F,y,_,_,_,_,H,N,rfl,o⟩:=d.ix F;refine zxe H N y Z (zc 0 (o.below h.below) Z (X0 2 Z (qi Z F ?_ ?_)))<;>intro F
  ·refine qcx (rD (zd4 Z ?_));obtain⟨X,_,F,z,_,_,_,_,I,O,rfl,p⟩:=d.ix F;refine zdxe I O z Z (zdc 0 (p.below h.below) Z (zd5 Z ?_));obtain⟨Y,_,F,A,_,_,_,_,J,P,rfl,s⟩:=d.ix F;refine zdxe J P A Z (zdc 0 (s.below h.below) Z (zd4 Z (dN h fun _ h=>?_)));obtain rfl:=qb F;replace F:=b;obtain rfl:=qb F;exact qX qa (ρ:=(Int×Int×Int)) [GoT.v Int [.int .i64 f],GoT.v Int [.int .i64 (W64 (X-(if c<(if a > x then a else x) then c else(if a > x then a else x))))],GoT.v Int [.int .i64 (W64 ((if c<(if a > x then a else x) then c else(if a > x then a else x))-Y))]] h ⟨rfl,rfl,rfl,trivial⟩ (PV.done h (qP h (qy (S:=fun _=>False) Z) (qP h (qy (S:=fun _=>False) Z) (qad (qy (S:=fun _=>False) Z)) (by rfl)) (by rfl)))
  exact X0 7 Z (rK ⟨_,F,rfl,h⟩ Z)
 refine qr Z ?_;obtain rfl:=qb F;replace F:=b;refine X0 6 Z ?_;obtain rfl:=qb F;exact qX qa (ρ:=(Int×Int×Int)) [GoT.v Int [.int .i64 0],GoT.v Int [.int .i64 1],GoT.v Int [.int .i64 0]] h ⟨rfl,rfl,rfl,trivial⟩ (PV.done h (qP h (qy (S:=fun _=>False) Z) (qP h (qy (S:=fun _=>False) Z) (qad (qy (S:=fun _=>False) Z)) (by rfl)) (by rfl)))
def qcv (a:qx)(f:Int)(g:Int)(h:Int)(i:Int)(k:Int)(l:Int)(c:Int):Nat→Int→Int→Option (Int×Int)
 | 0,_,_=>U
 | n+1,d,b=>
  bif decide (b<2) then
   (
    bif (c==1) then V h else
    V g).bind fun m=>
   (
    bif (b==0) then V (W64 (m*k)) else
    V (W64 (m*l))).bind fun o=>
   bif decide (o > 0) then
    (idx a.Ba (W64 ((W64 ((W64 ((W64 (f+c))*(a.Bb.length:Int)))+i))+b))).bind fun p=>
    qcv a f g h i k l c n (W64 (d+(W64 (o*p)))) (W64 (b+1))
   else
    qcv a f g h i k l c n d (W64 (b+1))
  else
   V (d,b)
def qeo (a:qx)(d:Int)(f:Int)(g:Int)(h:Int)(i:Int)(k:Int):Nat→Int→Int→Option (Int×Int)
 | 0,_,_=>U
 | n+1,c,b=>
  bif decide (b<2) then
   (qcv a d f g h i k b n c 0).bind fun o=>match o with
   | (l,_)=>
    qeo a d f g h i k n l (W64 (b+1))
  else
   V (c,b)
def qh7 (n:Nat)(a:qx)(b:Int)(c:Int)(d:Int):Option Int:=
 (qfp n a.Bi b).bind fun o=>match o with
  | (l,f,g)=>
   (qfp n a.Bb c).bind fun o=>match o with
    | (m,h,i)=>
     (qeo a l f g m h i n 0 0).bind fun o=>match o with
     | (k,_)=>
      (qcL n k (W64 ((W64 (f+g))*(W64 (h+i)))) d).bind fun p=>
      V p
theorem qnT {a:qx}{p:Int}{s:Int}{c:Int}(N:Ro w a cs1){r:Int}(F:qh7 n a p s c=V r):RetV prog 253 [GoT.v qx cs1,.int .i64 p,.int .i64 s,.int .i64 c] w r:=by
 obtain⟨D,A,H,B,I,C,rfl,s1,s2,s3⟩:=qaK N;refine zV 88 func253 Z fun h=>zSR (qw h Z Z fun _ b h=>X1 7 0 h Z ?_);obtain⟨r1,S,F⟩:=qd F;obtain⟨f,g,i⟩:=r1;refine qaF (f,g,i) h (cB 294 Z) (qlW ⟨_,_,rfl,(h.oldS s1)⟩ S) Z Z Z Z fun _ _ _ a6 T=>?_;obtain⟨_,_,rfl,a7,W⟩:=a6.consI T;obtain⟨_,_,rfl,a8,X⟩:=a7.consI W;obtain⟨rfl,h⟩:=a8.lastI X;refine X1 13 0 h Z ?_;obtain⟨r5,Y,F⟩:=qd F;obtain⟨k,l,o⟩:=r5;refine qaF (k,l,o) h (cB 294 Z) (qlW ⟨_,_,rfl,(h.oldS s2)⟩ Y) Z Z Z Z fun _ _ _ a9 a3=>?_;obtain⟨_,_,rfl,b3,a4⟩:=a9.consI a3;obtain⟨_,_,rfl,b4,a5⟩:=b3.consI a4;obtain⟨rfl,h⟩:=b4.lastI a5;refine X1 24 0 h Z ?_;obtain⟨o1,F,L⟩:=qd F;refine qn (rL (fun m e w'=>∃(i1:Int) (d:Int),qeo a f g i k l o m i1 d=V o1∧e=[(3,.int .i64 c),(4,.pointer (V ⟨b,0,U⟩)),(9,.int .i64 f),(10,.int .i64 g),(11,.int .i64 i),(12,.int .i64 k),(13,.int .i64 l),(14,.int .i64 o),(15,.int .i64 (a.Bb.length:Int)),(16,.int .i64 i1),(17,.int .i64 d)]∧SH w w' [Ch.box b (qhH a D H I A B C) 142]) n ⟨_,_,F,rfl,h⟩ Z ?_);rintro m1 _ _ ⟨i1,d,F,rfl,h⟩;rcases m1 with _|m1
 ·cases F
 refine X0 6 Z (qi Z F ?_ ?_)<;>intro F
 ·refine X0 7 Z ?_;obtain⟨o2,F,M⟩:=qd F;refine qn (rL (fun m e w'=>∃(y:Int) (z:Int),qcv a f g i k l o d m y z=V o2∧e=[(3,.int .i64 c),(4,.pointer (V ⟨b,0,U⟩)),(9,.int .i64 f),(10,.int .i64 g),(11,.int .i64 i),(12,.int .i64 k),(13,.int .i64 l),(14,.int .i64 o),(15,.int .i64 (a.Bb.length:Int)),(16,.int .i64 y),(17,.int .i64 d),(18,.int .i64 z)]∧SH w w' [Ch.box b (qhH a D H I A B C) 142]) m1 ⟨_,_,F,rfl,h⟩ Z ?_);rintro m2 _ _ ⟨y,z,F,rfl,h⟩;rcases m2 with _|m2
  ·cases F
  refine X0 6 Z (qi Z F ?_ ?_)<;>intro F
  ·refine X0 14 Z ?_;obtain⟨K,x,_,F,u⟩:=bindE F;refine qaT (fun e w'=>∃(i5:Int),K i5=V o2∧e=[(3,.int .i64 c),(4,.pointer (V ⟨b,0,U⟩)),(9,.int .i64 f),(10,.int .i64 g),(11,.int .i64 i),(12,.int .i64 k),(13,.int .i64 l),(14,.int .i64 o),(15,.int .i64 (a.Bb.length:Int)),(16,.int .i64 y),(17,.int .i64 d),(18,.int .i64 z),(19,.int .i64 i5)]∧SH w w' [Ch.box b (qhH a D H I A B C) 142]) ?_ ?_
   ·refine qi Z F ?_ ?_<;>intro F
    ·refine X0 4 Z ?_;obtain rfl:=qb F;exact rG ⟨_,u,rfl,h⟩ Z
    refine qhD ?_;obtain rfl:=qb F;exact rG ⟨_,u,rfl,h⟩ Z
   rintro _ _ ⟨i5,F,rfl,h⟩;subst x;refine X0 6 Z ?_;obtain⟨J,v,_,F,t⟩:=bindE F;refine qaT (fun e w'=>∃(i6:Int),J i6=V o2∧e=[(3,.int .i64 c),(4,.pointer (V ⟨b,0,U⟩)),(9,.int .i64 f),(10,.int .i64 g),(11,.int .i64 i),(12,.int .i64 k),(13,.int .i64 l),(14,.int .i64 o),(15,.int .i64 (a.Bb.length:Int)),(16,.int .i64 y),(17,.int .i64 d),(18,.int .i64 z),(19,.int .i64 i6)]∧SH w w' [Ch.box b (qhH a D H I A B C) 142]) ?_ ?_
   ·refine qi Z F ?_ ?_<;>intro F
    ·refine X0 6 Z ?_;obtain rfl:=qb F;exact rG ⟨_,t,rfl,h⟩ Z
    refine X0 6 Z ?_;obtain rfl:=qb F;exact rG ⟨_,t,rfl,h⟩ Z
   rintro _ _ ⟨i6,F,rfl,h⟩;subst v;refine X0 5 Z (qi Z F ?_ ?_)<;>intro F
   ·refine X1 14 0 h Z ?_;obtain⟨_,_,F,P,_,_,_,_,Q,R,rfl,O⟩:=s3.ix F;exact zxe Q R P Z (zc 0 (O.below h.below) Z (X0 10 Z (rK ⟨_,_,F,rfl,h⟩ Z)))
   exact X0 7 Z (rK ⟨_,_,F,rfl,h⟩ Z)
  refine qr Z ?_;obtain rfl:=qb F;replace F:=M;exact X0 6 Z (rK ⟨_,_,F,rfl,h⟩ Z)
 refine qr Z ?_;obtain rfl:=qb F;replace F:=L;exact X0 11 Z (zcI h F qhI Z fun _ _ h F=>X0 2 Z (ri h F Z))
def qd7 (d:qH)(b:(List Int)):Nat→(List Int)→Int→Option ((List Int)×Int)
 | 0,_,_=>U
 | n+1,c,a=>
  bif decide (a<(b.length:Int)) then
   (idx d.Ak a).bind fun g=>
   (idx c g).bind fun h=>
   (idx d.Bt a).bind fun i=>
   (idx b a).bind fun k=>
   (appS c ([W64 (h+(W64 (i*k)))]:List Int)).bind fun f=>
   qd7 d b n f (W64 (a+1))
  else
   V (c,a)
def qhE (n:Nat)(b:qe)(net:Int):Option (List Int):=
 (idx b.Af net).bind fun d=>
 (qiI n b net).bind fun a=>
 (qd7 d a n ([0]:List Int) 1).bind fun o=>match o with
 | (c,_)=>
  V c
theorem qmm {b:qe}{net:Int}(i:Ro w b cs1){r:(List Int)}(F:qhE n b net=V r):RetV prog 295 [GoT.v qe cs1,.int .i64 net] w r:=by
 obtain⟨_,_,_,_,_,_,_,_,_,_,rfl,_,_,_,_,s5⟩:=qE i;refine zV 47 func295 Z fun h=>zSR (qw h Z Z fun w1 _ h=>X1 7 0 h Z ?_);obtain⟨X,_,F,B,_,_,_,_,H,L,P,x⟩:=s5.ix F;obtain⟨p6,k6,p7,k7,p8,k8,p9,k9,rfl,s6,s7,_,_⟩:=qaS P;refine zxe H L B Z (zc 0 (x.below h.below) Z (qp qa h Z Z Z fun _ g h=>zs 0 h Z fun _ h=>X1 5 1 h Z (zcL h F (qm8 (h.old i)) Z fun u _ S1 t s h F=>X0 4 Z (qG qa [.const (.int .i64 (0))] _ ([0]:List Int) h Z Z Z Z Z Z Z Z Z ⟨rfl,trivial⟩ Z fun _ _ _ h=>X0 7 Z ?_))));obtain⟨o1,F,v⟩:=qd F;refine qn ?_;replace h:=h.pick [0,1,2] Z;refine rL (fun m e w'=>∃(T:Nat→Prop) (f:Option Addr) (d:Nat) (c:Nat) (S:(List Int)) (R:Int),qd7 X u m S R=V o1∧e=[(5,.pointer (V ⟨g,0,U⟩)),(6,.slice t u.length s),(7,.slice f d c),(8,.int .i64 R)]∧SH w w' [Ch.own T (S:List Int) [.slice f d c],Ch.own S1 (u:List Int) [.slice t u.length s],Ch.box g (qhs X p6 p7 p8 p9 k6 k7 k8 k9) 170]) n ⟨_,_,_,_,_,_,F,rfl,h⟩ Z ?_;rintro W _ _ ⟨T,f,d,c,S,R,F,rfl,h⟩;obtain rfl:=(h.sl 0 Z).2;rcases W with _|W
 ·cases F
 refine X0 8 Z (qi Z F ?_ ?_)<;>intro F
 ·refine zKSB (rA [] [1,2] h Z fun _ h=>M1 31 [0,1,2,3,4] 1 (h.pick [1,2] Z) Z ?_);obtain⟨_,_,F,C,_,_,_,_,I,M,rfl,y⟩:=s6.ix F;refine Ae 5 63 I M C (h.pick [1,2] Z) Z (Al 6 127 0 y (h.pick [1,2] Z) Z ?_);obtain⟨y3,_,F,k,_,_,_,_,J,N,rfl,z⟩:=(h.sl 0 Z).1.ix F;refine Ax 7 255 J N ⟨k.1,qD k.2.1 (h.sl 0 Z).2⟩ (h.pick [1,2] Z) Z (M1 3839 [9,10,11] 1 (h.pick [1,2] Z) Z ?_);obtain⟨y4,_,F,D,_,_,_,_,K,O,rfl,A⟩:=s7.ix F;refine Ae 12 7935 K O D (h.pick [1,2] Z) Z (Al 13 16127 0 A (h.pick [1,2] Z) Z (M0 65279 [14,15] (h.pick [1,2] Z) Z ?_));obtain⟨y5,Q,F,l,_,_,_,_,o,p,rfl,_⟩:=(h.sl 1 Z).1.ix F;refine Ax 16 130815 o p ⟨l.1,qD l.2.1 (h.sl 1 Z).2⟩ (h.pick [1,2] Z) Z (Aw 17 261887 (fun w' hw=>qia qa (qbH (w1:=w) (S1:=fun _=>False) hw 0 Z Q o p Z) (j:=0) Z Z Z) (h.pick [1,2] Z) Z ?_);refine M0 524031 [18] (h.pick [1,2] Z) Z (Ao 8 524287 Z (zc 0 z Z (G0 1048575 [19] (h.pick [1,2] Z) Z (Ao 20 2097151 Z (qG qa [.tmp 43] _ ([W64 (y3+(W64 (y4*y5)))]:List Int) h Z Z Z Z Z Z Z Z Z ⟨rfl,trivial⟩ Z fun _ _ _ h=>Ag (h.pick [2,3] Z) (Ao 21 4194303 Z ?_))))));obtain⟨_,a,F⟩:=qd F;obtain⟨Y,a⟩:=qaD a;refine qcs qa 1 h Z (h.sl 0 Z).1 (h.sl 0 Z).2 Z Z Z Z Z Z Z Z Z Y a Z fun _ _ _ _ h=>G0 8388607 [22] (h.pick [2,3] Z) Z (Ad (X0 6 Z ?_));replace h:=h.pick [1,2,3] Z;exact rK ⟨_,_,_,_,_,_,F,rfl,h⟩ Z
 refine qr Z ?_;obtain rfl:=qb F;replace F:=v;refine X0 5 Z ?_;obtain rfl:=qb F;exact rO 0 h Z ⟨rfl,trivial⟩
def qbS (b:qe)(net:Int)(mode:Int)(c:(List Int)):Nat→(List Int)→Int→Option ((List Int)×Int)
 | 0,_,_=>U
 | n+1,d,a=>
  (idx b.Af net).bind fun h=>
  bif decide (a<(h.Bg.length:Int)) then
   (idx b.Af net).bind fun i=>
   (idx i.Bg a).bind fun k=>
   (idx c k).bind fun l=>
   (qcL n l 1000 mode).bind fun f=>
   (appS d ([f]:List Int)).bind fun g=>
   qbS b net mode c n g (W64 (a+1))
  else
   V (d,a)
def qgG (n:Nat)(b:qe)(net:Int)(mode:Int):Option (List Int):=
 (qhE n b net).bind fun a=>
 (qbS b net mode a n ([]:List Int) 0).bind fun o=>match o with
 | (c,_)=>
  V c
theorem qn0 {b:qe}{net:Int}{mode:Int}(f:Ro w b cs1){r:(List Int)}(F:qgG n b net mode=V r):RetV prog 254 [GoT.v qe cs1,.int .i64 net,.int .i64 mode] w r:=by
 obtain⟨p1,X,p2,Y,p3,k3,p4,k4,p5,k5,rfl,_,_,_,_,T⟩:=qE f;refine zV 43 func254 Z fun h=>zSR (qw h Z Z fun _ d h=>X1 6 0 h Z (zcL h F (qmm (h.old f)) Z fun i _ S1 S Q h F=>X0 4 Z (qG qa [] _ ([]:List Int) h Z Z Z Z Z Z Z Z Z trivial Z fun _ _ _ h=>X0 7 Z ?_)));obtain⟨o1,F,k⟩:=qd F;refine qn (rL (fun m e w'=>∃(P:Nat→Prop) (M:Option Addr) (c:Nat) (L:Nat) (O:(List Int)) (K:Int),qbS b net mode i m O K=V o1∧e=[(1,.int .i64 net),(2,.int .i64 mode),(3,.pointer (V ⟨d,0,U⟩)),(7,.slice S i.length Q),(8,.slice M c L),(9,.int .i64 K)]∧SH w w' [Ch.own P (O:List Int) [.slice M c L],Ch.own S1 (i:List Int) [.slice S i.length Q],Ch.box d (qJ b p1 p2 p3 p4 p5 X Y k3 k4 k5) 57]) n ⟨_,_,_,_,_,_,F,rfl,h⟩ Z ?_);rintro R _ _ ⟨P,M,c,L,O,K,F,rfl,h⟩;obtain rfl:=(h.sl 0 Z).2;rcases R with _|R
 ·cases F
 refine X1 7 2 h Z ?_;obtain⟨_,_,F,t,_,_,_,_,x,B,I,l⟩:=T.ix F;obtain⟨_,_,_,_,_,_,_,_,rfl,_,_,_,_⟩:=qaS I;refine zxe x B t Z (zp1 Z (zc 3 (l.below h.below) Z (X0 3 Z (qi Z F ?_ ?_))))<;>intro F
 ·refine X1 9 2 h Z ?_;obtain⟨_,_,F,u,_,_,_,_,y,C,J,o⟩:=T.ix F;obtain⟨_,_,_,_,_,_,_,_,rfl,_,_,_,N⟩:=qaS J;refine zxe y C u Z (zp1 Z (zc 3 (o.below h.below) Z (zp1 Z ?_)));obtain⟨_,_,F,v,_,_,_,_,z,D,rfl,p⟩:=N.ix F;refine zxe z D v Z (zc 0 (p.below h.below) Z ?_);obtain⟨_,_,F,g,_,_,_,_,A,H,rfl,s⟩:=(h.sl 1 Z).1.ix F;refine zx A H ⟨g.1,qD g.2.1 (h.sl 1 Z).2⟩ Z (zc 0 s Z (zp1 Z (zcI h F qhI Z fun r2 _ h F=>qG qa [.tmp 39] _ ([r2]:List Int) h Z Z Z Z Z Z Z Z Z ⟨rfl,trivial⟩ Z fun _ _ _ h=>?_)));obtain⟨_,a,F⟩:=qd F;obtain⟨W,a⟩:=qaD a;refine qcs qa 1 h Z (h.sl 0 Z).1 (h.sl 0 Z).2 Z Z Z Z Z Z Z Z Z W a Z fun _ _ _ _ h=>X0 8 Z ?_;replace h:=h.pick [1,2,3] Z;exact rK ⟨_,_,_,_,_,_,F,rfl,h⟩ Z
 refine qr Z ?_;obtain rfl:=qb F;replace F:=k;refine X0 5 Z ?_;obtain rfl:=qb F;exact rO 0 h Z ⟨rfl,trivial⟩
def qhZ (_:Nat)(c:qz)(kind:Int)(mode:Int):Option Int:=
 bif (kind==1) then
  bif (mode==0) then V c.Bc else
  V c.Be
 else
  bif (mode==0) then V c.Bd else
  V c.Bh
theorem qmv {c:qz}{kind:Int}{mode:Int}(a:Ro w c cs1){r:Int}(F:qhZ n c kind mode=V r):RetV prog 256 [GoT.v qz cs1,.int .i64 kind,.int .i64 mode] w r:=by
 obtain rfl:=qag a;refine zV 21 func256 Z fun h=>zSR (qw h Z Z fun _ _ h=>X0 8 Z (qi Z F ?_ ?_))<;>intro F
 ·refine X0 6 Z (qi Z F ?_ ?_)<;>intro F
  ·exact X1 6 0 h Z (ri h F Z)
  exact X1 7 0 h Z (ri h F Z)
 refine X0 7 Z (qi Z F ?_ ?_)<;>intro F
 ·exact X1 6 0 h Z (ri h F Z)
 exact X1 7 0 h Z (ri h F Z)
def qdL (n:Nat)(b:qe)(c:qz)(x:qv)(slew:Int)(mode:Int):Option Int:=
 bif (x.Ay==1) then
  (qkv n b x).bind fun o=>match o with
   | (d,f)=>
    (idx d.Bj (x.To.tmod 2)).bind fun p=>
    (qh7 n p slew f mode).bind fun g=>
    (qhZ n c x.Ay mode).bind fun h=>
    (qcL n (W64 (g*h)) 1000 mode).bind fun i=>
    V i
 else
  (qh2 n b x).bind fun k=>
  (qgG n b k mode).bind fun l=>
  (idx l x.Bw).bind fun r=>
  (qhZ n c x.Ay mode).bind fun m=>
  (qcL n (W64 (r*m)) 1000 mode).bind fun a=>
  V a
theorem qdx {b:qe}{c:qz}{x:qv}{slew:Int}{mode:Int}(i:Ro w b cs1)(k:Ro w c cs2)(f:Ro w x cs3){r:Int}(F:qdL n b c x slew mode=V r):RetV prog 205 [GoT.v qe cs1,GoT.v qz cs2,GoT.v qv cs3,.int .i64 slew,.int .i64 mode] w r:=by
 obtain⟨_,_,_,_,_,_,_,_,_,_,rfl,_,_,_,_,_⟩:=qE i;obtain rfl:=qag k;obtain rfl:=qbd f;refine zV 53 func205 Z fun h=>zSR (qw h Z Z fun _ _ h=>qw h Z Z fun _ _ h=>qw h Z Z fun _ _ h=>X1 13 0 h Z (qi Z F ?_ ?_))<;>intro F
 ·refine X2 4 2 0 h Z ?_;have a:Rg (old w) w (old w) w:=.start (fun _ h=>h);obtain⟨S,B,F⟩:=qd F;obtain⟨T,W⟩:=S;refine qr3 (T,W) a h (cB 252 Z) (qoi (a.regOld h) (a.inR h i) (a.inR h f) B) Z Z Z Z fun _ _ _ g d J H=>?_;have N:=h.ext d.below;have p:=Up.box 1 h d Z;have X:=Up.R a h d k;have O:=Up.boxP (x:=c) a 1 h d Z (a.inR h k);have l:=Up.box 0 h d Z;have s7:=Up.R a h d f;have P:=Up.boxP (x:=x) a 0 h d Z (a.inR h f);have R:=h.below.trans (d.below.mono h.below.size);replace h:=J;obtain⟨_,_,rfl,o,I⟩:=qwX H;have Q:=o;obtain⟨_,_,_,_,rfl,Y,_⟩:=qaq o;obtain⟨_,rfl,C⟩:=qun I;obtain rfl:=C;refine zp3 Z (qp qa h Z Z Z fun _ _ h=>zs 0 h Z fun _ h=>X1 6 0 h Z (zc 1 (l.below h.below) Z (zp1 Z ?_)));obtain⟨e,_,F,u,_,_,_,_,v,z,D,s⟩:=Y.ix F;obtain⟨_,_,_,_,_,_,rfl,K,L,M⟩:=qaK D;refine zxe v z u Z (zc 0 (s.below h.below) Z (zp3 Z (zcI h F (qnT (qf0 e (h.oldS (K.mono g.old)) (h.oldS (L.mono g.old)) (h.oldS (M.mono g.old)))) Z fun _ _ h F=>X0 5 Z (zc 0 (p.below h.below) Z (zp1 Z (zc 2 (l.below h.below) Z (zp1 Z (zcI h F (qmv (h.old (GoT.mono X g.old))) Z fun _ _ h F=>zp2 Z (zcI h F qhI Z fun _ _ h F=>X0 2 Z ?_)))))))));replace h:=h.unbase g.below ⟨fun _ h=>h,trivial⟩;exact ri h F Z
 refine rA [] [0,2] h Z fun _ h=>M4 215 [0,1,2,4,6,7] 1 1 0 0 (h.pick [0,2] Z) Z (Ao 3 223 Z (zcI h F (ql1 (h.old i) (h.old f)) Z fun _ _ h F=>Ag (h.pick [0,2] Z) (Ao 5 255 Z (zcL h F (qn0 (h.old i)) Z fun _ _ _ _ _ h F=>Ag (h.pick [1,3] Z) ?_))));obtain⟨_,_,F,m,_,_,_,_,y,A,rfl,t⟩:=(h.sl 0 Z).1.ix F;exact Ax 8 511 y A ⟨m.1,qD m.2.1 (h.sl 0 Z).2⟩ (h.pick [1,3] Z) Z (Ao 9 1023 Z (zc 0 t Z (G0 2047 [10] (h.pick [1,3] Z) Z (Ad (X2 7 2 1 h Z (zcI h F (qmv (h.old k)) Z fun _ _ h F=>zp2 Z (zcI h F qhI Z fun _ _ h F=>X0 2 Z (ri h F Z))))))))
def qek (a_n:Int):Nat→Int→Int→Option (Int×Int)
 | 0,_,_=>U
 | n+1,a,b=>
  bif decide (a<b) then
   bif decide ((W64 ((W64 ((W64 ((W64 (a+b))+1)).tdiv 2))*(W64 ((W64 ((W64 (a+b))+1)).tdiv 2))))≤a_n) then qek a_n n (W64 ((W64 ((W64 (a+b))+1)).tdiv 2)) b else
   qek a_n n a (W64 ((W64 ((W64 ((W64 (a+b))+1)).tdiv 2))-1))
  else
   V (a,b)
def qjA (n:Nat)(a_n:Int)(mode:Int):Option Int:=
 (qek a_n n 0 2000000000).bind fun o=>match o with
 | (a,_)=>
  bif (mode==1) then
   bif decide ((W64 (a*a))<a_n) then V (W64 (a+1)) else
   V a
  else
   V a
theorem qrS {a_n:Int}{mode:Int}  {r:Int}(F:qjA n a_n mode=V r):RetV prog 296 [.int .i64 a_n,.int .i64 mode] w r:=by
 refine zV 36 func296 Z fun h=>X0 10 Z ?_;obtain⟨f,F,a⟩:=qd F;refine qn (rL (fun m e w'=>∃(b:Int) (c:Int),qek a_n m b c=V f∧e=[(0,.int .i64 a_n),(1,.int .i64 mode),(5,.int .i64 b),(6,.int .i64 c)]∧SH w w' []) n ⟨_,_,F,rfl,h⟩ Z ?_);rintro d _ _ ⟨b,c,F,rfl,h⟩;rcases d with _|d
 ·cases F
 refine X0 7 Z (qi Z F ?_ ?_)<;>intro F
 ·refine X0 19 Z (qi Z F ?_ ?_)<;>intro F
  ·exact X0 5 Z (rK ⟨_,_,F,rfl,h⟩ Z)
  exact X0 6 Z (rK ⟨_,_,F,rfl,h⟩ Z)
 refine qr Z ?_;obtain rfl:=qb F;replace F:=a;refine X0 6 Z (qj (t:=26) F Z ?_ ?_)<;>intro F
 ·refine X0 12 Z (qi Z F ?_ ?_)<;>intro F
  ·exact X0 10 Z (ri h F Z)
  exact X0 6 Z (ri h F Z)
 exact X0 7 Z (qbL Z Z (X0 6 Z (ri h F Z)))
def qnw (n:Nat)(b:qe)(net:Int)(sink:Int)(slew:Int)(mode:Int):Option Int:=
 (idx b.Af net).bind fun g=>
 (idx g.Bg sink).bind fun h=>
 (qhE n b net).bind fun c=>
 (idx c h).bind fun a=>
 (qjA n (W64 ((W64 ((W64 (1000000*slew))*slew))+(W64 ((W64 (4*a))*a)))) mode).bind fun d=>
 (qcL n d 1000 mode).bind fun f=>
 V f
theorem qrL {b:qe}{net:Int}{sink:Int}{slew:Int}{mode:Int}(a:Ro w b cs1){r:Int}(F:qnw n b net sink slew mode=V r):RetV prog 257 [GoT.v qe cs1,.int .i64 net,.int .i64 sink,.int .i64 slew,.int .i64 mode] w r:=by
 obtain⟨_,_,_,_,_,_,_,_,_,_,rfl,_,_,_,_,v⟩:=qE a;refine zV 39 func257 Z fun h=>zSR (qw h Z Z fun _ _ h=>X0 3 Z (rA [] [0] h Z fun _ h=>M2 59 [0,1,3,4,5] 0 0 (h.pick [0] Z) Z ?_));obtain⟨_,_,F,i,_,_,_,_,l,p,u,d⟩:=v.ix F;obtain⟨_,_,_,_,_,_,_,_,rfl,_,_,_,x⟩:=qaS u;refine Ae 6 123 l p i (h.pick [0] Z) Z (M0 251 [7] (h.pick [0] Z) Z (Al 8 507 3 d (h.pick [0] Z) Z (M0 1019 [9] (h.pick [0] Z) Z ?_)));obtain⟨_,_,F,k,_,_,_,_,m,s,rfl,f⟩:=x.ix F;refine Ae 10 2043 m s k (h.pick [0] Z) Z (Al 11 4091 0 f (h.pick [0] Z) Z (Ao 2 4095 Z (zcL h F (qmm (h.old a)) Z fun _ _ _ _ _ h F=>Ag (h.pick [1] Z) ?_)));obtain⟨_,_,F,c,_,_,_,_,o,t,rfl,g⟩:=(h.sl 0 Z).1.ix F;exact Ax 12 8191 o t ⟨c.1,qD c.2.1 (h.sl 0 Z).2⟩ (h.pick [1] Z) Z (Ao 13 16383 Z (zc 0 g Z (G0 32767 [14] (h.pick [1] Z) Z (Ad (X0 12 Z (zcI h F qrS Z fun _ _ h F=>zp1 Z (zcI h F qhI Z fun _ _ h F=>X0 2 Z (ri h F Z))))))))
def qeA (n:Nat)(b:qe)(x:qv)(slew:Int)(mode:Int):Option Int:=
 bif (x.Ay==1) then
  (qkv n b x).bind fun o=>match o with
   | (c,d)=>
    (idx c.Aq (x.To.tmod 2)).bind fun h=>
    (qh7 n h slew d mode).bind fun f=>
    V f
 else
  (qh2 n b x).bind fun g=>
  (qnw n b g x.Bw slew mode).bind fun a=>
  V (if a<1000000 then a else 1000000)
theorem qef {b:qe}{x:qv}{slew:Int}{mode:Int}(f:Ro w b cs1)(c:Ro w x cs2){r:Int}(F:qeA n b x slew mode=V r):RetV prog 206 [GoT.v qe cs1,GoT.v qv cs2,.int .i64 slew,.int .i64 mode] w r:=by
 obtain⟨_,_,_,_,_,_,_,_,_,_,rfl,_,_,_,_,_⟩:=qE f;obtain rfl:=qbd c;refine zV 41 func206 Z fun h=>zSR (qw h Z Z fun _ _ h=>qw h Z Z fun _ _ h=>X1 9 0 h Z (qi Z F ?_ ?_))<;>intro F
 ·refine X2 4 1 0 h Z ?_;have a:Rg (old w) w (old w) w:=.start (fun _ h=>h);obtain⟨L,s,F⟩:=qd F;obtain⟨M,N⟩:=L;refine qr3 (M,N) a h (cB 252 Z) (qoi (a.regOld h) (a.inR h f) (a.inR h c) s) Z Z Z Z fun _ _ _ g d B z=>?_;have H:=h.ext d.below;have k:=Up.box 0 h d Z;have T:=Up.R a h d c;have I:=Up.boxP (x:=x) a 0 h d Z (a.inR h c);have K:=h.below.trans (d.below.mono h.below.size);replace h:=B;obtain⟨_,_,rfl,i,A⟩:=qwX z;have J:=i;obtain⟨_,_,_,_,rfl,_,Q⟩:=qaq i;obtain⟨_,rfl,t⟩:=qun A;obtain rfl:=t;refine zp3 Z (qp qa h Z Z Z fun _ _ h=>zs 0 h Z fun _ h=>X1 7 0 h Z (zc 1 (k.below h.below) Z (zp1 Z ?_)));obtain⟨S,_,F,m,_,_,_,_,o,p,u,l⟩:=Q.ix F;obtain⟨_,_,_,_,_,_,rfl,R,C,D⟩:=qaK u;refine zxe o p m Z (zc 0 (l.below h.below) Z (zp3 Z (zcI h F (qnT (qf0 S (h.oldS (R.mono g.old)) (h.oldS (C.mono g.old)) (h.oldS (D.mono g.old)))) Z fun _ _ h F=>X0 2 Z ?_)));replace h:=h.unbase g.below ⟨fun _ h=>h,trivial⟩;exact ri h F Z
 refine zKS (rD (Y1 1 1 h Z ?_));refine Y1 1 1 h Z ?_;refine Y1 1 0 h Z ?_;obtain⟨O,v,F⟩:=qd F;refine qbn O (vsI _) (cB 141 Z) (fun _ hb=>ql1 ((h.ext hb).old f) ((h.ext hb).old c) v) Z Z Z Z (Y1 2 0 h Z ?_);refine zd2 Z ?_;obtain⟨P,y,F⟩:=qd F;exact qbn P (vsI _) (cB 257 Z) (fun _ hb=>qrL ((h.ext hb).old f) y) Z Z Z Z (zd2 Z (dN h fun _ h=>ri h F Z))
def qiC (n:Nat)(a:qe)(d:qz)(b:qv)(c:qc):Option (qc×qc):=
 (qdL n a d b c.Am 0).bind fun f=>
 (qdL n a d b c.Am 1).bind fun g=>
 (qeA n a b c.Am 0).bind fun h=>
 (qeA n a b c.Am 1).bind fun i=>
 (qdL n a d b c.Au 0).bind fun k=>
 (qdL n a d b c.Au 1).bind fun l=>
 (qeA n a b c.Au 0).bind fun m=>
 (qeA n a b c.Au 1).bind fun o=>
 V ((⟨(if k<f then k else f),(if l > g then l else g)⟩:qc),(⟨(if m<h then m else h),(if o > i then o else i)⟩:qc))
theorem qgf {g:qe}{i:qz}{k:qv}{l:qc}(a:Ro w g cs1)(d:Ro w i cs2)(b:Ro w k cs3)(L:Ro w l cs4){r:(qc×qc)}(F:qiC n g i k l=V r):RetV prog 140 [GoT.v qe cs1,GoT.v qz cs2,GoT.v qv cs3,GoT.v qc cs4] w r:=by
 obtain⟨R,M,T,N,W,O,X,P,Y,Q,rfl,_,_,_,_,_⟩:=qE a;obtain rfl:=qag d;obtain rfl:=qbd b;obtain rfl:=qu L;refine zV 76 func140 Z fun h=>zSR (qw h Z Z fun _ m h=>qw h Z Z fun _ o h=>qw h Z Z fun _ p h=>qw h Z Z fun _ s h=>qp qa h Z Z Z fun _ t h=>qp qa h Z Z Z fun _ u h=>zNS ?_);obtain⟨x,C,F⟩:=qd F;obtain⟨v,z,F⟩:=qd F;refine qaT (fun e w'=>∃(c:Nat),e=[(4,.pointer (V ⟨m,0,U⟩)),(5,.pointer (V ⟨o,0,U⟩)),(6,.pointer (V ⟨p,0,U⟩)),(7,.pointer (V ⟨s,0,U⟩)),(8,.pointer (V ⟨t,0,U⟩)),(9,.pointer (V ⟨u,0,U⟩)),(10,.pointer (V ⟨c,0,U⟩))]∧SH w w' [Ch.box c [.int .i64 x,.int .i64 v] 93,Ch.box u [.int .i64 0,.int .i64 0] 93,Ch.box t [.int .i64 0,.int .i64 0] 93,Ch.box s (qdK l) 93,Ch.box p (qki k) 225,Ch.box o (qam i) 59,Ch.box m (qJ g R T W X Y M N O P Q) 57]) ?_ ?_
 ·refine rA [14] [2,3,4,5] h Z fun _ h=>M4 31 [0,1,2,3,4] 3 2 1 0 (h.pick [2,3,4,5] Z) Z (M4 2015 [6,7,8,9,10] 3 2 1 0 (h.pick [2,3,4,5] Z) Z (At 5 13 2047 10207 Z ?_ ?_))
  ·refine qcw x h (cB 205 Z) (qdx (h.old a) (h.old d) (h.old b) C) Z Z Z Z fun _ h=>Ag (h.pick [2,3,4,5] Z) (At 11 13 4095 10239 Z ?_ ?_)
   ·refine qcw v h (cB 205 Z) (qdx (h.old a) (h.old d) (h.old b) z) Z Z Z Z fun _ h=>Ag (h.pick [2,3,4,5] Z) (Aw 12 8191 (fun w' hw=>qaf qa [0,1] [.tmp 17,.tmp 23] Z Z Z Z Z Z Z Z) (h.pick [2,3,4,5] Z) Z ?_);exact Ao 13 16383 Z (qp qa h Z Z Z fun _ _ h=>Ag (h.pick [3,4,5,6] Z) (Ao 14 32767 Z (zs 0 h Z fun _ h=>qbz (fun hs=>absurd (hs 14 (by decide)) (by decide)) (Ad (rG ⟨_,rfl,h⟩ Z)))))
   refine qp qa h Z Z Z fun _ _ h=>Ag (h.pick [3,4,5,6] Z) (Ao 11 12287 Z (qcw v h (cB 205 Z) (qdx (h.old a) (h.old d) (h.old b) z) Z Z Z Z fun _ h=>Ag (h.pick [3,4,5,6] Z) (Aw 12 16383 (fun w' hw=>qaf qa [0,1] [.tmp 17,.tmp 23] Z Z Z Z Z Z Z Z) (h.pick [3,4,5,6] Z) Z ?_)));exact Ao 14 32767 Z (zs 0 h Z fun _ h=>qbz (fun hs=>absurd (hs 14 (by decide)) (by decide)) (Ad (rG ⟨_,rfl,h⟩ Z)))
  refine qp qa h Z Z Z fun _ _ h=>Ag (h.pick [3,4,5,6] Z) (Ao 5 10239 Z (qcw x h (cB 205 Z) (qdx (h.old a) (h.old d) (h.old b) C) Z Z Z Z fun _ h=>Ag (h.pick [3,4,5,6] Z) (Ao 11 12287 Z (qcw v h (cB 205 Z) (qdx (h.old a) (h.old d) (h.old b) z) Z Z Z Z fun _ h=>Ag (h.pick [3,4,5,6] Z) (Aw 12 16383 (fun w' hw=>qaf qa [0,1] [.tmp 17,.tmp 23] Z Z Z Z Z Z Z Z) (h.pick [3,4,5,6] Z) Z ?_)))));exact Ao 14 32767 Z (zs 0 h Z fun _ h=>qbz (fun hs=>absurd (hs 14 (by decide)) (by decide)) (Ad (rG ⟨_,rfl,h⟩ Z)))
 rintro _ _ ⟨c,rfl,h⟩;refine qcx ?_;obtain⟨B,D,F⟩:=qd F;obtain⟨y,A,F⟩:=qd F;refine qaT (fun e w'=>∃(f:Nat),e=[(4,.pointer (V ⟨m,0,U⟩)),(5,.pointer (V ⟨o,0,U⟩)),(6,.pointer (V ⟨p,0,U⟩)),(7,.pointer (V ⟨s,0,U⟩)),(8,.pointer (V ⟨t,0,U⟩)),(9,.pointer (V ⟨u,0,U⟩)),(10,.pointer (V ⟨c,0,U⟩)),(11,.pointer (V ⟨f,0,U⟩))]∧SH w w' [Ch.box f [.int .i64 B,.int .i64 y] 93,Ch.box c [.int .i64 x,.int .i64 v] 93,Ch.box u [.int .i64 0,.int .i64 0] 93,Ch.box t [.int .i64 0,.int .i64 0] 93,Ch.box s (qdK l) 93,Ch.box p (qki k) 225,Ch.box o (qam i) 59,Ch.box m (qJ g R T W X Y M N O P Q) 57]) ?_ ?_
 ·refine rA [12] [3,4,6] h Z fun _ h=>M4 47 [0,1,2,3,5] 2 1 0 2 (h.pick [3,4,6] Z) Z (M2 495 [6,7,8] 1 0 (h.pick [3,4,6] Z) Z (At 4 11 511 2543 Z ?_ ?_))
  ·refine qcw B h (cB 206 Z) (qef (h.old a) (h.old b) D) Z Z Z Z fun _ h=>Ag (h.pick [3,4,6] Z) (At 9 11 1023 2559 Z ?_ ?_)
   ·refine qcw y h (cB 206 Z) (qef (h.old a) (h.old b) A) Z Z Z Z fun _ h=>Ag (h.pick [3,4,6] Z) (Aw 10 2047 (fun w' hw=>qaf qa [0,1] [.tmp 29,.tmp 34] Z Z Z Z Z Z Z Z) (h.pick [3,4,6] Z) Z ?_);exact Ao 11 4095 Z (qp qa h Z Z Z fun _ _ h=>Ag (h.pick [4,5,7] Z) (Ao 12 8191 Z (zs 0 h Z fun _ h=>qbz (fun hs=>absurd (hs 12 (by decide)) (by decide)) (Ad (rG ⟨_,rfl,h⟩ Z)))))
   refine qp qa h Z Z Z fun _ _ h=>Ag (h.pick [4,5,7] Z) (Ao 9 3071 Z (qcw y h (cB 206 Z) (qef (h.old a) (h.old b) A) Z Z Z Z fun _ h=>Ag (h.pick [4,5,7] Z) (Aw 10 4095 (fun w' hw=>qaf qa [0,1] [.tmp 29,.tmp 34] Z Z Z Z Z Z Z Z) (h.pick [4,5,7] Z) Z ?_)));exact Ao 12 8191 Z (zs 0 h Z fun _ h=>qbz (fun hs=>absurd (hs 12 (by decide)) (by decide)) (Ad (rG ⟨_,rfl,h⟩ Z)))
  refine qp qa h Z Z Z fun _ _ h=>Ag (h.pick [4,5,7] Z) (Ao 4 2559 Z (qcw B h (cB 206 Z) (qef (h.old a) (h.old b) D) Z Z Z Z fun _ h=>Ag (h.pick [4,5,7] Z) (Ao 9 3071 Z (qcw y h (cB 206 Z) (qef (h.old a) (h.old b) A) Z Z Z Z fun _ h=>Ag (h.pick [4,5,7] Z) (Aw 10 4095 (fun w' hw=>qaf qa [0,1] [.tmp 29,.tmp 34] Z Z Z Z Z Z Z Z) (h.pick [4,5,7] Z) Z ?_)))));exact Ao 12 8191 Z (zs 0 h Z fun _ h=>qbz (fun hs=>absurd (hs 12 (by decide)) (by decide)) (Ad (rG ⟨_,rfl,h⟩ Z)))
 rintro _ _ ⟨f,rfl,h⟩;refine qcx (rA [10] [1,4,5,6,7] h Z fun _ h=>M4 63 [0,1,2,3,4,5] 0 4 3 2 (h.pick [1,4,5,6,7] Z) Z (M1 127 [6] 1 (h.pick [1,4,5,6,7] Z) Z (Ao 7 255 Z (zcI h F (qdx (h.old a) (h.old d) (h.old b)) Z fun H _ h F=>G0 1023 [8,9] (h.pick [1,4,5,6,7] Z) Z (Ao 10 2047 Z (zs 1 h Z fun _ h=>qbz (fun hs=>absurd (hs 10 (by decide)) (by decide)) (Ad (qcx (rA [10] [1,4,5,6,7] h Z fun _ h=>M4 63 [0,1,2,3,4,5] 0 4 3 2 (h.pick [1,4,5,6,7] Z) Z (M1 127 [6] 1 (h.pick [1,4,5,6,7] Z) Z (Ao 7 255 Z (zcI h F (qdx (h.old a) (h.old d) (h.old b)) Z fun I _ h F=>G0 1023 [8,9] (h.pick [1,4,5,6,7] Z) Z (Ao 10 2047 Z (zs 1 h Z fun _ h=>qbz (fun hs=>absurd (hs 10 (by decide)) (by decide)) (Ad (qcx (rA [9] [0,4,5,7] h Z fun _ h=>M4 63 [0,1,2,3,4,5] 0 3 2 1 (h.pick [0,4,5,7] Z) Z (Ao 6 127 Z (zcI h F (qef (h.old a) (h.old b)) Z fun J _ h F=>G0 511 [7,8] (h.pick [0,4,5,7] Z) Z (Ao 9 1023 Z (zs 0 h Z fun _ h=>qbz (fun hs=>absurd (hs 9 (by decide)) (by decide)) (Ad (qcx (rA [9] [0,4,5,7] h Z fun _ h=>M4 63 [0,1,2,3,4,5] 0 3 2 1 (h.pick [0,4,5,7] Z) Z (Ao 6 127 Z (zcI h F (qef (h.old a) (h.old b)) Z fun K _ h F=>G0 511 [7,8] (h.pick [0,4,5,7] Z) Z (Ao 9 1023 Z (zs 0 h Z fun _ h=>qbz (fun hs=>absurd (hs 9 (by decide)) (by decide)) (Ad (qcx (rA [] [0,1] h Z fun _ h=>M2 3 [0,1] 1 0 (h.pick [0,1] Z) Z (Ao 2 7 Z (zs 3 h Z fun _ h=>Ag (h.pick [0,1] Z) (Ao 3 15 Z (zs 2 h Z fun _ h=>Ag (h.pick [0,1] Z) (Ad ?_))))))))))))))))))))))))))))))))))));obtain rfl:=qb F;exact qX qa (ρ:=(qc×qc)) [GoT.v qc [.int .i64 (if H<x then H else x),.int .i64 (if I > v then I else v)],GoT.v qc [.int .i64 (if J<B then J else B),.int .i64 (if K > y then K else y)]] h ⟨⟨_,_,_,rfl,rfl,h.box 3 Z,rfl⟩,⟨_,_,_,rfl,rfl,h.box 2 Z,rfl⟩,trivial⟩ (PV.done h (qP h (qy (S:=fun _=>False) (qB (⟨(if H<x then H else x),(if I > v then I else v)⟩:qc))) (qad (qy (S:=fun _=>False) (qB (⟨(if J<B then J else B),(if K > y then K else y)⟩:qc)))) (by rfl)))
def qjM (_:Nat)(a:qc)(b:qc):Option qc:=
 V (⟨(if b.Am<a.Am then b.Am else a.Am),(if b.Au > a.Au then b.Au else a.Au)⟩:qc)
theorem qkZ {a:qc}{b:qc}(c:Ro w a cs1)(d:Ro w b cs2){r:qc}(F:qjM n a b=V r):RetV prog 142 [GoT.v qc cs1,GoT.v qc cs2] w r:=by
 obtain rfl:=qu c;obtain rfl:=qu d;refine zV 16 func142 Z fun h=>zSR (qw h Z Z fun _ _ h=>qw h Z Z fun _ _ h=>qp qa h Z Z Z fun _ _ h=>X4 13 2 1 2 1 h Z (r_v (qaf qa [0,1] [.tmp 9,.tmp 14] Z Z Z Z Z Z Z Z) Z (zs 0 h Z fun _ h=>qcU ?_)));obtain rfl:=qb F;exact qX qa (ρ:=qc) [GoT.v qc [.int .i64 (if b.Am<a.Am then b.Am else a.Am),.int .i64 (if b.Au > a.Au then b.Au else a.Au)]] h ⟨⟨_,_,_,rfl,rfl,h.box 0 Z,rfl⟩,trivial⟩ (PV.done h (qad (qy (S:=fun _=>False) (qB (⟨(if b.Am<a.Am then b.Am else a.Am),(if b.Au > a.Au then b.Au else a.Au)⟩:qc)))))
end Go.Fw


namespace Go.Fw
open Go Go.Proofs Go.Proofs.Tryz
open Go.RowKit (Below)
set_option maxRecDepth 100000
set_option maxHeartbeats 1600000
variable {n:Nat}{w:World}{cs1 cs2 cs3 cs4 cs5 cs6 cs7 cs8 cs9:List Value}
def qdn (d:qe)(g:qz)(f:(List qv))(h:(List Bool))(i:(List Int))(a:qq)(c:Int):Nat→Int→Int→Int→Int→Int→Bool→Int→Option (Int×Int×Int×Int×Int×Bool×Int)
 | 0,_,_,_,_,_,_,_=>U
 | n+1,F,i8,y,m,p,x,b=>
  bif decide (b<(f.length:Int)) then
   (idx f b).bind fun l=>
   (
    (idx h b).bind fun C=>
    bif (!C) then V true else
    bif (l.To != c) then V true else
    (idx a.Aj l.Bf).bind fun D=>
    V (!D)).bind fun H=>
   bif H then qdn d g f h i a c n F i8 y m p x (W64 (b+1)) else
   (idx a.Aq l.Bf).bind fun I=>
   (qiC n d g l I).bind fun o=>match o with
    | (v,A)=>
     (
      bif (l.Ay==2) then
       (qh2 n d l).bind fun z=>
       (idx i z).bind fun B=>
       V B
      else
       V 0).bind fun k=>
     (idx a.Ac l.Bf).bind fun t=>
     (idx a.Ac l.Bf).bind fun u=>
     bif x then
      (qjM n (⟨W64 ((W64 (t.Am+v.Am))-k),W64 ((W64 (u.Au+v.Au))+k)⟩:qc) (⟨i8,y⟩:qc)).bind fun r=>
      (qjM n A (⟨m,p⟩:qc)).bind fun s=>
      qdn d g f h i a c n c r.Am r.Au s.Am s.Au true (W64 (b+1))
     else
      qdn d g f h i a c n c (W64 ((W64 (t.Am+v.Am))-k)) (W64 ((W64 (u.Au+v.Au))+k)) A.Am A.Au true (W64 (b+1))
  else
   V (F,i8,y,m,p,x,b)
def qdl (a:(List qf))(b:Int):Nat→Int→Int→Int→Int→Int→Bool→Int→Option (Int×Int×Int×Int×Int×Bool×Int)
 | 0,_,_,_,_,_,_,_=>U
 | n+1,f,g,h,i,k,b1,c=>
  bif decide (c<(a.length:Int)) then
   (idx a c).bind fun l=>
   bif (l.Bm==b) then
    (idx a c).bind fun d=>
    qdl a b n d.Bm d.Ac.Am d.Ac.Au d.Aq.Am d.Aq.Au true (W64 (c+1))
   else
    qdl a b n f g h i k b1 (W64 (c+1))
  else
   V (f,g,h,i,k,b1,c)
def qjF (n:Nat)(b:qe)(c:qz)(d:(List qv))(f:(List Bool))(g:(List qf))(h:(List Int))(i:qq)(a:Int):Option (Bool×qf):=
 (qdl g a n 0 0 0 0 0 false 0).bind fun o=>match o with
 | (p,r,s,t,u,b1,_)=>
  (qdn b c d f h i a n p r s t u b1 0).bind fun o=>match o with
  | (v,i8,x,k,l,m,_)=>
   V (m,(⟨v,(⟨i8,x⟩:qc),(⟨k,l⟩:qc)⟩:qf))
theorem qrG {p:qe}{s:qz}{u:(List qv)}{v:(List Bool)}{b8:(List qf)}{x:(List Int)}{y:qq}{o:Int}(H:Ro w p cs1)(O:Ro w s cs2)(ha3:Ro w u cs3)(ha4:Ro w v cs4)(ha5:Ro w b8 cs5)(ha6:Ro w x cs6)(ha7:Ro w y cs7){r:(Bool×qf)}(F:qjF n p s u v b8 x y o=V r):RetV prog 84 [GoT.v qe cs1,GoT.v qz cs2,GoT.v (List qv) cs3,GoT.v (List Bool) cs4,GoT.v (List qf) cs5,GoT.v (List Int) cs6,GoT.v qq cs7,.int .i64 o] w r:=by
 obtain⟨p1,k1,p2,k2,p3,k3,p4,k4,p5,k5,rfl,_,_,_,_,_⟩:=qE H;obtain rfl:=qag O;obtain⟨p6,k6,rfl,s6⟩:=ha3;obtain⟨p7,k7,rfl,s7⟩:=ha4;obtain⟨p8,k8,rfl,s8⟩:=ha5;obtain⟨p9,k9,rfl,s9⟩:=ha6;obtain⟨a3,W,a4,X,a5,Y,rfl,s10,s11,s12⟩:=qM ha7;refine zV 137 func84 Z fun h=>zSR (qw h Z Z fun _ f h=>qw h Z Z fun _ g h=>qw h Z Z fun _ i h=>zp1 Z (qp qa h Z Z Z fun _ k h=>X0 7 Z (r_v (qaf qa [] [] Z Z Z Z Z Z Z Z) Z (qp qa h Z Z Z fun _ l h=>zs 0 h Z fun _ h=>X0 6 Z ?_))));obtain⟨o1,F,hK1⟩:=qd F;refine qn (rL (fun m e w'=>∃(i1:Int) (i2:Int) (i3:Int) (i4:Int) (i5:Int) (b1:Bool) (i6:Int),qdl b8 o m i1 i2 i3 i4 i5 b1 i6=V o1∧e=[(2,.slice p6 u.length k6),(3,.slice p7 v.length k7),(4,.slice p8 b8.length k8),(5,.slice p9 x.length k9),(7,.int .i64 o),(8,.pointer (V ⟨f,0,U⟩)),(9,.pointer (V ⟨g,0,U⟩)),(14,.pointer (V ⟨i,0,U⟩)),(17,.pointer (V ⟨k,0,U⟩)),(18,.bool b1),(19,.pointer (V ⟨l,0,U⟩)),(20,.int .i64 i6)]∧SH w w' [Ch.box l [.int .i64 i1,.int .i64 i2,.int .i64 i3,.int .i64 i4,.int .i64 i5] 95,Ch.box k [.int .i64 0,.int .i64 0,.int .i64 0,.int .i64 0,.int .i64 0] 95,Ch.box i (qI y a3 a4 a5 W X Y) 45,Ch.box g (qam s) 59,Ch.box f (qJ p p1 p2 p3 p4 p5 k1 k2 k3 k4 k5) 57]) n ⟨_,_,_,_,_,_,_,F,rfl,h⟩ Z ?_);rintro m1 _ _ ⟨i1,i2,i3,i4,i5,b1,i6,F,rfl,h⟩;rcases m1 with _|m1
 ·cases F
 refine X0 8 Z (qi Z F ?_ ?_)<;>intro F
 ·refine X0 7 Z ?_;obtain⟨_,_,F,he1,_,_,_,_,hp1,hq1,hr1,hc2⟩:=s8.ix F;obtain rfl:=qac hr1;refine zxe hp1 hq1 he1 Z (zp1 Z (zc 0 (hc2.below h.below) Z (X0 3 Z (qi Z F ?_ ?_))))<;>intro F
  ·refine X0 7 Z ?_;obtain⟨_,_,F,he2,_,_,_,_,hp2,hq2,hr2,hc4⟩:=s8.ix F;obtain rfl:=qac hr2;exact zxe hp2 hq2 he2 Z (zc 0 (hc4.below h.below) Z (zs 0 h Z fun _ h=>X0 7 Z (rK ⟨_,_,_,_,_,_,_,F,rfl,h⟩ Z)))
  exact X0 7 Z (rK ⟨_,_,_,_,_,_,_,F,rfl,h⟩ Z)
 refine qr Z ?_;obtain rfl:=qb F;replace F:=hK1;refine X0 5 Z ?_;obtain⟨o2,F,hK2⟩:=qd F;refine qn (rL (fun m e w'=>∃(i7:Int) (i8:Int) (i9:Int) (C:Int) (D:Int) (b4:Bool) (P:Int),qdn p s u v x y o m i7 i8 i9 C D b4 P=V o2∧e=[(2,.slice p6 u.length k6),(3,.slice p7 v.length k7),(5,.slice p9 x.length k9),(7,.int .i64 o),(8,.pointer (V ⟨f,0,U⟩)),(9,.pointer (V ⟨g,0,U⟩)),(14,.pointer (V ⟨i,0,U⟩)),(17,.pointer (V ⟨k,0,U⟩)),(18,.bool b4),(19,.pointer (V ⟨l,0,U⟩)),(21,.int .i64 P)]∧SH w w' [Ch.box l [.int .i64 i7,.int .i64 i8,.int .i64 i9,.int .i64 C,.int .i64 D] 95,Ch.box k [.int .i64 0,.int .i64 0,.int .i64 0,.int .i64 0,.int .i64 0] 95,Ch.box i (qI y a3 a4 a5 W X Y) 45,Ch.box g (qam s) 59,Ch.box f (qJ p p1 p2 p3 p4 p5 k1 k2 k3 k4 k5) 57]) n ⟨_,_,_,_,_,_,_,F,rfl,h⟩ Z ?_);rintro m2 _ _ ⟨i7,i8,i9,C,D,b4,P,F,rfl,h⟩;rcases m2 with _|m2
 ·cases F
 refine X0 8 Z (qi Z F ?_ ?_)<;>intro F
 ·refine X0 7 Z ?_;obtain⟨y3,_,F,he3,_,_,_,_,hp3,hq3,hr3,hc6⟩:=s6.ix F;obtain rfl:=qbd hr3;refine zxe hp3 hq3 he3 Z (zc 0 (hc6.below h.below) Z (qp qa h Z Z Z fun _ N h=>zs 0 h Z fun _ h=>zNSS ?_));obtain⟨KF6,hKF6,_,F,hK7⟩:=bindE F;refine qaT (fun e w'=>∃(b6:Bool),KF6 b6=V o2∧e=[(2,.slice p6 u.length k6),(3,.slice p7 v.length k7),(5,.slice p9 x.length k9),(7,.int .i64 o),(8,.pointer (V ⟨f,0,U⟩)),(9,.pointer (V ⟨g,0,U⟩)),(14,.pointer (V ⟨i,0,U⟩)),(17,.pointer (V ⟨k,0,U⟩)),(18,.bool b4),(19,.pointer (V ⟨l,0,U⟩)),(21,.int .i64 P),(22,.pointer (V ⟨N,0,U⟩)),(74,.bool b6)]∧SH w w' [Ch.box N (qki y3) 225,Ch.box l [.int .i64 i7,.int .i64 i8,.int .i64 i9,.int .i64 C,.int .i64 D] 95,Ch.box k [.int .i64 0,.int .i64 0,.int .i64 0,.int .i64 0,.int .i64 0] 95,Ch.box i (qI y a3 a4 a5 W X Y) 45,Ch.box g (qam s) 59,Ch.box f (qJ p p1 p2 p3 p4 p5 k1 k2 k3 k4 k5) 57]) ?_ ?_
  ·refine X0 3 Z ?_;obtain⟨_,_,F,he19,_,_,_,_,hp19,hq19,rfl,hc28⟩:=s7.ix F;refine zxe hp19 hq19 he19 Z (zc 0 (hc28.below h.below) Z (zp2 Z (qj (t:=60) F Z ?_ ?_)))<;>intro F
   ·refine X0 15 Z ?_;obtain rfl:=qb F;exact rG ⟨_,hK7,rfl,h⟩ Z
   refine X1 10 0 h Z (qj (t:=66) F Z ?_ ?_)<;>intro F
   ·refine X0 9 Z ?_;obtain rfl:=qb F;exact rG ⟨_,hK7,rfl,h⟩ Z
   refine X2 9 3 0 h Z ?_;obtain⟨_,_,F,he20,_,_,_,_,hp20,hq20,rfl,hc29⟩:=s10.ix F;refine zxe hp20 hq20 he20 Z (X0 1 Z (zc 0 (hc29.below h.below) Z (X0 4 Z ?_)));obtain rfl:=qb F;exact rG ⟨_,hK7,rfl,h⟩ Z
  rintro _ _ ⟨b6,F,rfl,h⟩;subst hKF6;refine qi Z F ?_ ?_<;>intro F
  ·refine qr Z (X0 5 Z ?_);replace h:=h.pick [1,2,3,4,5] Z;exact rK ⟨_,_,_,_,_,_,_,F,rfl,h⟩ Z
  refine zKS (rA [] [0,3,4,5] h Z fun _ h=>M4 63 [0,1,2,3,4,5] 3 2 0 1 (h.pick [0,3,4,5] Z) Z (M1 127 [6] 0 (h.pick [0,3,4,5] Z) Z ?_));obtain⟨y4,_,F,he4,_,_,_,_,hp4,hq4,hr4,hc8⟩:=s12.ix F;obtain rfl:=qu hr4;refine Ae 7 255 hp4 hq4 he4 (h.pick [0,3,4,5] Z) Z (Al 8 511 0 hc8 (h.pick [0,3,4,5] Z) Z ?_);obtain⟨r1,R,F⟩:=qd F;obtain⟨r2,r3⟩:=r1;refine qmG (fun e w'=>∃(A:Nat) (B:Nat),e=[(14,.pointer (V ⟨i,0,U⟩)),(17,.pointer (V ⟨k,0,U⟩)),(18,.bool b4),(19,.pointer (V ⟨l,0,U⟩)),(2,.slice p6 u.length k6),(21,.int .i64 P),(22,.pointer (V ⟨N,0,U⟩)),(23,.pointer (V ⟨B,0,U⟩)),(24,.pointer (V ⟨A,0,U⟩)),(3,.slice p7 v.length k7),(5,.slice p9 x.length k9),(7,.int .i64 o),(8,.pointer (V ⟨f,0,U⟩)),(9,.pointer (V ⟨g,0,U⟩))]∧SH w w' [Ch.box A (qdK r3) 93,Ch.box B (qdK r2) 93,Ch.box N (qki y3) 225,Ch.box l [.int .i64 i7,.int .i64 i8,.int .i64 i9,.int .i64 C,.int .i64 D] 95,Ch.box k [.int .i64 0,.int .i64 0,.int .i64 0,.int .i64 0,.int .i64 0] 95,Ch.box i (qI y a3 a4 a5 W X Y) 45,Ch.box g (qam s) 59,Ch.box f (qJ p p1 p2 p3 p4 p5 k1 k2 k3 k4 k5) 57]) 0 (bits 17 131071) ?_ ?_
  ·intro K;refine qr6 9 13 14 Z Z Z (bits 17 1023) (bits 17 8703) (bits 17 16895) (by kernel_rfl) (by kernel_rfl) (by kernel_rfl) (by kernel_rfl) ?_ ?_ ?_
   ·refine qaF (r2,r3) h (cB 140 Z) (qgf (h.old H) (h.old O) (qcm y3) (qB y4) R) Z Z Z Z fun w71 b3 L d b=>?_;obtain⟨b5,b7,I,M,rfl,a,c⟩:=d.cons b;obtain rfl:=qu (a.sh.own 0 Z);obtain⟨J,rfl,h⟩:=a.last c;obtain rfl:=qu (h.own 0 Z);refine G0 8191 [10,11,12] (h.pick [2,5,6,7] Z) Z (At 13 14 16383 24575 Z ?_ ?_)
    ·refine qp qa h Z Z Z fun a6 Q h=>Ag (h.pick [3,6,7,8] Z) (Ao 14 32767 Z (qp qa h Z Z Z fun a7 z h=>Ag (h.pick [4,7,8,9] Z) (Ao 15 65535 Z (zs 1 h Z fun a8 h=>Ag (h.pick [4,7,8,9] Z) (Ao 16 131071 Z (zs 0 h Z fun a9 h=>Ag (h.pick [4,7,8,9] Z) ?_))))));replace h:=h.pick [0,1,4,5,6,7,8,9] Z;exact qeJ [(14,_),(17,_),(18,_),(19,_),(2,_),(21,_),(22,_),(23,_),(24,_),(3,_),(5,_),(7,_),(8,_),(9,_)] ⟨rfl,rfl,rfl,rfl,rfl,rfl,rfl,rfl,rfl,rfl,rfl,rfl,rfl,rfl,trivial⟩ (K _ _ ⟨_,_,rfl,h⟩)
    refine qp qa h Z Z Z fun a6 Q h=>Ag (h.pick [3,6,7,8] Z) (Ao 13 32767 Z (qp qa h Z Z Z fun a7 z h=>Ag (h.pick [4,7,8,9] Z) (Ao 15 65535 Z (zs 0 h Z fun a8 h=>Ag (h.pick [4,7,8,9] Z) (Ao 16 131071 Z (zs 1 h Z fun a9 h=>Ag (h.pick [4,7,8,9] Z) ?_))))));replace h:=h.pick [1,0,4,5,6,7,8,9] Z;exact qeJ [(14,_),(17,_),(18,_),(19,_),(2,_),(21,_),(22,_),(23,_),(24,_),(3,_),(5,_),(7,_),(8,_),(9,_)] ⟨rfl,rfl,rfl,rfl,rfl,rfl,rfl,rfl,rfl,rfl,rfl,rfl,rfl,rfl,trivial⟩ (K _ _ ⟨_,_,rfl,h⟩)
   ·refine qp qa h Z Z Z fun w71 Q h=>Ag (h.pick [1,4,5,6] Z) (At 9 14 9215 25087 Z ?_ ?_)
    ·refine qaF (r2,r3) h (cB 140 Z) (qgf (h.old H) (h.old O) (qcm y3) (qB y4) R) Z Z Z Z fun a6 b3 L d b=>?_;obtain⟨b5,b7,I,M,rfl,a,c⟩:=d.cons b;obtain rfl:=qu (a.sh.own 0 Z);obtain⟨J,rfl,h⟩:=a.last c;obtain rfl:=qu (h.own 0 Z);refine G0 16383 [10,11,12] (h.pick [3,6,7,8] Z) Z (Ao 14 32767 Z (qp qa h Z Z Z fun a7 z h=>Ag (h.pick [4,7,8,9] Z) (Ao 15 65535 Z (zs 3 h Z fun a8 h=>Ag (h.pick [4,7,8,9] Z) (Ao 16 131071 Z (zs 0 h Z fun a9 h=>Ag (h.pick [4,7,8,9] Z) ?_))))));replace h:=h.pick [0,3,4,5,6,7,8,9] Z;exact qeJ [(14,_),(17,_),(18,_),(19,_),(2,_),(21,_),(22,_),(23,_),(24,_),(3,_),(5,_),(7,_),(8,_),(9,_)] ⟨rfl,rfl,rfl,rfl,rfl,rfl,rfl,rfl,rfl,rfl,rfl,rfl,rfl,rfl,trivial⟩ (K _ _ ⟨_,_,rfl,h⟩)
    refine qp qa h Z Z Z fun a6 z h=>Ag (h.pick [2,5,6,7] Z) (Ao 9 25599 Z (qaF (r2,r3) h (cB 140 Z) (qgf (h.old H) (h.old O) (qcm y3) (qB y4) R) Z Z Z Z fun a7 b3 L d b=>?_));obtain⟨b5,b7,I,M,rfl,a,c⟩:=d.cons b;obtain rfl:=qu (a.sh.own 0 Z);obtain⟨J,rfl,h⟩:=a.last c;obtain rfl:=qu (h.own 0 Z);refine G0 32767 [10,11,12] (h.pick [4,7,8,9] Z) Z (Ao 15 65535 Z (zs 3 h Z fun a8 h=>Ag (h.pick [4,7,8,9] Z) (Ao 16 131071 Z (zs 2 h Z fun a9 h=>Ag (h.pick [4,7,8,9] Z) ?_))));replace h:=h.pick [2,3,4,5,6,7,8,9] Z;exact qeJ [(14,_),(17,_),(18,_),(19,_),(2,_),(21,_),(22,_),(23,_),(24,_),(3,_),(5,_),(7,_),(8,_),(9,_)] ⟨rfl,rfl,rfl,rfl,rfl,rfl,rfl,rfl,rfl,rfl,rfl,rfl,rfl,rfl,trivial⟩ (K _ _ ⟨_,_,rfl,h⟩)
   refine qp qa h Z Z Z fun w71 Q h=>Ag (h.pick [1,4,5,6] Z) (At 9 13 17407 25087 Z ?_ ?_)
   ·refine qaF (r2,r3) h (cB 140 Z) (qgf (h.old H) (h.old O) (qcm y3) (qB y4) R) Z Z Z Z fun a6 b3 L d b=>?_;obtain⟨b5,b7,I,M,rfl,a,c⟩:=d.cons b;obtain rfl:=qu (a.sh.own 0 Z);obtain⟨J,rfl,h⟩:=a.last c;obtain rfl:=qu (h.own 0 Z);refine G0 24575 [10,11,12] (h.pick [3,6,7,8] Z) Z (Ao 13 32767 Z (qp qa h Z Z Z fun a7 z h=>Ag (h.pick [4,7,8,9] Z) (Ao 15 65535 Z (zs 0 h Z fun a8 h=>Ag (h.pick [4,7,8,9] Z) (Ao 16 131071 Z (zs 3 h Z fun a9 h=>Ag (h.pick [4,7,8,9] Z) ?_))))));replace h:=h.pick [3,0,4,5,6,7,8,9] Z;exact qeJ [(14,_),(17,_),(18,_),(19,_),(2,_),(21,_),(22,_),(23,_),(24,_),(3,_),(5,_),(7,_),(8,_),(9,_)] ⟨rfl,rfl,rfl,rfl,rfl,rfl,rfl,rfl,rfl,rfl,rfl,rfl,rfl,rfl,trivial⟩ (K _ _ ⟨_,_,rfl,h⟩)
   refine qp qa h Z Z Z fun a6 z h=>Ag (h.pick [2,5,6,7] Z) (Ao 9 25599 Z (qaF (r2,r3) h (cB 140 Z) (qgf (h.old H) (h.old O) (qcm y3) (qB y4) R) Z Z Z Z fun a7 b3 L d b=>?_));obtain⟨b5,b7,I,M,rfl,a,c⟩:=d.cons b;obtain rfl:=qu (a.sh.own 0 Z);obtain⟨J,rfl,h⟩:=a.last c;obtain rfl:=qu (h.own 0 Z);refine G0 32767 [10,11,12] (h.pick [4,7,8,9] Z) Z (Ao 15 65535 Z (zs 2 h Z fun a8 h=>Ag (h.pick [4,7,8,9] Z) (Ao 16 131071 Z (zs 3 h Z fun a9 h=>Ag (h.pick [4,7,8,9] Z) ?_))));replace h:=h.pick [3,2,4,5,6,7,8,9] Z;exact qeJ [(14,_),(17,_),(18,_),(19,_),(2,_),(21,_),(22,_),(23,_),(24,_),(3,_),(5,_),(7,_),(8,_),(9,_)] ⟨rfl,rfl,rfl,rfl,rfl,rfl,rfl,rfl,rfl,rfl,rfl,rfl,rfl,rfl,trivial⟩ (K _ _ ⟨_,_,rfl,h⟩)
  rintro _ _ ⟨A,B,rfl,h⟩;refine Ad (X1 11 2 h Z ?_);obtain⟨KF5,hKF5,_,F,hK6⟩:=bindE F;refine qaT (fun e w'=>∃(T:Int),KF5 T=V o2∧e=[(2,.slice p6 u.length k6),(3,.slice p7 v.length k7),(5,.slice p9 x.length k9),(7,.int .i64 o),(8,.pointer (V ⟨f,0,U⟩)),(9,.pointer (V ⟨g,0,U⟩)),(14,.pointer (V ⟨i,0,U⟩)),(17,.pointer (V ⟨k,0,U⟩)),(18,.bool b4),(19,.pointer (V ⟨l,0,U⟩)),(21,.int .i64 P),(22,.pointer (V ⟨N,0,U⟩)),(23,.pointer (V ⟨B,0,U⟩)),(24,.pointer (V ⟨A,0,U⟩)),(25,.int .i64 T)]∧SH w w' [Ch.box A (qdK r3) 93,Ch.box B (qdK r2) 93,Ch.box N (qki y3) 225,Ch.box l [.int .i64 i7,.int .i64 i8,.int .i64 i9,.int .i64 C,.int .i64 D] 95,Ch.box k [.int .i64 0,.int .i64 0,.int .i64 0,.int .i64 0,.int .i64 0] 95,Ch.box i (qI y a3 a4 a5 W X Y) 45,Ch.box g (qam s) 59,Ch.box f (qJ p p1 p2 p3 p4 p5 k1 k2 k3 k4 k5) 57]) ?_ ?_
  ·refine qi Z F ?_ ?_<;>intro F
   ·refine X2 4 7 2 h Z (zcI h F (ql1 (h.old H) (qcm y3)) Z fun _ _ h F=>?_);obtain⟨_,_,F,he18,_,_,_,_,hp18,hq18,rfl,hc27⟩:=s9.ix F;refine zxe hp18 hq18 he18 Z (zc 0 (hc27.below h.below) Z (X0 2 Z ?_));obtain rfl:=qb F;exact rG ⟨_,hK6,rfl,h⟩ Z
   refine qhD ?_;obtain rfl:=qb F;exact rG ⟨_,hK6,rfl,h⟩ Z
  rintro _ _ ⟨T,F,rfl,h⟩;subst hKF5;refine qcx (rA [] [1,2,5] h Z fun _ h=>M2 15 [0,1,2,3] 2 1 (h.pick [1,2,5] Z) Z ?_);obtain⟨y16,_,F,he16,_,_,_,_,hp16,hq16,hr43,hc23⟩:=s11.ix F;obtain rfl:=qu hr43;refine Ae 4 31 hp16 hq16 he16 (h.pick [1,2,5] Z) Z (M0 63 [5] (h.pick [1,2,5] Z) Z (Al 6 127 0 hc23 (h.pick [1,2,5] Z) Z (M3 65535 [7,8,9,10,11,12,13,14,15] 0 2 1 (h.pick [1,2,5] Z) Z ?_)));obtain⟨y17,_,F,he17,_,_,_,_,hp17,hq17,hr44,hc24⟩:=s11.ix F;obtain rfl:=qu hr44;refine Ae 16 131071 hp17 hq17 he17 (h.pick [1,2,5] Z) Z (M0 262143 [17] (h.pick [1,2,5] Z) Z (Al 18 524287 1 hc24 (h.pick [1,2,5] Z) Z (M1 16777215 [19,20,21,22,23] 0 (h.pick [1,2,5] Z) Z (Aw 24 33554431 (fun w' hw=>qaf qa [0,1] [.tmp 108,.tmp 120] Z Z Z Z Z Z Z Z) (h.pick [1,2,5] Z) Z ?_))));refine Ao 25 67108863 Z (qp qa h Z Z Z fun _ _ h=>Ag (h.pick [2,3,6] Z) (Ao 26 134217727 Z (zs 0 h Z fun _ h=>Ag (h.pick [2,3,6] Z) (Ad (X0 5 Z (qi Z F ?_ ?_))))))<;>intro F
  ·refine X2 5 0 4 h Z (zcO h F (qkZ (qB (⟨W64 ((W64 (y16.Am+r2.Am))-T),W64 ((W64 (y17.Au+r2.Au))+T)⟩:qc)) (qB _)) Z fun _ _ _ _ h F=>?_);obtain rfl:=qu (h.own 0 Z);refine zs 1 h Z fun _ h=>X2 5 2 5 h Z (zcO h F (qkZ (qB r3) (qB _)) Z fun _ _ _ _ h F=>?_);obtain rfl:=qu (h.own 0 Z);refine zs 3 h Z fun _ h=>X2 9 2 3 h Z (r_v (qaf qa [0,1,2] [.tmp 131,.tmp 132,.tmp 133] Z Z Z Z Z Z Z Z) Z (zs 6 h Z fun _ h=>X0 7 Z ?_));replace h:=h.pick [6,7,8,9,10] Z;exact rK ⟨_,_,_,_,_,_,_,F,rfl,h⟩ Z
  refine X2 9 0 1 h Z (r_v (qaf qa [0,1,2] [.tmp 131,.tmp 132,.tmp 133] Z Z Z Z Z Z Z Z) Z (zs 4 h Z fun _ h=>X0 7 Z ?_));replace h:=h.pick [4,5,6,7,8] Z;exact rK ⟨_,_,_,_,_,_,_,F,rfl,h⟩ Z
 refine qr Z ?_;obtain rfl:=qb F;replace F:=hK2;refine qcx (rA [] [0] h Z fun _ h=>M1 7 [0,1,2] 0 (h.pick [0] Z) Z (Ao 3 15 Z (zs 1 h Z fun _ h=>Ag (h.pick [0] Z) (Ad ?_))));obtain rfl:=qb F;exact qX qa (ρ:=(Bool×qf)) [GoT.v Bool [.bool b4],GoT.v qf [.int .i64 i7,.int .i64 i8,.int .i64 i9,.int .i64 C,.int .i64 D]] h ⟨rfl,⟨_,_,_,rfl,rfl,h.box 1 Z,rfl⟩,trivial⟩ (PV.done h (qP h (qy (S:=fun _=>False) Z) (qad (qy (S:=fun _=>False) (qaP (⟨i7,(⟨i8,i9⟩:qc),(⟨C,D⟩:qc)⟩:qf)))) (by rfl)))
def qcp (b:qe)(c:qz)(d:(List qf))(f:(List Int))(a:(List Int))(p:(List qv))(r:(List Bool)):Nat→(List qc)→(List qc)→(List Bool)→Int→Option (Flow (qq×Bool) ((List qc)×(List qc)×(List Bool)×Int))
 | 0,_,_,_,_=>U
 | n+1,k,l,m,i=>
  bif decide (i<(a.length:Int)) then
   (idx a i).bind fun g=>
   (qjF n b c p r d f (⟨m,l,k⟩:qq) g).bind fun o=>match o with
    | (s,h)=>
     bif (!s) then qcp b c d f a p r n k l m (W64 (i+1)) else
     (qjg n (⟨h.Ac.Am,h.Ac.Au⟩:qc)).bind fun t=>
     bif (!t) then V (.ret ((⟨[],[],[]⟩:qq),false)) else
     (idx m g).bind fun _=>
     (idx l g).bind fun _=>
     (idx k g).bind fun _=>
     qcp b c d f a p r n (setS k g (⟨h.Aq.Am,h.Aq.Au⟩:qc)) (setS l g (⟨h.Ac.Am,h.Ac.Au⟩:qc)) (setS m g true) (W64 (i+1))
  else
   V (.nxt (k,l,m,i))
def qhL (n:Nat)(a:qe)(b:qz)(c:(List Int))(d:(List qf))(f:(List Int))(g:(List Int)):Option (qq×Bool):=
 (qhh n a).bind fun i=>
 (qjR n i c).bind fun k=>
 (qhi n a).bind fun l=>
 (qmJ n l).bind fun h=>
 (qcp a b d f g i k n h.Aq h.Ac h.Aj 0).bind fun o=>match o with
 | .ret r=>V r
 | .nxt (m,p,s,_)=>
  V ((⟨s,p,m⟩:qq),true)
theorem ql8 {g:qe}{i:qz}{v:(List Int)}{k:(List qf)}{l:(List Int)}{o:(List Int)}(p:Ro w g cs1)(C:Ro w i cs2)(ha3:Ro w v cs3)(ha4:Ro w k cs4)(ha5:Ro w l cs5)(ha6:Ro w o cs6){r:(qq×Bool)}(F:qhL n g i v k l o=V r):RetV prog 34 [GoT.v qe cs1,GoT.v qz cs2,GoT.v (List Int) cs3,GoT.v (List qf) cs4,GoT.v (List Int) cs5,GoT.v (List Int) cs6] w r:=by
 obtain⟨p1,k1,p2,k2,p3,k3,p4,k4,p5,k5,rfl,_,_,_,_,_⟩:=qE p;obtain rfl:=qag C;obtain⟨_,_,rfl,s6⟩:=ha3;obtain⟨p7,k7,rfl,s7⟩:=ha4;obtain⟨p8,k8,rfl,s8⟩:=ha5;obtain⟨p9,k9,rfl,s9⟩:=ha6;refine zV 75 func34 Z fun h=>zSR (qw h Z Z fun _ x h=>qw h Z Z fun _ y h=>qp qa h Z Z Z fun _ z h=>X1 5 2 h Z (zcL h F (qkb (h.old p)) Z fun Y _ S1 W R h F=>X0 6 Z (zcL h F (qnU (h.own 0 Z) ⟨_,_,rfl,(h.oldS s6)⟩) Z fun r2 _ S2 X T h F=>X1 5 4 h Z (zcI h F (qjY (h.old p)) Z fun _ _ h F=>zcO h F qq7 Z fun f _ _ _ h F=>?_))));obtain⟨t,s,c,a,d,b,rfl,-,-,-⟩:=qM (h.own 0 Z);refine qp qa h Z Z Z fun _ A h=>zs 0 h Z fun _ h=>X0 6 Z ?_;replace h:=h.pick [1,0,2,3,4,5,6] Z;obtain⟨S4,S5,S6,h⟩:=qaz h;obtain⟨o1,F,B⟩:=qd F;refine qn (rL (fun m e w'=>∃(x1:(List qc)) (x2:(List qc)) (x3:(List Bool)) (i1:Int),qcp g i k l o Y r2 m x1 x2 x3 i1=V o1∧e=[(3,.slice p7 k.length k7),(4,.slice p8 l.length k8),(5,.slice p9 o.length k9),(6,.pointer (V ⟨x,0,U⟩)),(7,.pointer (V ⟨y,0,U⟩)),(12,.pointer (V ⟨z,0,U⟩)),(14,.slice W Y.length R),(15,.slice X r2.length T),(16,.pointer (V ⟨A,0,U⟩)),(17,.int .i64 i1)]∧SH w w' [Ch.own S6 (x1:List qc) [.slice d f.Aq.length b],Ch.own S5 (x2:List qc) [.slice c f.Ac.length a],Ch.own S4 (x3:List Bool) [.slice t f.Aj.length s],Ch.box A (qI f t c d s a b) 45,Ch.own S2 (r2:List Bool) [.slice X r2.length T],Ch.own S1 (Y:List qv) [.slice W Y.length R],Ch.box z [.slice U 0 0,.slice U 0 0,.slice U 0 0] 45,Ch.box y (qam i) 59,Ch.box x (qJ g p1 p2 p3 p4 p5 k1 k2 k3 k4 k5) 57]) n ⟨_,_,_,_,F,rfl,h⟩ Z ?_);rintro m1 _ _ ⟨x1,x2,x3,i1,F,rfl,h⟩;rcases m1 with _|m1
 ·cases F
 refine X0 8 Z (qi Z F ?_ ?_)<;>intro F
 ·refine X0 7 Z ?_;obtain⟨_,_,F,he1,_,_,_,_,hp1,hq1,rfl,hc2⟩:=s9.ix F;refine zxe hp1 hq1 he1 Z (zc 0 (hc2.below h.below) Z (X3 12 8 7 3 h Z ?_));obtain⟨r5,hr6,F⟩:=qd F;obtain⟨r6,u⟩:=r5;refine qaF (r6,u) h (cB 84 Z) (qrG (h.old p) (h.old C) (h.own 5 Z) (h.own 4 Z) ⟨_,_,rfl,(h.oldS s7)⟩ ⟨_,_,rfl,(h.oldS s8)⟩ ⟨[.slice t f.Aj.length s],[.slice c f.Ac.length a,.slice d f.Aq.length b],rfl,(h.own 2 Z),⟨[.slice c f.Ac.length a],[.slice d f.Aq.length b],rfl,(h.own 1 Z),(h.own 0 Z)⟩⟩ hr6) Z Z Z Z fun _ _ _ hv1 hr7=>?_;obtain⟨_,_,rfl,hv2,hr8⟩:=hv1.consB hr7;obtain⟨_,rfl,h⟩:=hv2.last hr8;obtain rfl:=qac (h.own 0 Z);refine zp3 Z (qp qa h Z Z Z fun _ _ h=>zp1 Z (zs 0 h Z fun _ h=>X0 7 Z (qi Z F ?_ ?_)))<;>intro F
  ·refine qr Z (X0 5 Z ?_);replace h:=h.pick [2,3,4,5,6,7,8,9,10] Z;exact rK ⟨_,_,_,_,F,rfl,h⟩ Z
  refine X1 6 0 h Z (zcB h F (ql4 (qB _)) Z fun _ _ h F=>X0 2 Z (qi Z F ?_ ?_))<;>intro F
  ·refine zSR (r_v (qaf qa [] [] Z Z Z Z Z Z Z Z) Z (zs 8 h Z fun _ h=>X0 2 Z ?_));obtain rfl:=qb F;replace F:=B;obtain rfl:=qb F;exact qX qa (ρ:=(qq×Bool)) [GoT.v qq [.slice U 0 0,.slice U 0 0,.slice U 0 0],GoT.v Bool [.bool false]] h ⟨⟨_,_,_,rfl,rfl,h.box 8 Z,rfl⟩,rfl,trivial⟩ (PV.done h (qP h (qe4 (⟨[],[],[]⟩:qq) h qeF qeF qeF (by rfl) (by rfl)) (qad (qy (S:=fun _=>False) Z)) (by rfl)))
  refine X1 6 5 h Z ?_;obtain⟨_,hy2,F,D,_,_,_,_,J,M,rfl,hc5⟩:=(h.sl 4 Z).1.ix F;refine zx J M ⟨D.1,qD D.2.1 (h.sl 4 Z).2⟩ Z (qao qa 4 0 true h Z hy2 J M Z hc5 Z Z Z Z Z Z Z fun _ h=>X2 8 5 0 h Z ?_);obtain⟨y3,hy3,F,H,_,_,_,_,K,N,P,hc6⟩:=(h.sl 3 Z).1.ix F;obtain rfl:=qu P;refine zx K N ⟨H.1,qD H.2.1 (h.sl 3 Z).2⟩ Z (qao qa 3 0 (⟨u.Ac.Am,u.Ac.Au⟩:qc) h Z hy3 K N (qB y3) hc6 Z Z Z (qB (⟨u.Ac.Am,u.Ac.Au⟩:qc)) Z Z Z fun _ h=>X2 7 5 0 h Z ?_);obtain⟨y4,hy4,F,I,_,_,_,_,L,O,Q,hc7⟩:=(h.sl 2 Z).1.ix F;obtain rfl:=qu Q;refine zx L O ⟨I.1,qD I.2.1 (h.sl 2 Z).2⟩ Z (qao qa 2 0 (⟨u.Aq.Am,u.Aq.Au⟩:qc) h Z hy4 L O (qB y4) hc7 Z Z Z (qB (⟨u.Aq.Am,u.Aq.Au⟩:qc)) Z Z Z fun _ h=>X0 7 Z ?_);replace h:=h.pick [2,3,4,5,6,7,8,9,10] Z;exact rK ⟨_,_,_,_,F,rfl,h⟩ Z
 refine qr Z ?_;obtain rfl:=qb F;replace F:=B;refine X1 3 3 h Z (zs 6 h Z fun _ h=>X0 2 Z ?_);obtain rfl:=qb F;exact qX qa (ρ:=(qq×Bool)) [GoT.v qq (qI f t c d s a b),GoT.v Bool [.bool true]] h ⟨⟨_,_,_,rfl,rfl,h.box 6 Z,rfl⟩,rfl,trivial⟩ (PV.done h (qP h (qe4 (⟨x3,x2,x1⟩:qq) h (qak 2 h Z) (qak 1 h Z) (qak 0 h Z) (by rfl) (by rfl)) (qad (qy (S:=fun _=>False) Z)) (by rfl)))
def qd4 (list:(List qh))(used:(List Int)):Nat→(List Int)→Int→Option ((List Int)×Int)
 | 0,_,_=>U
 | n+1,b,c=>
  bif decide (c<(used.length:Int)) then
   (idx used c).bind fun f=>
   (idx list f).bind fun a=>
   (idx b a.A).bind fun d=>
   (idx b a.A).bind fun _=>
   (idx (setS b a.A (W64 (d+a.Bp))) a.B).bind fun g=>
   (idx (setS b a.A (W64 (d+a.Bp))) a.B).bind fun _=>
   qd4 list used n (setS (setS b a.A (W64 (d+a.Bp))) a.B (W64 (g+a.Bp))) (W64 (c+1))
  else
   V (b,c)
def qgh (n:Nat)(b:qe)(list:(List qh))(used:(List Int)):Option (List Int):=
 (mkS (b.Aa.Ai.length:Int) (0:Int)).bind fun a=>
 (qd4 list used n a 0).bind fun o=>match o with
 | (c,_)=>
  V c
theorem qmE {b:qe}{list:(List qh)}{used:(List Int)}(y:Ro w b cs1)(z:Ro w list cs2)(A:Ro w used cs3){r:(List Int)}(F:qgh n b list used=V r):RetV prog 35 [GoT.v qe cs1,GoT.v (List qh) cs2,GoT.v (List Int) cs3] w r:=by
 obtain⟨_,_,_,_,_,_,_,_,_,_,rfl,_,_,_,_,_⟩:=qE y;obtain⟨p6,k6,rfl,s6⟩:=z;obtain⟨p7,k7,rfl,s7⟩:=A;refine zV 53 func35 Z fun h=>zSR (qw h Z Z fun w1 _ h=>X1 8 0 h Z ?_);obtain⟨v,a,F⟩:=qd F;obtain⟨g1,g2,a⟩:=qR a;refine qas qa Int h Z Z Z Z Z Z Z Z Z g1 g2 a Z fun _ S1 Y h=>X0 7 Z ?_;obtain⟨o1,F,x⟩:=qd F;refine qn ?_;replace h:=h.pick [0] Z;refine rL (fun m e w'=>∃(W:(List Int)) (T:Int),qd4 list used m W T=V o1∧e=[(1,.slice p6 list.length k6),(2,.slice p7 used.length k7),(7,.slice Y v.length v.length),(8,.int .i64 T)]∧SH w w' [Ch.own S1 (W:List Int) [.slice Y v.length v.length]]) n ⟨_,_,F,rfl,h⟩ Z ?_;rintro X _ _ ⟨W,T,F,rfl,h⟩;rcases X with _|X
 ·cases F
 refine X0 8 Z (qi Z F ?_ ?_)<;>intro F
 ·refine X0 8 Z ?_;obtain⟨_,_,F,I,_,_,_,_,K,M,rfl,B⟩:=s7.ix F;refine zxe K M I Z (zc 0 (B.below h.below) Z ?_);obtain⟨y2,_,F,J,_,_,_,_,L,N,O,C⟩:=s6.ix F;obtain rfl:=qV O;refine zxe L N J Z (zc 0 (C.below h.below) Z (qp qa h Z Z Z fun _ _ h=>zs 0 h Z fun _ h=>zNS (rA [12] [0,1] h Z fun _ h=>M2 63 [0,1,2,3,4,5] 0 0 (h.pick [0,1] Z) Z ?_)));obtain⟨y3,P,F,c,_,_,_,_,i,p,rfl,_⟩:=(h.sl 1 Z).1.ix F;refine Ax 6 127 i p ⟨c.1,qD c.2.1 (h.sl 1 Z).2⟩ (h.pick [0,1] Z) Z (Aw 7 255 (fun w' hw=>qia qa (qbH (w1:=w) (S1:=fun _=>False) hw 1 Z P i p Z) (j:=0) Z Z Z) (h.pick [0,1] Z) Z ?_);refine M1 2047 [8,9,10] 0 (h.pick [0,1] Z) Z ?_;obtain⟨_,Q,F,d,_,_,_,_,k,s,rfl,D⟩:=(h.sl 1 Z).1.ix F;refine Ax 11 4095 k s ⟨d.1,qD d.2.1 (h.sl 1 Z).2⟩ (h.pick [0,1] Z) Z (Ao 12 8191 Z (qao qa 1 0 (W64 (y3+y2.Bp)) h Z Q k s Z D Z Z Z Z Z Z Z fun _ h=>qbz (fun hs=>absurd (hs 12 (by decide)) (by decide)) (Ad (rA [12] [0,1] h Z fun _ h=>M2 63 [0,1,2,3,4,5] 0 0 (h.pick [0,1] Z) Z ?_))));obtain⟨y5,R,F,f,_,_,_,_,l,t,rfl,_⟩:=(h.sl 1 Z).1.ix F;refine Ax 6 127 l t ⟨f.1,qD f.2.1 (h.sl 1 Z).2⟩ (h.pick [0,1] Z) Z (Aw 7 255 (fun w' hw=>qia qa (qbH (w1:=w) (S1:=fun _=>False) hw 1 Z R l t Z) (j:=0) Z Z Z) (h.pick [0,1] Z) Z ?_);refine M1 2047 [8,9,10] 0 (h.pick [0,1] Z) Z ?_;obtain⟨_,S,F,g,_,_,_,_,o,u,rfl,H⟩:=(h.sl 1 Z).1.ix F;refine Ax 11 4095 o u ⟨g.1,qD g.2.1 (h.sl 1 Z).2⟩ (h.pick [0,1] Z) Z (Ao 12 8191 Z (qao qa 1 0 (W64 (y5+y2.Bp)) h Z S o u Z H Z Z Z Z Z Z Z fun _ h=>qbz (fun hs=>absurd (hs 12 (by decide)) (by decide)) (Ad (X0 6 Z ?_))));replace h:=h.pick [1] Z;exact rK ⟨_,_,F,rfl,h⟩ Z
 refine qr Z ?_;obtain rfl:=qb F;replace F:=x;refine X0 5 Z ?_;obtain rfl:=qb F;exact rO 0 h Z ⟨rfl,trivial⟩
def qcH (a_n:Int)(a:(List Int))(b:(List Int)):Nat→(List Int)→Int→Option ((List Int)×Int)
 | 0,_,_=>U
 | n+1,d,c=>
  bif decide (c<a_n) then
   (
    (qja n a c).bind fun f=>
    bif f then V true else
    (qja n b c).bind fun g=>
    V g).bind fun b1=>
   bif b1 then
    (appS d ([c]:List Int)).bind fun h=>
    qcH a_n a b n h (W64 (c+1))
   else
    qcH a_n a b n d (W64 (c+1))
  else
   V (d,c)
def qke (n:Nat)(a_n:Int)(a:(List Int))(b:(List Int)):Option (List Int):=
 (qcH a_n a b n ([]:List Int) 0).bind fun o=>match o with
 | (c,_)=>
  V c
theorem qqA {a_n:Int}{a:(List Int)}{b:(List Int)}(u:Ro w a cs1)(v:Ro w b cs2){r:(List Int)}(F:qke n a_n a b=V r):RetV prog 36 [.int .i64 a_n,GoT.v (List Int) cs1,GoT.v (List Int) cs2] w r:=by
 obtain⟨B,x,rfl,H⟩:=u;obtain⟨C,y,rfl,s2⟩:=v;refine zV 28 func36 Z fun h=>X0 6 Z (qG qa [] _ ([]:List Int) h Z Z Z Z Z Z Z Z Z trivial Z fun _ _ _ h=>X0 7 Z ?_);obtain⟨A,F,s⟩:=qd F;refine qn (rL (fun m e w'=>∃(S2:Nat→Prop) (o:Option Addr) (d:Nat) (l:Nat) (f:(List Int)) (k:Int),qcH a_n a b m f k=V A∧e=[(0,.int .i64 a_n),(1,.slice B a.length x),(2,.slice C b.length y),(7,.slice o d l),(8,.int .i64 k)]∧SH w w' [Ch.own S2 (f:List Int) [.slice o d l]]) n ⟨_,_,_,_,_,_,F,rfl,h⟩ Z ?_);rintro z _ _ ⟨S2,o,d,l,f,k,F,rfl,h⟩;obtain rfl:=(h.sl 0 Z).2;rcases z with _|z
 ·cases F
 refine X0 7 Z (qi Z F ?_ ?_)<;>intro F
 ·refine X0 4 Z ?_;obtain⟨p,i,_,F,g⟩:=bindE F;refine qaT (fun e w'=>∃(b1:Bool),p b1=V A∧e=[(0,.int .i64 a_n),(1,.slice B a.length x),(2,.slice C b.length y),(7,.slice o f.length l),(8,.int .i64 k),(22,.bool b1)]∧SH w w' [Ch.own S2 (f:List Int) [.slice o f.length l]]) ?_ ?_
  ·refine X0 3 Z (zcB h F (qlJ ⟨_,_,rfl,(h.oldS H)⟩) Z fun _ _ h F=>zp1 Z (qj (t:=18) F Z ?_ ?_))<;>intro F
   ·refine X0 5 Z ?_;obtain rfl:=qb F;exact rG ⟨_,g,rfl,h⟩ Z
   refine X0 5 Z (zcB h F (qlJ ⟨_,_,rfl,(h.oldS s2)⟩) Z fun _ _ h F=>X0 2 Z ?_);obtain rfl:=qb F;exact rG ⟨_,g,rfl,h⟩ Z
  rintro _ _ ⟨b1,F,rfl,h⟩;subst i;refine qi Z F ?_ ?_<;>intro F
  ·refine X0 3 Z (qG qa [.tmp 24] _ ([k]:List Int) h Z Z Z Z Z Z Z Z Z ⟨rfl,trivial⟩ Z fun _ _ _ h=>?_);obtain⟨_,c,F⟩:=qd F;obtain⟨D,c⟩:=qaD c;refine qcs qa 1 h Z (h.sl 0 Z).1 (h.sl 0 Z).2 Z Z Z Z Z Z Z Z Z D c Z fun _ _ _ _ h=>X0 8 Z ?_;replace h:=h.pick [1] Z;exact rK ⟨_,_,_,_,_,_,F,rfl,h⟩ Z
  exact X0 7 Z (rK ⟨_,_,_,_,_,_,F,rfl,h⟩ Z)
 refine qr Z ?_;obtain rfl:=qb F;replace F:=s;refine X0 5 Z ?_;obtain rfl:=qb F;exact rO 0 h Z ⟨rfl,trivial⟩
def qhQ (n:Nat)(c:qe)(a:qq)(d:Int):Option (qc×Bool):=
 (qh0 n (⟨c.Aa.Ab,c.Aa.Ai,c.Aa.Ah⟩:qg) d).bind fun b=>
 (
  (idx a.Aj (W64 (2*b))).bind fun o=>
  bif o then
   (idx a.Aj (W64 ((W64 (2*b))+1))).bind fun p=>
   V p
  else
   V false).bind fun b1=>
 bif b1 then
  (idx a.Ac (W64 (2*b))).bind fun g=>
  (idx a.Ac (W64 ((W64 (2*b))+1))).bind fun h=>
  (qjM n g h).bind fun f=>
  V (f,true)
 else
  (idx a.Aj (W64 (2*b))).bind fun i=>
  bif i then
   (idx a.Ac (W64 (2*b))).bind fun k=>
   V (k,true)
  else
   (idx a.Aj (W64 ((W64 (2*b))+1))).bind fun l=>
   bif l then
    (idx a.Ac (W64 ((W64 (2*b))+1))).bind fun m=>
    V (m,true)
   else
    V ((⟨0,0⟩:qc),false)
theorem qhr {b:qe}{a:qq}{c:Int}(s:Ro w b cs1)(u:Ro w a cs2){r:(qc×Bool)}(F:qhQ n b a c=V r):RetV prog 87 [GoT.v qe cs1,GoT.v qq cs2,.int .i64 c] w r:=by
 obtain⟨_,_,_,_,_,_,_,_,_,_,rfl,_,s2,s3,s4,_⟩:=qE s;obtain⟨p6,k6,p7,k7,p8,k8,rfl,m,o,_⟩:=qM u;refine zV 65 func87 Z fun h=>zSR (qw h Z Z fun _ _ h=>qw h Z Z fun _ d h=>qp qa h Z Z Z fun _ f h=>X1 7 2 h Z (zcI h F (qmh (qav _ (h.oldS s2) (h.oldS s3) (h.oldS s4))) Z fun r1 _ h F=>X0 6 Z ?_));obtain⟨p,i,_,F,g⟩:=bindE F;refine qaT (fun e w'=>∃(b1:Bool),p b1=V r∧e=[(4,.pointer (V ⟨d,0,U⟩)),(6,.pointer (V ⟨f,0,U⟩)),(8,.int .i64 (W64 (2*r1))),(14,.bool b1)]∧SH w w' [Ch.box f [.int .i64 0,.int .i64 0] 93,Ch.box d (qI a p6 p7 p8 k6 k7 k8) 45]) ?_ ?_
 ·refine X1 4 1 h Z ?_;obtain⟨_,_,F,L,_,_,_,_,W,a8,rfl,k⟩:=m.ix F;refine zxe W a8 L Z (zc 0 (k.below h.below) Z (zp1 Z (qj (t:=20) F Z ?_ ?_)))<;>intro F
  ·refine X1 9 1 h Z ?_;obtain⟨_,_,F,M,_,_,_,_,X,a9,rfl,l⟩:=m.ix F;refine zxe X a9 M Z (X0 1 Z (zc 0 (l.below h.below) Z (X0 3 Z ?_)));replace h:=h.pick [0,1] Z;obtain rfl:=qb F;exact rG ⟨_,g,rfl,h⟩ Z
  refine X0 9 Z ?_;replace h:=h.pick [0,1] Z;obtain rfl:=qb F;exact rG ⟨_,g,rfl,h⟩ Z
 rintro _ _ ⟨b1,F,rfl,h⟩;subst i;refine qi Z F ?_ ?_<;>intro F
 ·refine qcx (rA [] [1] h Z fun _ h=>M1 7 [0,1,2] 0 (h.pick [1] Z) Z ?_);obtain⟨y1,_,F,C,_,_,_,_,N,Y,b3,v⟩:=o.ix F;obtain rfl:=qu b3;refine Ae 3 15 N Y C (h.pick [1] Z) Z (Al 4 31 0 v (h.pick [1] Z) Z (M1 511 [5,6,7,8] 0 (h.pick [1] Z) Z ?_));obtain⟨y2,_,F,D,_,_,_,_,O,a3,b4,x⟩:=o.ix F;obtain rfl:=qu b4;refine Ae 9 1023 O a3 D (h.pick [1] Z) Z (Al 10 2047 0 x (h.pick [1] Z) Z (Ao 11 4095 Z (zcO h F (qkZ (qB y1) (qB y2)) Z fun r2 _ _ _ h F=>?_)));obtain rfl:=qu (h.own 0 Z);refine Ag (h.pick [2] Z) (Ao 12 8191 Z (zs 1 h Z fun _ h=>G0 16383 [13] (h.pick [2] Z) Z (Ad ?_)));obtain rfl:=qb F;exact qX qa (ρ:=(qc×Bool)) [GoT.v qc (qdK r2),GoT.v Bool [.bool true]] h ⟨⟨_,_,_,rfl,rfl,h.box 1 Z,rfl⟩,rfl,trivial⟩ (PV.done h (qP h (qak 0 h Z) (qad (qy (S:=fun _=>False) Z)) (by rfl)))
 refine X1 5 1 h Z ?_;obtain⟨_,_,F,H,_,_,_,_,P,a4,rfl,y⟩:=m.ix F;refine zxe P a4 H Z (zc 0 (y.below h.below) Z (X0 2 Z (qi Z F ?_ ?_)))<;>intro F
 ·refine X1 5 1 h Z ?_;obtain⟨y4,_,F,I,_,_,_,_,Q,a5,b5,z⟩:=o.ix F;obtain rfl:=qu b5;refine zxe Q a5 I Z (zc 0 (z.below h.below) Z (zs 0 h Z fun _ h=>X0 2 Z ?_));obtain rfl:=qb F;exact qX qa (ρ:=(qc×Bool)) [GoT.v qc (qdK y4),GoT.v Bool [.bool true]] h ⟨⟨_,_,_,rfl,rfl,h.box 0 Z,rfl⟩,rfl,trivial⟩ (PV.done h (qP h (qy (S:=fun _=>False) (qB y4)) (qad (qy (S:=fun _=>False) Z)) (by rfl)))
 refine X1 6 1 h Z ?_;obtain⟨_,_,F,J,_,_,_,_,R,a6,rfl,A⟩:=m.ix F;refine zxe R a6 J Z (zc 0 (A.below h.below) Z (X0 2 Z (qi Z F ?_ ?_)))<;>intro F
 ·refine X1 6 1 h Z ?_;obtain⟨y6,_,F,K,_,_,_,_,T,a7,b6,B⟩:=o.ix F;obtain rfl:=qu b6;refine zxe T a7 K Z (zc 0 (B.below h.below) Z (zs 0 h Z fun _ h=>X0 2 Z ?_));obtain rfl:=qb F;exact qX qa (ρ:=(qc×Bool)) [GoT.v qc (qdK y6),GoT.v Bool [.bool true]] h ⟨⟨_,_,_,rfl,rfl,h.box 0 Z,rfl⟩,rfl,trivial⟩ (PV.done h (qP h (qy (S:=fun _=>False) (qB y6)) (qad (qy (S:=fun _=>False) Z)) (by rfl)))
 refine X0 4 Z (r_v (qaf qa [] [] Z Z Z Z Z Z Z Z) Z (zs 0 h Z fun _ h=>X0 2 Z ?_));obtain rfl:=qb F;exact qX qa (ρ:=(qc×Bool)) [GoT.v qc [.int .i64 0,.int .i64 0],GoT.v Bool [.bool false]] h ⟨⟨_,_,_,rfl,rfl,h.box 0 Z,rfl⟩,rfl,trivial⟩ (PV.done h (qP h (qy (S:=fun _=>False) (qB (⟨0,0⟩:qc))) (qad (qy (S:=fun _=>False) Z)) (by rfl)))
def qck (b:qe)(c:qq)(a:(List qh)):Nat→(List Int)→Int→Option ((List Int)×Int)
 | 0,_,_=>U
 | n+1,h,d=>
  bif decide (d<(a.length:Int)) then
   (idx a d).bind fun p=>
   (qhQ n b c p.A).bind fun o=>match o with
    | (i,l)=>
     (idx a d).bind fun r=>
     (qhQ n b c r.B).bind fun o=>match o with
      | (f,g)=>
       (
        bif l then
         bif g then
          bif decide (i.Am≤f.Au) then V (decide (f.Am≤i.Au)) else
          V false
         else
          V false
        else
         V false).bind fun k=>
       bif k then
        (appS h ([d]:List Int)).bind fun m=>
        qck b c a n m (W64 (d+1))
       else
        qck b c a n h (W64 (d+1))
  else
   V (h,d)
def qjK (n:Nat)(a:qe)(b:qq)(c:(List qh)):Option (List Int):=
 (qck a b c n ([]:List Int) 0).bind fun o=>match o with
 | (d,_)=>
  V d
theorem qpW {k:qe}{l:qq}{o:(List qh)}(u:Ro w k cs1)(v:Ro w l cs2)(ha3:Ro w o cs3){r:(List Int)}(F:qjK n k l o=V r):RetV prog 37 [GoT.v qe cs1,GoT.v qq cs2,GoT.v (List qh) cs3] w r:=by
 obtain⟨p1,k1,p2,k2,p3,k3,p4,k4,p5,k5,rfl,_,_,_,_,_⟩:=qE u;obtain⟨p6,k6,p7,k7,p8,k8,rfl,_,_,_⟩:=qM v;obtain⟨p9,k9,rfl,s9⟩:=ha3;refine zV 65 func37 Z fun h=>zSR (qw h Z Z fun _ c h=>qw h Z Z fun _ d h=>X0 4 Z (qG qa [] _ ([]:List Int) h Z Z Z Z Z Z Z Z Z trivial Z fun _ _ _ h=>X0 7 Z ?_));obtain⟨o1,F,hK1⟩:=qd F;refine qn (rL (fun m e w'=>∃(S2:Nat→Prop) (b:Option Addr) (L:Nat) (a:Nat) (p:(List Int)) (J:Int),qck k l o m p J=V o1∧e=[(2,.slice p9 o.length k9),(3,.pointer (V ⟨c,0,U⟩)),(4,.pointer (V ⟨d,0,U⟩)),(7,.slice b L a),(8,.int .i64 J)]∧SH w w' [Ch.own S2 (p:List Int) [.slice b L a],Ch.box d (qI l p6 p7 p8 k6 k7 k8) 45,Ch.box c (qJ k p1 p2 p3 p4 p5 k1 k2 k3 k4 k5) 57]) n ⟨_,_,_,_,_,_,F,rfl,h⟩ Z ?_);rintro m1 _ _ ⟨S2,b,L,a,p,J,F,rfl,h⟩;obtain rfl:=(h.sl 0 Z).2;rcases m1 with _|m1
 ·cases F
 refine X0 8 Z (qi Z F ?_ ?_)<;>intro F
 ·refine X0 4 Z (rA [] [1,2] h Z fun _ h=>M2 15 [0,1,2,3] 1 0 (h.pick [1,2] Z) Z ?_);obtain⟨_,_,F,he1,_,_,_,_,hp1,hq1,hr1,hc2⟩:=s9.ix F;obtain rfl:=qV hr1;refine Ae 4 31 hp1 hq1 he1 (h.pick [1,2] Z) Z (M0 63 [5] (h.pick [1,2] Z) Z (Al 6 127 0 hc2 (h.pick [1,2] Z) Z ?_));obtain⟨r1,T,F⟩:=qd F;obtain⟨r2,r3⟩:=r1;refine qmG (fun e w'=>∃(f:Nat),e=[(10,.bool r3),(2,.slice p9 o.length k9),(3,.pointer (V ⟨c,0,U⟩)),(4,.pointer (V ⟨d,0,U⟩)),(7,.slice b p.length a),(8,.int .i64 J),(9,.pointer (V ⟨f,0,U⟩))]∧SH w w' [Ch.box f (qdK r2) 93,Ch.own S2 (p:List Int) [.slice b p.length a],Ch.box d (qI l p6 p7 p8 k6 k7 k8) 45,Ch.box c (qJ k p1 p2 p3 p4 p5 k1 k2 k3 k4 k5) 57]) 0 (bits 14 16383) ?_ ?_
  ·intro K;refine At 7 11 255 2175 Z ?_ ?_
   ·refine qaF (r2,r3) h (cB 87 Z) (qhr (h.old u) (h.old v) T) Z Z Z Z fun w58 S54 X B x=>?_;obtain⟨S55,S56,Q,Y,rfl,g,y⟩:=B.cons x;obtain rfl:=qu (g.sh.own 0 Z);obtain⟨rfl,h⟩:=g.lastB y;refine G0 2047 [8,9,10] (h.pick [2,3] Z) Z (Ao 11 4095 Z (qp qa h Z Z Z fun w59 O h=>Ag (h.pick [3,4] Z) (Ao 12 8191 Z (zs 0 h Z fun w60 h=>G0 16383 [13] (h.pick [3,4] Z) Z ?_))));replace h:=h.pick [0,2,3,4] Z;exact qeJ [(10,_),(2,_),(3,_),(4,_),(7,_),(8,_),(9,_)] ⟨rfl,rfl,rfl,rfl,rfl,rfl,rfl,trivial⟩ (K _ _ ⟨_,rfl,h⟩)
   refine qp qa h Z Z Z fun w58 O h=>Ag (h.pick [2,3] Z) (Ao 7 2303 Z (qaF (r2,r3) h (cB 87 Z) (qhr (h.old u) (h.old v) T) Z Z Z Z fun w59 S54 X B x=>?_));obtain⟨S55,S56,Q,Y,rfl,g,y⟩:=B.cons x;obtain rfl:=qu (g.sh.own 0 Z);obtain⟨rfl,h⟩:=g.lastB y;refine G0 4095 [8,9,10] (h.pick [3,4] Z) Z (Ao 12 8191 Z (zs 1 h Z fun w60 h=>G0 16383 [13] (h.pick [3,4] Z) Z ?_));replace h:=h.pick [1,2,3,4] Z;exact qeJ [(10,_),(2,_),(3,_),(4,_),(7,_),(8,_),(9,_)] ⟨rfl,rfl,rfl,rfl,rfl,rfl,rfl,trivial⟩ (K _ _ ⟨_,rfl,h⟩)
  rintro _ _ ⟨f,rfl,h⟩;refine Ad (qcx (rA [] [2,3] h Z fun _ h=>M2 15 [0,1,2,3] 1 0 (h.pick [2,3] Z) Z ?_));obtain⟨_,_,F,he4,_,_,_,_,hp4,hq4,W,hc7⟩:=s9.ix F;obtain rfl:=qV W;refine Ae 4 31 hp4 hq4 he4 (h.pick [2,3] Z) Z (M0 63 [5] (h.pick [2,3] Z) Z (Al 6 127 1 hc7 (h.pick [2,3] Z) Z ?_));obtain⟨r10,H,F⟩:=qd F;obtain⟨M,N⟩:=r10;refine qmG (fun e w'=>∃(s:Nat),e=[(10,.bool r3),(11,.pointer (V ⟨s,0,U⟩)),(12,.bool N),(2,.slice p9 o.length k9),(3,.pointer (V ⟨c,0,U⟩)),(4,.pointer (V ⟨d,0,U⟩)),(7,.slice b p.length a),(8,.int .i64 J),(9,.pointer (V ⟨f,0,U⟩))]∧SH w w' [Ch.box s (qdK M) 93,Ch.box f (qdK r2) 93,Ch.own S2 (p:List Int) [.slice b p.length a],Ch.box d (qI l p6 p7 p8 k6 k7 k8) 45,Ch.box c (qJ k p1 p2 p3 p4 p5 k1 k2 k3 k4 k5) 57]) 0 (bits 14 16383) ?_ ?_
  ·intro K;refine At 7 11 255 2175 Z ?_ ?_
   ·refine qaF (M,N) h (cB 87 Z) (qhr (h.old u) (h.old v) H) Z Z Z Z fun w70 S66 a3 C z=>?_;obtain⟨S67,S68,R,a4,rfl,i,A⟩:=C.cons z;obtain rfl:=qu (i.sh.own 0 Z);obtain⟨rfl,h⟩:=i.lastB A;refine G0 2047 [8,9,10] (h.pick [3,4] Z) Z (Ao 11 4095 Z (qp qa h Z Z Z fun w71 P h=>Ag (h.pick [4,5] Z) (Ao 12 8191 Z (zs 0 h Z fun w72 h=>G0 16383 [13] (h.pick [4,5] Z) Z ?_))));replace h:=h.pick [0,2,3,4,5] Z;exact qeJ [(10,_),(11,_),(12,_),(2,_),(3,_),(4,_),(7,_),(8,_),(9,_)] ⟨rfl,rfl,rfl,rfl,rfl,rfl,rfl,rfl,rfl,trivial⟩ (K _ _ ⟨_,rfl,h⟩)
   refine qp qa h Z Z Z fun w70 P h=>Ag (h.pick [3,4] Z) (Ao 7 2303 Z (qaF (M,N) h (cB 87 Z) (qhr (h.old u) (h.old v) H) Z Z Z Z fun w71 S66 a3 C z=>?_));obtain⟨S67,S68,R,a4,rfl,i,A⟩:=C.cons z;obtain rfl:=qu (i.sh.own 0 Z);obtain⟨rfl,h⟩:=i.lastB A;refine G0 4095 [8,9,10] (h.pick [4,5] Z) Z (Ao 12 8191 Z (zs 1 h Z fun w72 h=>G0 16383 [13] (h.pick [4,5] Z) Z ?_));replace h:=h.pick [1,2,3,4,5] Z;exact qeJ [(10,_),(11,_),(12,_),(2,_),(3,_),(4,_),(7,_),(8,_),(9,_)] ⟨rfl,rfl,rfl,rfl,rfl,rfl,rfl,rfl,rfl,trivial⟩ (K _ _ ⟨_,rfl,h⟩)
  rintro _ _ ⟨s,rfl,h⟩;refine Ad (qcx ?_);obtain⟨KF3,S,_,F,D⟩:=bindE F;refine qaT (fun e w'=>∃(b7:Bool),KF3 b7=V o1∧e=[(2,.slice p9 o.length k9),(3,.pointer (V ⟨c,0,U⟩)),(4,.pointer (V ⟨d,0,U⟩)),(7,.slice b p.length a),(8,.int .i64 J),(59,.bool b7)]∧SH w w' [Ch.own S2 (p:List Int) [.slice b p.length a],Ch.box d (qI l p6 p7 p8 k6 k7 k8) 45,Ch.box c (qJ k p1 p2 p3 p4 p5 k1 k2 k3 k4 k5) 57]) ?_ ?_
  ·refine X0 3 Z (qj (t:=43) F Z ?_ ?_)<;>intro F
   ·refine X0 4 Z (qj (t:=46) F Z ?_ ?_)<;>intro F
    ·refine X2 12 1 0 h Z (qj (t:=53) F Z ?_ ?_)<;>intro F
     ·refine X2 12 0 1 h Z ?_;replace h:=h.pick [2,3,4] Z;obtain rfl:=qb F;exact rG ⟨_,D,rfl,h⟩ Z
     refine X0 7 Z ?_;replace h:=h.pick [2,3,4] Z;obtain rfl:=qb F;exact rG ⟨_,D,rfl,h⟩ Z
    refine X0 14 Z ?_;replace h:=h.pick [2,3,4] Z;obtain rfl:=qb F;exact rG ⟨_,D,rfl,h⟩ Z
   refine X0 17 Z ?_;replace h:=h.pick [2,3,4] Z;obtain rfl:=qb F;exact rG ⟨_,D,rfl,h⟩ Z
  rintro _ _ ⟨b7,F,rfl,h⟩;subst S;refine qi Z F ?_ ?_<;>intro F
  ·refine X0 3 Z (qG qa [.tmp 61] _ ([J]:List Int) h Z Z Z Z Z Z Z Z Z ⟨rfl,trivial⟩ Z fun _ _ _ h=>?_);obtain⟨_,I,F⟩:=qd F;obtain⟨g3,I⟩:=qaD I;refine qcs qa 1 h Z (h.sl 0 Z).1 (h.sl 0 Z).2 Z Z Z Z Z Z Z Z Z g3 I Z fun _ _ _ _ h=>X0 8 Z ?_;replace h:=h.pick [1,2,3] Z;exact rK ⟨_,_,_,_,_,_,F,rfl,h⟩ Z
  exact X0 7 Z (rK ⟨_,_,_,_,_,_,F,rfl,h⟩ Z)
 refine qr Z ?_;obtain rfl:=qb F;replace F:=hK1;refine X0 5 Z ?_;obtain rfl:=qb F;exact rO 0 h Z ⟨rfl,trivial⟩
def qdq (a:qe)(d:qz)(f:(List Int))(g:(List qf))(b:(List qh))(k:(List Int)):Nat→(List Int)→Int→Option (Flow (qq×(List Int)×Int×Int) ((List Int)×Int))
 | 0,_,_=>U
 | n+1,h,i=>
  (qgh n a b h).bind fun m=>
  (qhL n a d f g m k).bind fun o=>match o with
   | (c,p)=>
    bif (!p) then V (.ret ((⟨[],[],[]⟩:qq),([]:List Int),0,3)) else
    (qjK n a (⟨c.Aj,c.Ac,c.Aq⟩:qq) b).bind fun r=>
    (qke n (b.length:Int) h r).bind fun l=>
    bif ((l.length:Int)==(h.length:Int)) then V (.ret ((⟨c.Aj,c.Ac,c.Aq⟩:qq),h,i,0)) else
    qdq a d f g b k n l (W64 (i+1))
def qfa (n:Nat)(a:qe)(b:qz)(c:(List Int))(d:(List qf))(f:(List qh)):Option (qq×(List Int)×Int×Int):=
 (qnD n a b c d f).bind fun o=>match o with
  | (h,g)=>
   bif (g != 0) then V ((⟨[],[],[]⟩:qq),([]:List Int),0,g) else
   (qdq a b c d f h n ([]:List Int) 1).bind fun o=>match o with
   | .ret r=>V r
   | .nxt _=>U
theorem qbQ {l:qe}{o:qz}{p:(List Int)}{s:(List qf)}{t:(List qh)}(b:Ro w l cs1)(u:Ro w o cs2)(ha3:Ro w p cs3)(ha4:Ro w s cs4)(ha5:Ro w t cs5){r:(qq×(List Int)×Int×Int)}(F:qfa n l o p s t=V r):RetV prog 9 [GoT.v qe cs1,GoT.v qz cs2,GoT.v (List Int) cs3,GoT.v (List qf) cs4,GoT.v (List qh) cs5] w r:=by
 obtain⟨p1,k1,p2,k2,p3,k3,p4,k4,p5,k5,rfl,_,_,_,_,_⟩:=qE b;obtain rfl:=qag u;obtain⟨p6,k6,rfl,s6⟩:=ha3;obtain⟨p7,k7,rfl,s7⟩:=ha4;obtain⟨p8,k8,rfl,s8⟩:=ha5;refine zV 72 func9 Z fun h=>zSR (qw h Z Z fun _ y h=>qw h Z Z fun _ z h=>qp qa h Z Z Z fun _ A h=>X2 11 2 1 h Z ?_);obtain⟨r1,hr1,F⟩:=qd F;obtain⟨H,r3⟩:=r1;refine qaF (H,r3) h (cB 33 Z) (qrI (h.old b) (h.old u) ⟨_,_,rfl,(h.oldS s6)⟩ ⟨_,_,rfl,(h.oldS s7)⟩ ⟨_,_,rfl,(h.oldS s8)⟩ hr1) Z Z Z Z fun _ _ _ hv1 hr2=>?_;obtain⟨S2,_,p9,k9,_,rfl,hv2,hr3⟩:=hv1.consL hr2;obtain⟨rfl,h⟩:=hv2.lastI hr3;refine X0 12 Z (qi Z F ?_ ?_)<;>intro F
 ·refine zSR (r_v (qaf qa [] [] Z Z Z Z Z Z Z Z) Z (qG qa [] _ ([]:List Int) h Z Z Z Z Z Z Z Z Z trivial Z fun _ p10 _ h=>zp1 Z (zs 2 h Z fun _ h=>X0 4 Z ?_)));obtain rfl:=qb F;exact qX qa (ρ:=(qq×(List Int)×Int×Int)) [GoT.v qq [.slice U 0 0,.slice U 0 0,.slice U 0 0],GoT.v (List Int) [.slice p10 0 0],GoT.v Int [.int .i64 0],GoT.v Int [.int .i64 r3]] h ⟨⟨_,_,_,rfl,rfl,h.box 2 Z,rfl⟩,rfl,rfl,rfl,trivial⟩ (PV.done h (qP h (qe4 (⟨[],[],[]⟩:qq) h qeF qeF qeF (by rfl) (by rfl)) (qP h (qak 0 h Z) (qP h (qy (S:=fun _=>False) Z) (qad (qy (S:=fun _=>False) Z)) (by rfl)) (by rfl)) (by rfl)))
 refine zKSR (qG qa [] _ ([]:List Int) h Z Z Z Z Z Z Z Z Z trivial Z fun _ _ _ h=>X0 6 Z ?_);obtain⟨o1,F,P⟩:=qd F;refine qn (rL (fun m e w'=>∃(S7:Nat→Prop) (g:Option Addr) (K:Nat) (c:Nat) (L:(List Int)) (i1:Int),qdq l o p s t H m L i1=V o1∧e=[(2,.slice p6 p.length k6),(3,.slice p7 s.length k7),(4,.slice p8 t.length k8),(5,.pointer (V ⟨y,0,U⟩)),(6,.pointer (V ⟨z,0,U⟩)),(10,.pointer (V ⟨A,0,U⟩)),(14,.slice p9 H.length k9),(16,.slice g K c),(17,.int .i64 i1)]∧SH w w' [Ch.own S7 (L:List Int) [.slice g K c],Ch.own S2 (H:List Int) [.slice p9 H.length k9],Ch.box A [.slice U 0 0,.slice U 0 0,.slice U 0 0] 45,Ch.box z (qam o) 59,Ch.box y (qJ l p1 p2 p3 p4 p5 k1 k2 k3 k4 k5) 57]) n ⟨_,_,_,_,_,_,F,rfl,h⟩ Z ?_);rintro m1 _ _ ⟨S7,g,K,c,L,i1,F,rfl,h⟩;obtain rfl:=(h.sl 0 Z).2;rcases m1 with _|m1
 ·cases F
 refine X0 3 Z ?_;obtain⟨r4,a3,F⟩:=qd F;obtain⟨r5,J,F⟩:=qd F;obtain⟨a,r7⟩:=r5;refine qaT (fun e w'=>∃(I:Nat) (M:Nat→Prop) (i:Option Addr) (d:Nat) (N:Nat→Prop) (k:Option Addr) (f:Nat) (O:Nat→Prop) (x:Option Addr) (v:Nat),e=[(2,.slice p6 p.length k6),(3,.slice p7 s.length k7),(4,.slice p8 t.length k8),(5,.pointer (V ⟨y,0,U⟩)),(6,.pointer (V ⟨z,0,U⟩)),(10,.pointer (V ⟨A,0,U⟩)),(14,.slice p9 H.length k9),(16,.slice g L.length c),(17,.int .i64 i1),(18,.pointer (V ⟨I,0,U⟩)),(19,.bool r7)]∧SH w w' [Ch.box I (qI a x k i v f d) 45,Ch.own M (a.Aq:List qc) [.slice i a.Aq.length d],Ch.own N (a.Ac:List qc) [.slice k a.Ac.length f],Ch.own O (a.Aj:List Bool) [.slice x a.Aj.length v],Ch.own S7 (L:List Int) [.slice g L.length c],Ch.own S2 (H:List Int) [.slice p9 H.length k9],Ch.box A [.slice U 0 0,.slice U 0 0,.slice U 0 0] 45,Ch.box z (qam o) 59,Ch.box y (qJ l p1 p2 p3 p4 p5 k1 k2 k3 k4 k5) 57]) ?_ ?_
 ·refine rA [] [3,4] h Z fun _ h=>M3 383 [0,1,2,3,4,5,6,8] 1 0 1 (h.pick [3,4] Z) Z (At 7 13 511 8575 Z ?_ ?_)
  ·refine qa2 r4 h (cB 35 Z) (qmE (h.old b) ⟨_,_,rfl,(h.oldS s8)⟩ (h.own 0 Z) a3) Z Z Z Z fun _ _ _ _ h=>Ag (h.pick [4,5] Z) (At 9 13 1023 8703 Z ?_ ?_)
   ·refine qaF (a,r7) h (cB 34 Z) (ql8 (h.old b) (h.old u) ⟨_,_,rfl,(h.oldS s6)⟩ ⟨_,_,rfl,(h.oldS s7)⟩ (h.own 0 Z) (h.own 2 Z) J) Z Z Z Z fun _ _ _ a4 Q=>?_;obtain⟨_,_,_,_,rfl,B,R⟩:=a4.cons Q;obtain⟨_,_,_,_,_,_,rfl,-,-,-⟩:=qM (B.sh.own 0 Z);obtain⟨rfl,h⟩:=B.lastB R;obtain⟨_,_,_,h⟩:=qaz h;refine G0 8191 [10,11,12] (h.pick [7,8] Z) Z (Ao 13 16383 Z (qp qa h Z Z Z fun _ _ h=>Ag (h.pick [8,9] Z) (Ao 14 32767 Z (zs 0 h Z fun _ h=>G0 65535 [15] (h.pick [8,9] Z) Z (Ad ?_)))));replace h:=h.pick [0,1,2,3,5,6,7,8,9] Z;exact rG ⟨_,_,_,_,_,_,_,_,_,_,rfl,h⟩ Z
   refine qp qa h Z Z Z fun _ _ h=>Ag (h.pick [5,6] Z) (Ao 9 9215 Z (qaF (a,r7) h (cB 34 Z) (ql8 (h.old b) (h.old u) ⟨_,_,rfl,(h.oldS s6)⟩ ⟨_,_,rfl,(h.oldS s7)⟩ (h.own 1 Z) (h.own 3 Z) J) Z Z Z Z fun _ _ _ a5 T=>?_));obtain⟨_,_,_,_,rfl,C,W⟩:=a5.cons T;obtain⟨_,_,_,_,_,_,rfl,-,-,-⟩:=qM (C.sh.own 0 Z);obtain⟨rfl,h⟩:=C.lastB W;obtain⟨_,_,_,h⟩:=qaz h;refine G0 16383 [10,11,12] (h.pick [8,9] Z) Z (Ao 14 32767 Z (zs 3 h Z fun _ h=>G0 65535 [15] (h.pick [8,9] Z) Z (Ad ?_)));replace h:=h.pick [3,0,1,2,5,6,7,8,9] Z;exact rG ⟨_,_,_,_,_,_,_,_,_,_,rfl,h⟩ Z
  refine qp qa h Z Z Z fun _ _ h=>Ag (h.pick [4,5] Z) (Ao 7 8703 Z (qa2 r4 h (cB 35 Z) (qmE (h.old b) ⟨_,_,rfl,(h.oldS s8)⟩ (h.own 1 Z) a3) Z Z Z Z fun _ _ _ _ h=>Ag (h.pick [5,6] Z) (Ao 9 9215 Z (qaF (a,r7) h (cB 34 Z) (ql8 (h.old b) (h.old u) ⟨_,_,rfl,(h.oldS s6)⟩ ⟨_,_,rfl,(h.oldS s7)⟩ (h.own 0 Z) (h.own 3 Z) J) Z Z Z Z fun _ _ _ a6 X=>?_))));obtain⟨_,_,_,_,rfl,D,Y⟩:=a6.cons X;obtain⟨_,_,_,_,_,_,rfl,-,-,-⟩:=qM (D.sh.own 0 Z);obtain⟨rfl,h⟩:=D.lastB Y;obtain⟨_,_,_,h⟩:=qaz h;refine G0 16383 [10,11,12] (h.pick [8,9] Z) Z (Ao 14 32767 Z (zs 4 h Z fun _ h=>G0 65535 [15] (h.pick [8,9] Z) Z (Ad ?_)));replace h:=h.pick [4,0,1,2,5,6,7,8,9] Z;exact rG ⟨_,_,_,_,_,_,_,_,_,_,rfl,h⟩ Z
 rintro _ _ ⟨I,M,i,d,N,k,f,O,x,v,rfl,h⟩;refine X0 6 Z (qi Z F ?_ ?_)<;>intro F
 ·refine zSR (r_v (qaf qa [] [] Z Z Z Z Z Z Z Z) Z (qG qa [] _ ([]:List Int) h Z Z Z Z Z Z Z Z Z trivial Z fun _ p42 _ h=>zs 7 h Z fun _ h=>X0 4 Z ?_));obtain rfl:=qb F;replace F:=P;obtain rfl:=qb F;exact qX qa (ρ:=(qq×(List Int)×Int×Int)) [GoT.v qq [.slice U 0 0,.slice U 0 0,.slice U 0 0],GoT.v (List Int) [.slice p42 0 0],GoT.v Int [.int .i64 0],GoT.v Int [.int .i64 3]] h ⟨⟨_,_,_,rfl,rfl,h.box 7 Z,rfl⟩,rfl,rfl,rfl,trivial⟩ (PV.done h (qP h (qe4 (⟨[],[],[]⟩:qq) h qeF qeF qeF (by rfl) (by rfl)) (qP h (qak 0 h Z) (qP h (qy (S:=fun _=>False) Z) (qad (qy (S:=fun _=>False) Z)) (by rfl)) (by rfl)) (by rfl)))
 refine X2 9 8 0 h Z (zcL h F (qpW (h.old b) ⟨[.slice x a.Aj.length v],[.slice k a.Ac.length f,.slice i a.Aq.length d],rfl,(h.own 3 Z),⟨[.slice k a.Ac.length f],[.slice i a.Aq.length d],rfl,(h.own 2 Z),(h.own 1 Z)⟩⟩ ⟨_,_,rfl,(h.oldS s8)⟩) Z fun _ _ _ _ _ h F=>zcL h F (qqA (h.own 5 Z) (h.own 0 Z)) Z fun _ _ _ _ _ h F=>X0 11 Z (qi Z F ?_ ?_))<;>intro F
 ·refine X1 5 2 h Z (zs 8 h Z fun _ h=>X0 4 Z ?_);obtain rfl:=qb F;replace F:=P;obtain rfl:=qb F;exact qX qa (ρ:=(qq×(List Int)×Int×Int)) [GoT.v qq (qI a x k i v f d),GoT.v (List Int) [.slice g L.length c],GoT.v Int [.int .i64 i1],GoT.v Int [.int .i64 0]] h ⟨⟨_,_,_,rfl,rfl,h.box 8 Z,rfl⟩,rfl,rfl,rfl,trivial⟩ (PV.done h (qP h (qe4 (⟨a.Aj,a.Ac,a.Aq⟩:qq) h (qak 5 h Z) (qak 4 h Z) (qak 3 h Z) (by rfl) (by rfl)) (qP h (qak 6 h Z) (qP h (qy (S:=fun _=>False) Z) (qad (qy (S:=fun _=>False) Z)) (by rfl)) (by rfl)) (by rfl)))
 refine X0 11 Z ?_;replace h:=h.pick [0,7,8,9,10] Z;exact rK ⟨_,_,_,_,_,_,F,rfl,h⟩ Z
def qfl (_:Nat)(list:(List qh)):Option Int:=
 V (list.length:Int)
theorem qkY {list:(List qh)}(a:Ro w list cs1){r:Int}(F:qfl n list=V r):RetV prog 153 [GoT.v (List qh) cs1] w r:=by
 obtain⟨_,_,rfl,_⟩:=a;exact zV 5 func153 Z fun h=>X0 10 Z (ri h F Z)
def qkz (n:Nat)(list:(List qh))(used:(List Int)):Option Bool:=
 (qfl n list).bind fun a=>
 (qbY n used 0 (W64 (a-1))).bind fun b=>
 bif b then
  (qd1 n used).bind fun c=>
  V c
 else
  V false
theorem qsF {list:(List qh)}{used:(List Int)}(a:Ro w list cs1)(b:Ro w used cs2){r:Bool}(F:qkz n list used=V r):RetV prog 96 [GoT.v (List qh) cs1,GoT.v (List Int) cs2] w r:=by
 obtain⟨_,_,rfl,c⟩:=a;obtain⟨_,_,rfl,s2⟩:=b;refine zV 14 func96 Z fun h=>X0 8 Z (zcI h F (qkY ⟨_,_,rfl,(h.oldS c)⟩) Z fun _ _ h F=>zp1 Z (zcB h F (qcl ⟨_,_,rfl,(h.oldS s2)⟩) Z fun _ _ h F=>zp1 Z (qj (t:=10) F Z ?_ ?_)))<;>intro F
 ·exact X0 3 Z (zcB h F (qhP ⟨_,_,rfl,(h.oldS s2)⟩) Z fun _ _ h F=>X0 3 Z (rb h F Z))
 exact X0 5 Z (rb h F Z)
def qi4 (n:Nat)(b:qe)(c:qz)(broken:(List Int))(sources:(List qf))(list:(List qh))(used:(List Int)):Option ((Option Tgraph)×(List Int)×Int):=
 (
  (qgC n b).bind fun g=>
  bif g then
   (qfY n c).bind fun h=>
   bif h then
    (qcK n b list).bind fun i=>
    bif (!i) then V true else
    (qkz n list used).bind fun k=>
    V (!k)
   else
    V false
  else
   V false).bind fun b1=>
 bif b1 then V (U,[],2) else
 (qgt n b c broken sources U).bind fun o=>match o with
  | (a,d,f)=>
   V (a,d,f)
theorem qnK {n:Nat}{w:World}{b:qe}{c:qz}{broken:(List Int)}{sources:(List qf)}{list:(List qh)}{used:(List Int)}{cs1:List Value}(p:Ro w b cs1){cs2:List Value}(R:Ro w c cs2){cs3:List Value}(ha3:Ro w broken cs3){cs4:List Value}(ha4:Ro w sources cs4){cs5:List Value}(ha5:Ro w list cs5){cs6:List Value}(ha6:Ro w used cs6){r:((Option Tgraph)×(List Int)×Int)}(F:qi4 n b c broken sources list used=V r):RetZ prog 43 [GoT.v qe cs1,GoT.v qz cs2,GoT.v (List Int) cs3,GoT.v (List qf) cs4,GoT.v (List qh) cs5,GoT.v (List Int) cs6] w (fun us L=>(∃(c4:Int),r=(U,[],c4)∧us=[GoT.v (Option Tgraph) [.pointer U],GoT.v (List Int) [.slice U 0 0],GoT.v Int [.int .i64 c4]]∧L=[])∨(∃(uS1:Nat→Prop) (c6:Option Addr) (A:Nat) (c5:Nat) (c8:List Int) (s:Nat) (uS7:Nat→Prop) (c7:Option Addr) (B:Nat) (u:Nat) (J:List Bool) (c0:Nat→Prop) (C:Option Addr) (d:Nat) (v:Nat) (K:List (List Int)) (c1:Nat→Prop) (D:Option Addr) (f:Nat) (x:Nat) (M:List Int) (c2:Nat→Prop) (H:Option Addr) (g:Nat) (y:Nat) (N:List qv) (a:Nat) (c3:Nat→Prop) (I:Option Addr) (i:Nat) (z:Nat) (O:List Tplace),r=((V (⟨(V (⟨b,O,N,M,K,[]⟩:Tview)),J⟩:Tgraph)),c8,0)∧us=[GoT.v (Option Tgraph) [.pointer (V ⟨s,0,U⟩)],GoT.v (List Int) [.slice c6 A c5],GoT.v Int [.int .i64 0]]∧L=[Ch.own uS1 (c8:List Int) [.slice c6 A c5],Ch.box s [.pointer (V ⟨a,0,U⟩),.slice c7 B u] 110,Ch.own uS7 (J:List Bool) [.slice c7 B u],Ch.own c0 (K:List (List Int)) [.slice C d v],Ch.own c1 (M:List Int) [.slice D f x],Ch.own c2 (N:List qv) [.slice H g y],Ch.box a (cs1++[.slice I i z,.slice H g y,.slice D f x,.slice C d v,.slice U 0 0]) 115,Ch.own c3 (O:List Tplace) [.slice I i z]])):=by
 obtain⟨p1,k1,p2,k2,p3,k3,p4,k4,p5,k5,rfl,_,_,_,_,_⟩:=qE p;obtain rfl:=qag R;obtain⟨p6,k6,rfl,s6⟩:=ha3;obtain⟨p7,k7,rfl,s7⟩:=ha4;obtain⟨_,_,rfl,s8⟩:=ha5;obtain⟨_,_,rfl,s9⟩:=ha6;refine qmI func43 Z (m:=41) Z Z (fun h=>?_);refine zSR (qw h Z Z fun _ k h=>qw h Z Z fun _ l h=>X0 6 Z ?_);obtain⟨KF1,b3,_,F,o⟩:=bindE F;refine qaT (fun e w'=>∃(b1:Bool),KF1 b1=V r∧e=[(2,.slice p6 broken.length k6),(3,.slice p7 sources.length k7),(6,.pointer (V ⟨k,0,U⟩)),(7,.pointer (V ⟨l,0,U⟩)),(32,.bool b1)]∧SH w w' [Ch.box l (qam c) 59,Ch.box k (qJ b p1 p2 p3 p4 p5 k1 k2 k3 k4 k5) 57]) ?_ ?_
 ·refine X1 2 1 h Z (zcB h F (qnW (h.old p)) Z fun _ _ h F=>zp1 Z (qj (t:=17) F Z ?_ ?_))<;>intro F
  ·refine X1 3 0 h Z (zcB h F (qne (h.old R)) Z fun _ _ h F=>zp2 Z (qj (t:=21) F Z ?_ ?_))<;>intro F
   ·refine X1 5 1 h Z (zcB h F (qlT (h.old p) ⟨_,_,rfl,(h.oldS s8)⟩) Z fun _ _ h F=>X0 4 Z (qj (t:=26) F Z ?_ ?_))<;>intro F
    ·refine X0 8 Z ?_;obtain rfl:=qb F;exact rG ⟨_,o,rfl,h⟩ Z
    refine X0 5 Z (zcB h F (qsF ⟨_,_,rfl,(h.oldS s8)⟩ ⟨_,_,rfl,(h.oldS s9)⟩) Z fun _ _ h F=>X0 6 Z ?_);obtain rfl:=qb F;exact rG ⟨_,o,rfl,h⟩ Z
   refine X0 12 Z ?_;obtain rfl:=qb F;exact rG ⟨_,o,rfl,h⟩ Z
  refine X0 16 Z ?_;obtain rfl:=qb F;exact rG ⟨_,o,rfl,h⟩ Z
 rintro _ _ ⟨b1,F,rfl,h⟩;subst b3;refine qi Z F ?_ ?_<;>intro F
 ·refine X0 6 Z ?_;obtain rfl:=qb F;replace h:=h.pick [] Z;exact qmT qa [GoT.v (Option Tgraph) [.pointer U],GoT.v (List Int) [.slice U 0 0],GoT.v Int [.int .i64 2]] h ⟨rfl,rfl,rfl,trivial⟩ (.inl ⟨2,rfl,rfl,rfl⟩)
 refine X2 7 1 0 h Z ?_;obtain⟨_,hr1,F⟩:=qd F;refine qrZ (cB 97 Z) (qoK (h.old p) (h.old R) ⟨_,_,rfl,(h.oldS s6)⟩ ⟨_,_,rfl,(h.oldS s7)⟩ Z hr1) Z Z Z Z ?_;rintro _ _ _ b4 (⟨i1,rfl,rfl,rfl⟩|⟨S1,a4,ln1,S,x1,P,S2,a5,b5,T,x2,S3,a6,b6,W,x3,S4,a7,b7,X,x4,S5,a8,b8,Y,x5,Q,S6,a9,b9,a3,x6,rfl,rfl,rfl⟩)
 ·replace h:SH _ _ [Ch.box l (qam c) 59,Ch.box k (qJ b p1 p2 p3 p4 p5 k1 k2 k3 k4 k5) 57]:=SH.appendN h b4 (show NoD [] from trivial);refine X0 7 Z ?_;obtain rfl:=qb F;replace h:=h.pick [] Z;exact qmT qa [GoT.v (Option Tgraph) [.pointer U],GoT.v (List Int) [.slice U 0 0],GoT.v Int [.int .i64 i1]] h ⟨rfl,rfl,rfl,trivial⟩ (.inl ⟨i1,rfl,rfl,rfl⟩)
 replace h:SH _ _ [Ch.own S1 (x1:List Int) [.slice a4 ln1 S],Ch.box P [.pointer (V ⟨Q,0,U⟩),.slice a5 b5 T] 110,Ch.own S2 (x2:List Bool) [.slice a5 b5 T],Ch.own S3 (x3:List (List Int)) [.slice a6 b6 W],Ch.own S4 (x4:List Int) [.slice a7 b7 X],Ch.own S5 (x5:List qv) [.slice a8 b8 Y],Ch.box Q [.slice p1 b.Ar.Ap.length k1,.slice p2 b.Aa.Ab.length k2,.slice p3 b.Aa.Ai.length k3,.slice p4 b.Aa.Ah.length k4,.slice p5 b.Af.length k5,.slice a9 b9 a3,.slice a8 b8 Y,.slice a7 b7 X,.slice a6 b6 W,.slice U 0 0] 115,Ch.own S6 (x6:List Tplace) [.slice a9 b9 a3],Ch.box l (qam c) 59,Ch.box k (qJ b p1 p2 p3 p4 p5 k1 k2 k3 k4 k5) 57]:=SH.appendN h b4 ⟨fun _ h=>h,⟨fun _ h=>h,⟨fun _ h=>h,⟨fun _ h=>h,⟨fun _ h=>h,⟨fun _ h=>h,⟨fun _ h=>h,⟨fun _ h=>h,trivial⟩⟩⟩⟩⟩⟩⟩⟩;obtain rfl:=(h.sl 0 Z).2;obtain rfl:=(h.sl 2 Z).2;obtain rfl:=(h.sl 3 Z).2;obtain rfl:=(h.sl 4 Z).2;obtain rfl:=(h.sl 5 Z).2;obtain rfl:=(h.sl 7 Z).2;refine X0 7 Z ?_;obtain rfl:=qb F;replace h:=h.pick [0,1,2,3,4,5,6,7] Z;exact qmT qa [GoT.v (Option Tgraph) [.pointer (V ⟨P,0,U⟩)],GoT.v (List Int) [.slice a4 x1.length S],GoT.v Int [.int .i64 0]] h ⟨rfl,rfl,rfl,trivial⟩ (.inr ⟨S1,a4,x1.length,S,x1,P,S2,a5,x2.length,T,x2,S3,a6,x3.length,W,x3,S4,a7,x4.length,X,x4,S5,a8,x5.length,Y,x5,Q,S6,a9,x6.length,a3,x6,rfl,rfl,rfl⟩)
def qcc (list:(List qh))(used:(List Int)):Nat→(List Int)→Int→Option ((List Int)×Int)
 | 0,_,_=>U
 | n+1,a,c=>
  bif decide (c<(used.length:Int)) then
   (idx used c).bind fun d=>
   (idx list d).bind fun b=>
   (idx a b.A).bind fun f=>
   (idx list d).bind fun g=>
   (idx a b.A).bind fun _=>
   (idx list d).bind fun h=>
   (idx (setS a b.A (W64 (f+g.Bp))) h.B).bind fun i=>
   (idx list d).bind fun k=>
   (idx (setS a b.A (W64 (f+g.Bp))) h.B).bind fun _=>
   qcc list used n (setS (setS a b.A (W64 (f+g.Bp))) h.B (W64 (i+k.Bp))) (W64 (c+1))
  else
   V (a,c)
def qde (n:Nat)(b:qe)(list:(List qh))(used:(List Int)):Option (List Int):=
 (mkS (b.Af.length:Int) (0:Int)).bind fun a=>
 (qcc list used n a 0).bind fun o=>match o with
 | (c,_)=>
  V c
theorem qnL {b:qe}{list:(List qh)}{used:(List Int)}(A:Ro w b cs1)(B:Ro w list cs2)(C:Ro w used cs3){r:(List Int)}(F:qde n b list used=V r):RetV prog 44 [GoT.v qe cs1,GoT.v (List qh) cs2,GoT.v (List Int) cs3] w r:=by
 obtain⟨_,_,_,_,_,_,_,_,_,_,rfl,_,_,_,_,_⟩:=qE A;obtain⟨p6,k6,rfl,x⟩:=B;obtain⟨p7,k7,rfl,s7⟩:=C;refine zV 52 func44 Z fun h=>zSR (qw h Z Z fun w1 _ h=>X1 7 0 h Z ?_);obtain⟨y,a,F⟩:=qd F;obtain⟨g1,g2,a⟩:=qR a;refine qas qa Int h Z Z Z Z Z Z Z Z Z g1 g2 a Z fun _ S1 p8 h=>X0 9 Z ?_;obtain⟨o1,F,z⟩:=qd F;refine qn ?_;replace h:=h.pick [0] Z;refine rL (fun m e w'=>∃(x2:(List Int)) (i1:Int),qcc list used m x2 i1=V o1∧e=[(1,.slice p6 list.length k6),(7,.slice p8 y.length y.length),(14,.slice p7 used.length k7),(15,.int .i64 (used.length:Int)),(16,.int .i64 i1)]∧SH w w' [Ch.own S1 (x2:List Int) [.slice p8 y.length y.length]]) n ⟨_,_,F,rfl,h⟩ Z ?_;rintro m1 _ _ ⟨x2,i1,F,rfl,h⟩;rcases m1 with _|m1
 ·cases F
 refine X0 5 Z (qi Z F ?_ ?_)<;>intro F
 ·refine zKSBSR ?_;obtain⟨_,_,F,M,_,_,_,_,R,Y,rfl,D⟩:=s7.ix F;refine zxe R Y M Z (zc 0 (D.below h.below) Z (X0 3 Z (rA [15] [0] h Z fun _ h=>M0 7 [0,1,2] (h.pick [0] Z) Z ?_)));obtain⟨_,_,F,N,_,_,_,_,S,a3,a7,H⟩:=x.ix F;obtain rfl:=qV a7;refine Ae 3 15 S a3 N (h.pick [0] Z) Z (M0 31 [4] (h.pick [0] Z) Z (Al 5 63 0 H (h.pick [0] Z) Z ?_));obtain⟨y3,b4,F,d,_,_,_,_,k,s,rfl,_⟩:=(h.sl 0 Z).1.ix F;refine Ax 6 127 k s ⟨d.1,qD d.2.1 (h.sl 0 Z).2⟩ (h.pick [0] Z) Z (Aw 7 255 (fun w' hw=>qia qa (qbH (w1:=w) (S1:=fun _=>False) hw 0 Z b4 k s Z) (j:=0) Z Z Z) (h.pick [0] Z) Z ?_);refine M0 1023 [8,9] (h.pick [0] Z) Z ?_;obtain⟨y4,_,F,O,_,_,_,_,T,a4,a8,I⟩:=x.ix F;obtain rfl:=qV a8;refine Ae 10 2047 T a4 O (h.pick [0] Z) Z (M0 4095 [11] (h.pick [0] Z) Z (Al 12 8191 2 I (h.pick [0] Z) Z (M0 16383 [13] (h.pick [0] Z) Z ?_)));obtain⟨_,b5,F,f,_,_,_,_,l,t,rfl,J⟩:=(h.sl 0 Z).1.ix F;refine Ax 14 32767 l t ⟨f.1,qD f.2.1 (h.sl 0 Z).2⟩ (h.pick [0] Z) Z (Ao 15 65535 Z (qao qa 0 0 (W64 (y3+y4.Bp)) h Z b5 l t Z J Z Z Z Z Z Z Z fun _ h=>qbz (fun hs=>absurd (hs 15 (by decide)) (by decide)) (Ad (rA [15] [0] h Z fun _ h=>M0 7 [0,1,2] (h.pick [0] Z) Z ?_))));obtain⟨_,_,F,P,_,_,_,_,W,a5,a9,K⟩:=x.ix F;obtain rfl:=qV a9;refine Ae 3 15 W a5 P (h.pick [0] Z) Z (M0 31 [4] (h.pick [0] Z) Z (Al 5 63 1 K (h.pick [0] Z) Z ?_));obtain⟨y7,b6,F,g,_,_,_,_,o,u,rfl,_⟩:=(h.sl 0 Z).1.ix F;refine Ax 6 127 o u ⟨g.1,qD g.2.1 (h.sl 0 Z).2⟩ (h.pick [0] Z) Z (Aw 7 255 (fun w' hw=>qia qa (qbH (w1:=w) (S1:=fun _=>False) hw 0 Z b6 o u Z) (j:=0) Z Z Z) (h.pick [0] Z) Z ?_);refine M0 1023 [8,9] (h.pick [0] Z) Z ?_;obtain⟨y8,_,F,Q,_,_,_,_,X,a6,b3,L⟩:=x.ix F;obtain rfl:=qV b3;refine Ae 10 2047 X a6 Q (h.pick [0] Z) Z (M0 4095 [11] (h.pick [0] Z) Z (Al 12 8191 2 L (h.pick [0] Z) Z (M0 16383 [13] (h.pick [0] Z) Z ?_)));obtain⟨_,b7,F,i,_,_,_,_,p,v,rfl,c⟩:=(h.sl 0 Z).1.ix F;exact Ax 14 32767 p v ⟨i.1,qD i.2.1 (h.sl 0 Z).2⟩ (h.pick [0] Z) Z (Ao 15 65535 Z (qao qa 0 0 (W64 (y7+y8.Bp)) h Z b7 p v Z c Z Z Z Z Z Z Z fun _ h=>qbz (fun hs=>absurd (hs 15 (by decide)) (by decide)) (Ad (X0 5 Z (rK ⟨_,_,F,rfl,h⟩ Z)))))
 refine qr Z ?_;obtain rfl:=qb F;replace F:=z;refine X0 5 Z ?_;obtain rfl:=qb F;exact rO 0 h Z ⟨rfl,trivial⟩
def qfg (_:Nat)(a_n:Int):Option (List Int):=
 (
  bif decide (a_n<0) then U else
  V ()).bind fun _=>
 bif decide ((W64 (a_n-(W64 (0-((0:Nat):Int))))) > 0) then
  (mkS (W64 (a_n-(W64 (0-((0:Nat):Int))))) (0:Int)).bind fun a=>
  (subS a 0 ((0:Nat):Int)).bind fun b=>
  V b
 else
  V []
theorem qmM {a_n:Int}  {r:(List Int)}(F:qfg n a_n=V r):RetV prog 101 [.slice U 0 0,.int .i64 a_n] w r:=by
 refine zV 27 func101 Z fun h=>X0 10 Z ?_;obtain⟨g,b,_,F,i⟩:=bindE F;refine qaT (fun e w'=>g ()=V r∧e=[(0,.slice U 0 0),(1,.int .i64 a_n)]∧SH w w' []) ?_ ?_
 ·refine qi Z F ?_ ?_<;>intro F
  ·refine qkH ?_;cases F
  refine qhD ?_;obtain rfl:=qb F;exact rG ⟨i,rfl,h⟩ Z
 rintro _ _ ⟨F,rfl,h⟩;subst b;refine X0 5 Z (r_v (qAB qa Z Z Z) Z (X0 11 Z (qi Z F ?_ ?_)))<;>intro F
 ·refine X0 3 Z (r_v (qAB qa Z Z Z) Z (r_v (qpS qa Z Z Z (by decide) Z Z Z Z Z Z Z) Z (zp1 Z ?_)));obtain⟨_,a,F⟩:=qd F;obtain⟨l,m,a⟩:=qR a;refine qAK qa Int h Z Z Z Z Z Z Z Z Z Z Z l m a Z fun _ _ _ _ h=>zp2 Z ?_;obtain⟨_,f,F⟩:=qd F;obtain⟨_,_,d,c,k,o⟩:=qv9 (h.sl 0 Z).1 f;refine r_v (qpS qa Z Z Z (qwL o (h.sl 0 Z).2) d c k Z Z Z Z) Z ?_;replace h:=h.cutS 0 Z f d c;refine X0 7 Z ?_;obtain rfl:=qb F;exact rO 0 h Z ⟨rfl,trivial⟩
 refine X0 6 Z ?_;obtain rfl:=qb F;exact qX qa (ρ:=(List Int)) [GoT.v (List Int) [.slice U 0 0]] h ⟨rfl,trivial⟩ (PV.done h (qad qeF))
def qcZ (slices:(List (List Int))):Nat→(List Int)→Int→Option ((List Int)×Int)
 | 0,_,_=>U
 | n+1,b,a=>
  bif decide (a<(slices.length:Int)) then
   (idx slices a).bind fun d=>
   (appS b d).bind fun c=>
   qcZ slices n c (W64 (a+1))
  else
   V (b,a)
def qc8 (slices:(List (List Int))):Nat→Int→Int→Option (Int×Int)
 | 0,_,_=>U
 | n+1,b,a=>
  bif decide (a<(slices.length:Int)) then
   (idx slices a).bind fun c=>
   bif decide ((W64 (b+(c.length:Int)))<0) then U else
   qc8 slices n (W64 (b+(c.length:Int))) (W64 (a+1))
  else
   V (b,a)
def qf3 (n:Nat)(slices:(List (List Int))):Option (List Int):=
 (qc8 slices n 0 0).bind fun o=>match o with
 | (a,_)=>
  (qfg n a).bind fun b=>
  (qcZ slices n b 0).bind fun o=>match o with
  | (c,_)=>
   V c
theorem qnP {slices:(List (List Int))}(f:Ro w slices cs1){r:(List Int)}(F:qf3 n slices=V r):RetV prog 46 [GoT.v (List (List Int)) cs1] w r:=by
 obtain⟨C,A,rfl,K⟩:=f;refine zV 36 func46 Z fun h=>X0 15 Z ?_;obtain⟨M,F,c⟩:=qd F;refine qn (rL (fun m e w'=>∃(x:Int) (y:Int),qc8 slices m x y=V M∧e=[(0,.slice C slices.length A),(3,.int .i64 x),(9,.slice C slices.length A),(10,.int .i64 (slices.length:Int)),(11,.int .i64 y)]∧SH w w' []) n ⟨_,_,F,rfl,h⟩ Z ?_);rintro I _ _ ⟨x,y,F,rfl,h⟩;rcases I with _|I
 ·cases F
 refine X0 5 Z (qi Z F ?_ ?_)<;>intro F
 ·refine zKSBSR ?_;obtain⟨_,_,F,k,_,_,_,_,o,s,u,g⟩:=K.ix F;obtain⟨_,_,rfl,_⟩:=u;refine zxe o s k Z (zc 0 (g.below h.below) Z (X0 15 Z (qi Z F ?_ ?_)))<;>intro F
  ·refine qkH ?_;cases F
  exact X0 6 Z (rK ⟨_,_,F,rfl,h⟩ Z)
 refine qr Z ?_;obtain rfl:=qb F;replace F:=c;refine X0 3 Z (zcL h F qmM Z fun _ _ _ _ _ h F=>X0 9 Z ?_);obtain⟨N,F,d⟩:=qd F;refine qn (rL (fun m e w'=>∃(S2:Nat→Prop) (D:Option Addr) (b:Nat) (B:Nat) (H:(List Int)) (z:Int),qcZ slices m H z=V N∧e=[(6,.slice D b B),(25,.slice C slices.length A),(26,.int .i64 (slices.length:Int)),(27,.int .i64 z)]∧SH w w' [Ch.own S2 (H:List Int) [.slice D b B]]) n ⟨_,_,_,_,_,_,F,rfl,h⟩ Z ?_);rintro J _ _ ⟨S2,D,b,B,H,z,F,rfl,h⟩;obtain rfl:=(h.sl 0 Z).2;rcases J with _|J
 ·cases F
 refine X0 5 Z (qi Z F ?_ ?_)<;>intro F
 ·refine zKSBSR ?_;obtain⟨_,_,F,l,_,_,_,_,p,t,v,i⟩:=K.ix F;obtain⟨_,_,rfl,O⟩:=v;refine zxe p t l Z (zc 0 (i.below h.below) Z (X0 5 Z ?_));obtain⟨_,a,F⟩:=qd F;obtain⟨L,a⟩:=qaD a;exact qcs qa 0 h Z (h.oldS O) Z Z Z Z Z Z Z Z Z Z L a Z fun _ _ _ _ h=>X0 7 Z (rK ⟨_,_,_,_,_,_,F,rfl,h⟩ Z)
 refine qr Z ?_;obtain rfl:=qb F;replace F:=d;refine X0 5 Z ?_;obtain rfl:=qb F;exact rO 0 h Z ⟨rfl,trivial⟩
def qhG (t:qq)(nodes:(List Int)):Nat→Bool→Int→Int→Int→Int→Int→Int→Option (Bool×Int×Int×Int×Int×Int×Int)
 | 0,_,_,_,_,_,_,_=>U
 | n+1,b1,c,d,f,g,h,a=>
  bif decide (a<(nodes.length:Int)) then
   (idx nodes a).bind fun i=>
   (idx t.Aj i).bind fun l=>
   bif l then
    (idx t.Ac i).bind fun m=>
    (qdC n (⟨c,(⟨d,f⟩:qc),(⟨g,h⟩:qc)⟩:qf) b1 m (⟨0,0⟩:qc)).bind fun o=>match o with
     | (b,k)=>
      qhG t nodes n k b.Bm b.Ac.Am b.Ac.Au b.Aq.Am b.Aq.Au (W64 (a+1))
   else
    qhG t nodes n b1 c d f g h (W64 (a+1))
  else
   V (b1,c,d,f,g,h,a)
def qmr (n:Nat)(t:qq)(nodes:(List Int)):Option (qc×Bool):=
 (qhG t nodes n false 0 0 0 0 0 0).bind fun o=>match o with
 | (b1,_,a,b,_,_,_)=>
  V ((⟨a,b⟩:qc),b1)
theorem qsy {t:qq}{nodes:(List Int)}(k:Ro w t cs1)(l:Ro w nodes cs2){r:(qc×Bool)}(F:qmr n t nodes=V r):RetV prog 170 [GoT.v qq cs1,GoT.v (List Int) cs2] w r:=by
 obtain⟨R,N,T,O,W,P,rfl,s1,s2,_⟩:=qM k;obtain⟨p4,X,rfl,s4⟩:=l;refine zV 32 func170 Z fun h=>zSR (qw h Z Z fun _ a h=>qp qa h Z Z Z fun _ b h=>X0 4 Z (qp qa h Z Z Z fun _ c h=>zNSR (qp qa h Z Z Z fun _ d h=>zs 0 h Z fun _ h=>X0 8 Z ?_)));obtain⟨Y,F,i⟩:=qd F;refine qn (rL (fun m e w'=>∃(b1:Bool) (J:Int) (f:Int) (g:Int) (K:Int) (L:Int) (M:Int),qhG t nodes m b1 J f g K L M=V Y∧e=[(2,.pointer (V ⟨a,0,U⟩)),(4,.pointer (V ⟨b,0,U⟩)),(6,.pointer (V ⟨c,0,U⟩)),(7,.pointer (V ⟨d,0,U⟩)),(10,.slice p4 nodes.length X),(11,.int .i64 (nodes.length:Int)),(12,.int .i64 M)]∧SH w w' [Ch.box d [.bool b1] 4,Ch.box c [.int .i64 J,.int .i64 f,.int .i64 g,.int .i64 K,.int .i64 L] 95,Ch.box b [.int .i64 0,.int .i64 0] 93,Ch.box a (qI t R T W N O P) 45]) n ⟨_,_,_,_,_,_,_,F,rfl,h⟩ Z ?_);rintro Q _ _ ⟨b1,J,f,g,K,L,M,F,rfl,h⟩;rcases Q with _|Q
 ·cases F
 refine X0 5 Z (qi Z F ?_ ?_)<;>intro F
 ·refine zKSBSR ?_;obtain⟨_,_,F,u,_,_,_,_,y,B,rfl,o⟩:=s4.ix F;refine zxe y B u Z (zc 0 (o.below h.below) Z (X1 7 3 h Z ?_));obtain⟨_,_,F,v,_,_,_,_,z,C,rfl,p⟩:=s1.ix F;refine zxe z C v Z (zc 0 (p.below h.below) Z (qcU (qi Z F ?_ ?_)))<;>intro F
  ·refine X1 4 3 h Z ?_;obtain⟨_,_,F,x,_,_,_,_,A,D,H,s⟩:=s2.ix F;obtain rfl:=qu H;refine zxe A D x Z (zc 0 (s.below h.below) Z (r_v (qaf qa [] [] Z Z Z Z Z Z Z Z) Z ?_));obtain⟨o2,I,F⟩:=qd F;obtain⟨x1,x2⟩:=o2;refine qr2 (cB 163 Z) (qhY h I) Z Z Z Z fun _ h=>?_;replace h:SH _ _ [Ch.box d [.bool x2] 4,Ch.box c (qf5 x1) 95,Ch.box b [.int .i64 0,.int .i64 0] 93,Ch.box a (qI t R T W N O P) 45]:=h;exact X0 6 Z (rK ⟨_,_,_,_,_,_,_,F,rfl,h⟩ Z)
  exact X0 6 Z (rK ⟨_,_,_,_,_,_,_,F,rfl,h⟩ Z)
 refine qr Z ?_;obtain rfl:=qb F;replace F:=i;refine qcx (rA [] [0,1] h Z fun _ h=>M2 7 [0,1,2] 1 0 (h.pick [0,1] Z) Z (Ao 3 15 Z (zs 2 h Z fun _ h=>G0 31 [4] (h.pick [0,1] Z) Z (Ad ?_))));obtain rfl:=qb F;exact qX qa (ρ:=(qc×Bool)) [GoT.v qc [.int .i64 f,.int .i64 g],GoT.v Bool [.bool b1]] h ⟨⟨_,_,_,rfl,rfl,h.box 2 Z,rfl⟩,rfl,trivial⟩ (PV.done h (qP h (qy (S:=fun _=>False) (qB (⟨f,g⟩:qc))) (qad (qy (S:=fun _=>False) Z)) (by rfl)))
def qgB (_:Nat)(p:Tplace)(a:Int):Option Bool:=
 bif (p.net==a) then V p.drives else
 V false
theorem qn8 {p:Tplace}{g:Int}(a:Ro w p cs1){f:Option Addr}(b:Ro w (V g) [.pointer f]){r:Bool}(F:qgB n p g=V r):RetV prog 169 [GoT.v Tplace cs1,.pointer f] w r:=by
 obtain rfl:=qfL a;obtain⟨_,i,_,rfl,-,d,c⟩:=PtR.get b Z;obtain rfl:=d;refine zV 12 func169 Z fun h=>zSR (qw h Z Z fun _ _ h=>X1 6 0 h Z (zc 0 (c.below h.below) Z (zp2 Z (qj (t:=8) F Z ?_ ?_))))<;>intro F
 ·exact X1 7 0 h Z (rb h F Z)
 exact X0 5 Z (rb h F Z)
def qT (s:(List Tplace))(a:Int):Nat→Int→Option (Flow Int Int)
 | 0,_=>U
 | n+1,b=>
  bif decide (b<(s.length:Int)) then
   (idx s b).bind fun d=>
   (qgB n d a).bind fun c=>
   bif c then V (.ret b) else
   qT s a n (W64 (b+1))
  else
   V (.nxt b)
def qau (n:Nat)(s:(List Tplace))(a:Int):Option Int:=
 (qT s a n 0).bind fun o=>match o with
 | .ret r=>V r
 | .nxt _=>
  V (-1)
theorem qfk {s:(List Tplace)}{a:Int}(d:Ro w s cs1){v:Option Addr}(c:Ro w (V a) [.pointer v]){r:Int}(F:qau n s a=V r):RetV prog 168 [GoT.v (List Tplace) cs1,.func (.func 169) #[] #[.pointer v]] w r:=by
 obtain⟨z,x,rfl,A⟩:=d;obtain⟨b1,t,_,rfl,-,l,_⟩:=PtR.get c Z;obtain rfl:=l;refine zV 19 func168 Z fun h=>X0 11 Z ?_;obtain⟨y,F,b⟩:=qd F;refine qn (rL (fun m e w'=>∃(p:Int),qT s a m p=V y∧e=[(0,.slice z s.length x),(1,.func (.func 169) #[] #[.pointer (V ⟨b1,t,U⟩)]),(7,.int .i64 (s.length:Int)),(8,.int .i64 p)]∧SH w w' []) n ⟨_,F,rfl,h⟩ Z ?_);rintro u _ _ ⟨p,F,rfl,h⟩;rcases u with _|u
 ·cases F
 refine X0 5 Z (qi Z F ?_ ?_)<;>intro F
 ·refine X0 13 Z ?_;obtain⟨B,_,F,g,_,_,_,_,i,k,o,f⟩:=A.ix F;obtain rfl:=qfL o;refine zxe i k g Z (zc 0 (f.below h.below) Z (zcB h F (qn8 (qlC B) (h.old c)) Z fun _ _ h F=>qcU (qi Z F ?_ ?_)))<;>intro F
  ·refine X0 5 Z ?_;obtain rfl:=qb F;replace F:=b;exact ri h F Z
  exact X0 6 Z (rK ⟨_,F,rfl,h⟩ Z)
 refine qr Z ?_;obtain rfl:=qb F;replace F:=b;exact X0 4 Z (ri h F Z)
end Go.Fw


namespace Go.Fw
open Go Go.Proofs Go.Proofs.Tryz
open Go.RowKit (Below)
set_option maxRecDepth 100000
set_option maxHeartbeats 1600000
variable {n:Nat}{w:World}{cs1 cs2 cs3 cs4 cs5 cs6 cs7 cs8 cs9:List Value}
def qgq (n:Nat)(v:(Option Tview))(t:qq)(net:Int):Option (qc×Bool):=
 (v).bind fun d=>
 (qau n d.places net).bind fun a=>
 (qmr n t ([W64 (2*a),W64 ((W64 (2*a))+1)]:List Int)).bind fun o=>match o with
  | (b,c)=>
   V (b,c)
theorem qk3 {v:(Option Tview)}{t:qq}{net:Int}(c:Ro w v cs1)(a:Ro w t cs2){r:(qc×Bool)}(F:qgq n v t net=V r):RetV prog 102 [GoT.v (Option Tview) cs1,GoT.v qq cs2,.int .i64 net] w r:=by
 obtain⟨_,rfl,A⟩:=qbV c;obtain⟨_,_,_,_,_,_,rfl,_,_,_⟩:=qM a;refine zV 25 func102 Z fun h=>zSR (qw h Z Z fun _ _ h=>qw h Z Z fun _ _ h=>qp qa h Z Z Z fun _ _ h=>X0 5 Z ?_);obtain⟨_,m,F⟩:=qd F;obtain⟨_,y,_,rfl,-,f,d⟩:=PtR.get A m;obtain⟨_,_,_,_,_,_,_,_,_,_,_,_,_,_,_,_,_,_,_,_,rfl,_,_,_,_,_,o,_,_,_,_⟩:=qcB f;refine zp2 Z (zc 5 (d.below h.below) Z (zp1 Z (zcI h F (qfk ⟨_,_,rfl,(h.oldS o)⟩ (qcW (x:=net) 1 h Z Z)) Z fun p _ h F=>X1 10 2 h Z (qG qa [.tmp 17,.tmp 20] _ ([W64 (2*p),W64 ((W64 (2*p))+1)]:List Int) h Z Z Z Z Z Z Z Z Z ⟨rfl,rfl,trivial⟩ Z fun _ _ _ h=>?_))));obtain⟨z,g,F⟩:=qd F;obtain⟨s,u⟩:=z;refine qaF (s,u) h (cB 170 Z) (qsy (h.old a) (h.own 0 Z) g) Z Z Z Z fun _ _ _ l i=>?_;obtain⟨_,_,_,_,rfl,b,k⟩:=l.cons i;obtain rfl:=qu (b.sh.own 0 Z);obtain⟨rfl,h⟩:=b.lastB k;refine zp2 Z (zs 2 h Z fun _ h=>X0 2 Z ?_);obtain rfl:=qb F;exact qX qa (ρ:=(qc×Bool)) [GoT.v qc (qdK s),GoT.v Bool [.bool u]] h ⟨⟨_,_,_,rfl,rfl,h.box 2 Z,rfl⟩,rfl,trivial⟩ (PV.done h (qP h (qak 0 h Z) (qad (qy (S:=fun _=>False) Z)) (by rfl)))
def qi3 (_:Nat)(s:qc)(t:qc):Option Bool:=
 bif decide (s.Am≤t.Au) then V (decide (t.Am≤s.Au)) else
 V false
theorem qn5 {s:qc}{t:qc}(a:Ro w s cs1)(b:Ro w t cs2){r:Bool}(F:qi3 n s t=V r):RetV prog 103 [GoT.v qc cs1,GoT.v qc cs2] w r:=by
 obtain rfl:=qu a;obtain rfl:=qu b;refine zV 17 func103 Z fun h=>zSR (qw h Z Z fun _ _ h=>qw h Z Z fun _ _ h=>X2 10 1 0 h Z (qj (t:=10) F Z ?_ ?_))<;>intro F
 ·exact X2 13 0 1 h Z (rb h F Z)
 exact X0 8 Z (rb h F Z)
def qa9 (v:(Option Tview))(t:qq)(list:(List qh)):Nat→(List Int)→Int→Option ((List Int)×Int)
 | 0,_,_=>U
 | n+1,b,a=>
  bif decide (a<(list.length:Int)) then
   (idx list a).bind fun c=>
   (qgq n v t c.A).bind fun o=>match o with
    | (d,f)=>
     (qgq n v t c.B).bind fun o=>match o with
      | (g,h)=>
       bif f then
        bif h then
         (qi3 n d g).bind fun i=>
         bif i then
          (appS b ([a]:List Int)).bind fun k=>
          qa9 v t list n k (W64 (a+1))
         else
          qa9 v t list n b (W64 (a+1))
        else
         qa9 v t list n b (W64 (a+1))
       else
        qa9 v t list n b (W64 (a+1))
  else
   V (b,a)
def qif (n:Nat)(v:(Option Tview))(t:qq)(list:(List qh)):Option (List Int):=
 (qa9 v t list n ([]:List Int) 0).bind fun o=>match o with
 | (a,_)=>
  V a
theorem qo9 {v:(Option Tview)}{t:qq}{list:(List qh)}(l:Ro w v cs1)(a:Ro w t cs2)(o:Ro w list cs3){r:(List Int)}(F:qif n v t list=V r):RetV prog 47 [GoT.v (Option Tview) cs1,GoT.v qq cs2,GoT.v (List qh) cs3] w r:=by
 obtain⟨X,rfl,O⟩:=qbV l;obtain⟨Y,Q,p3,R,p4,S,rfl,_,_,_⟩:=qM a;obtain⟨p5,T,rfl,s5⟩:=o;refine zV 52 func47 Z fun h=>zSR (qw h Z Z fun _ d h=>X0 13 Z ?_);replace h:=h.nil (α:=Int);obtain⟨W,F,k⟩:=qd F;refine qn (rL (fun m e w'=>∃(S1:Nat→Prop) (L:Option Addr) (c:Nat) (K:Nat) (M:(List Int)) (i:Int),qa9 v t list m M i=V W∧e=[(0,.pointer X),(4,.pointer (V ⟨d,0,U⟩)),(7,.slice L c K),(14,.slice p5 list.length T),(15,.int .i64 (list.length:Int)),(16,.int .i64 i)]∧SH w w' [Ch.own S1 (M:List Int) [.slice L c K],Ch.box d (qI t Y p3 p4 Q R S) 45]) n ⟨_,_,_,_,_,_,F,rfl,h⟩ Z ?_);rintro N _ _ ⟨S1,L,c,K,M,i,F,rfl,h⟩;obtain rfl:=(h.sl 0 Z).2;rcases N with _|N
 ·cases F
 refine X0 5 Z (qi Z F ?_ ?_)<;>intro F
 ·refine X0 6 Z ?_;obtain⟨_,_,F,s,_,_,_,_,u,x,y,p⟩:=s5.ix F;obtain rfl:=qV y;refine zxe u x s Z (zc 0 (p.below h.below) Z (qp qa h Z Z Z fun _ _ h=>zp1 Z (zs 0 h Z fun _ h=>X2 7 2 0 h Z ?_)));obtain⟨r1,z,F⟩:=qd F;obtain⟨r2,r3⟩:=r1;refine qaF (r2,r3) h (cB 102 Z) (qk3 (h.old O) (h.old a) z) Z Z Z Z fun _ _ _ I A=>?_;obtain⟨_,_,_,_,rfl,f,B⟩:=I.cons A;obtain rfl:=qu (f.sh.own 0 Z);obtain⟨rfl,h⟩:=f.lastB B;refine zp3 Z (qp qa h Z Z Z fun _ _ h=>zs 0 h Z fun _ h=>X2 8 4 2 h Z ?_);obtain⟨r4,C,F⟩:=qd F;obtain⟨r5,r6⟩:=r4;refine qaF (r5,r6) h (cB 102 Z) (qk3 (h.old O) (h.old a) C) Z Z Z Z fun _ _ _ J D=>?_;obtain⟨_,_,_,_,rfl,g,H⟩:=J.cons D;obtain rfl:=qu (g.sh.own 0 Z);obtain⟨rfl,h⟩:=g.lastB H;refine zp3 Z (qp qa h Z Z Z fun _ _ h=>zs 0 h Z fun _ h=>X0 6 Z (qj (t:=38) F Z ?_ ?_))<;>intro F
  ·refine X0 4 Z (qj (t:=41) F Z ?_ ?_)<;>intro F
   ·refine X2 5 2 0 h Z (zcB h F (qn5 (h.own 3 Z) (h.own 1 Z)) Z fun _ _ h F=>X0 2 Z (qi Z F ?_ ?_))<;>intro F
    ·refine X0 3 Z (qG qa [.tmp 47] _ ([i]:List Int) h Z Z Z Z Z Z Z Z Z ⟨rfl,trivial⟩ Z fun _ _ _ h=>?_);obtain⟨_,b,F⟩:=qd F;obtain⟨P,b⟩:=qaD b;refine qcs qa 6 h Z (h.sl 0 Z).1 (h.sl 0 Z).2 Z Z Z Z Z Z Z Z Z P b Z fun _ _ _ _ h=>X0 7 Z ?_;replace h:=h.pick [6,7] Z;exact rK ⟨_,_,_,_,_,_,F,rfl,h⟩ Z
    refine X0 6 Z ?_;replace h:=h.pick [5,6] Z;exact rK ⟨_,_,_,_,_,_,F,rfl,h⟩ Z
   refine X0 5 Z (qbL Z Z (X0 6 Z ?_));replace h:=h.pick [5,6] Z;exact rK ⟨_,_,_,_,_,_,F,rfl,h⟩ Z
  refine X0 8 Z (qbL Z Z (X0 6 Z ?_));replace h:=h.pick [5,6] Z;exact rK ⟨_,_,_,_,_,_,F,rfl,h⟩ Z
 refine qr Z ?_;obtain rfl:=qb F;replace F:=k;refine X0 5 Z ?_;obtain rfl:=qb F;exact rO 0 h Z ⟨rfl,trivial⟩
def qjU:Nat→Option Unit
 | 0=>U
 | n+1=>
  U
def qds (a:qe)(c:qz)(d:(List qf))(b:(List qh))(s:(List Int))(t:(List Bool))(i:(List (List Int)))(k:(List Int))(l:(List qv))(m:(List Tplace)):Nat→(List Int)→(List Int)→Int→Option (Flow (qq×(List Int)×Int×Int) ((List Int)×(List Int)×Int))
 | 0,_,_,_=>U
 | n+1,_,g,p=>
  (qde n a b g).bind fun h=>
  (qb3 n (V (⟨(V (⟨(⟨(⟨a.Ar.Ap⟩:qt),(⟨a.Aa.Ab,a.Aa.Ai,a.Aa.Ah⟩:qg),a.Af⟩:qe),m,l,k,i,h⟩:Tview)),t⟩:Tgraph)) c d s).bind fun o=>match o with
   | (r,u)=>
    bif (!u) then V (.ret ((⟨[],[],[]⟩:qq),[],0,3)) else
    (qif n (V (⟨(⟨(⟨a.Ar.Ap⟩:qt),(⟨a.Aa.Ab,a.Aa.Ai,a.Aa.Ah⟩:qg),a.Af⟩:qe),m,l,k,i,h⟩:Tview)) r b).bind fun v=>
    (qf3 n ([g,v]:List (List Int))).bind fun x=>
    (sortS x).bind fun y=>
    (compS y).bind fun f=>
    bif ((f.length:Int)==(g.length:Int)) then V (.ret (r,g,p,0)) else
    qds a c d b s t i k l m n h f (W64 (p+1))
def qdH (n:Nat)(a:qe)(b:qz)(f:(List Int))(c:(List qf))(d:(List qh)):Option (qq×(List Int)×Int×Int):=
 (qi4 n a b f c d []).bind fun o=>match o with
  | (U,_,g)=>
   (bif (g != 0) then
    V ((⟨[],[],[]⟩:qq),[],0,g)
   else
    (qjU n).bind fun _=>
    U)
  | (V (⟨V (⟨_,p,m,l,k,_⟩),i⟩),h,_)=>
   ((qds a b c d h i k l m p n ([]:List Int) ([]:List Int) 1).bind fun o=>match o with
   | .ret r=>V r
   | .nxt _=>U)
  | _=>U
theorem qaN {a:qe}{A:qz}{a_2:(List Int)}{O:(List qf)}{P:(List qh)}(ha1:Ro w a cs1)(ha2:Ro w A cs2)(ha3:Ro w a_2 cs3)(ha4:Ro w O cs4)(ha5:Ro w P cs5){r:(qq×(List Int)×Int×Int)}(F:qdH n a A a_2 O P=V r):RetV prog 15 [GoT.v qe cs1,GoT.v qz cs2,GoT.v (List Int) cs3,GoT.v (List qf) cs4,GoT.v (List qh) cs5] w r:=by
 obtain⟨p1,Y,C,B,v,t,y,u,M,L,rfl,s1,s2,s3,s4,s5⟩:=qE ha1;obtain rfl:=qag ha2;obtain⟨_,_,rfl,s6⟩:=ha3;obtain⟨p7,k7,rfl,s7⟩:=ha4;obtain⟨p8,k8,rfl,s8⟩:=ha5;refine zV 82 func15 Z fun h=>zSR (qw h Z Z fun _ H h=>qw h Z Z fun _ I h=>qp qa h Z Z Z fun _ J h=>X2 11 2 1 h Z ?_);obtain⟨_,hr1,F⟩:=qd F;refine qrZ (cB 43 Z) (qnK (h.old ha1) (h.old ha2) ⟨_,_,rfl,(h.oldS s6)⟩ ⟨_,_,rfl,(h.oldS s7)⟩ ⟨_,_,rfl,(h.oldS s8)⟩ ⟨_,_,rfl,qoY⟩ hr1) Z Z Z Z ?_;rintro _ _ _ hs1 (⟨i1,rfl,rfl,rfl⟩|⟨S1,p9,ln1,k9,x1,bb4,S2,W,ln2,R,x2,S3,c,ln3,b,o,S4,f,ln4,d,z,S5,k,ln5,g,D,Q,S6,s,ln6,p,N,rfl,rfl,rfl⟩)
 ·replace h:SH _ _ [Ch.box J [.slice U 0 0,.slice U 0 0,.slice U 0 0] 45,Ch.box I (qam A) 59,Ch.box H (qJ a p1 C v y M Y B t u L) 57]:=SH.appendN h hs1 (show NoD [] from trivial);refine X0 14 Z (qi Z F ?_ ?_)<;>intro F
  ·refine zSR (r_v (qaf qa [] [] Z Z Z Z Z Z Z Z) Z (zp1 Z (zs 0 h Z fun _ h=>X0 4 Z ?_)));obtain rfl:=qb F;exact qX qa (ρ:=(qq×(List Int)×Int×Int)) [GoT.v qq [.slice U 0 0,.slice U 0 0,.slice U 0 0],GoT.v (List Int) [.slice U 0 0],GoT.v Int [.int .i64 0],GoT.v Int [.int .i64 i1]] h ⟨⟨_,_,_,rfl,rfl,h.box 0 Z,rfl⟩,rfl,rfl,rfl,trivial⟩ (PV.done h (qP h (qe4 (⟨[],[],[]⟩:qq) h qeF qeF qeF (by rfl) (by rfl)) (qP h qeF (qP h (qy (S:=fun _=>False) Z) (qad (qy (S:=fun _=>False) Z)) (by rfl)) (by rfl)) (by rfl)))
  refine X0 9 Z ?_;obtain⟨o1,F,_⟩:=qd F;refine qn (rL (fun m e w'=>qjU m=V o1∧e=[(3,.slice p7 O.length k7),(4,.slice p8 P.length k8),(5,.pointer (V ⟨H,0,U⟩)),(6,.pointer (V ⟨I,0,U⟩)),(10,.pointer (V ⟨J,0,U⟩)),(14,.pointer U),(15,.slice U 0 0),(17,.slice U 0 0),(18,.int .i64 1)]∧SH w w' [Ch.box J [.slice U 0 0,.slice U 0 0,.slice U 0 0] 45,Ch.box I (qam A) 59,Ch.box H (qJ a p1 C v y M Y B t u L) 57]) n ⟨F,rfl,h⟩ Z ?_);rintro m1 _ _ ⟨F,rfl,h⟩;rcases m1 with _|m1
  ·cases F
  refine X0 3 Z (rA [] [] h Z fun _ h=>M0 1 [0] (h.pick [] Z) Z ?_);cases F
 replace h:SH _ _ [Ch.own S1 (x1:List Int) [.slice p9 ln1 k9],Ch.box bb4 [.pointer (V ⟨Q,0,U⟩),.slice W ln2 R] 110,Ch.own S2 (x2:List Bool) [.slice W ln2 R],Ch.own S3 (o:List (List Int)) [.slice c ln3 b],Ch.own S4 (z:List Int) [.slice f ln4 d],Ch.own S5 (D:List qv) [.slice k ln5 g],Ch.box Q [.slice p1 a.Ar.Ap.length Y,.slice C a.Aa.Ab.length B,.slice v a.Aa.Ai.length t,.slice y a.Aa.Ah.length u,.slice M a.Af.length L,.slice s ln6 p,.slice k ln5 g,.slice f ln4 d,.slice c ln3 b,.slice U 0 0] 115,Ch.own S6 (N:List Tplace) [.slice s ln6 p],Ch.box J [.slice U 0 0,.slice U 0 0,.slice U 0 0] 45,Ch.box I (qam A) 59,Ch.box H (qJ a p1 C v y M Y B t u L) 57]:=SH.appendN h hs1 ⟨fun _ h=>h,⟨fun _ h=>h,⟨fun _ h=>h,⟨fun _ h=>h,⟨fun _ h=>h,⟨fun _ h=>h,⟨fun _ h=>h,⟨fun _ h=>h,trivial⟩⟩⟩⟩⟩⟩⟩⟩;obtain rfl:=(h.sl 0 Z).2;obtain rfl:=(h.sl 2 Z).2;obtain rfl:=(h.sl 3 Z).2;obtain rfl:=(h.sl 4 Z).2;obtain rfl:=(h.sl 5 Z).2;obtain rfl:=(h.sl 7 Z).2;refine X0 14 Z (qbL Z Z (X0 9 Z ?_));replace h:=h.nil (α:=Int);replace h:=h.nil (α:=Int);obtain⟨o2,F,hK2⟩:=qd F;refine qn (rL (fun m e w'=>∃(S7:Nat→Prop) (p15:Option Addr) (ln7:Nat) (k15:Nat) (x7:(List Int)) (S8:Nat→Prop) (X:Option Addr) (ln8:Nat) (T:Nat) (x8:(List Int)) (i2:Int),qds a A O P x1 x2 o z D N m x7 x8 i2=V o2∧e=[(3,.slice p7 O.length k7),(4,.slice p8 P.length k8),(5,.pointer (V ⟨H,0,U⟩)),(6,.pointer (V ⟨I,0,U⟩)),(10,.pointer (V ⟨J,0,U⟩)),(14,.pointer (V ⟨bb4,0,U⟩)),(15,.slice p9 x1.length k9),(17,.slice X ln8 T),(18,.int .i64 i2)]∧SH w w' [Ch.own S7 (x7:List Int) [.slice p15 ln7 k15],Ch.own S8 (x8:List Int) [.slice X ln8 T],Ch.own S1 (x1:List Int) [.slice p9 x1.length k9],Ch.box bb4 [.pointer (V ⟨Q,0,U⟩),.slice W x2.length R] 110,Ch.own S2 (x2:List Bool) [.slice W x2.length R],Ch.own S3 (o:List (List Int)) [.slice c o.length b],Ch.own S4 (z:List Int) [.slice f z.length d],Ch.own S5 (D:List qv) [.slice k D.length g],Ch.box Q [.slice p1 a.Ar.Ap.length Y,.slice C a.Aa.Ab.length B,.slice v a.Aa.Ai.length t,.slice y a.Aa.Ah.length u,.slice M a.Af.length L,.slice s N.length p,.slice k D.length g,.slice f z.length d,.slice c o.length b,.slice p15 ln7 k15] 115,Ch.own S6 (N:List Tplace) [.slice s N.length p],Ch.box J [.slice U 0 0,.slice U 0 0,.slice U 0 0] 45,Ch.box I (qam A) 59,Ch.box H (qJ a p1 C v y M Y B t u L) 57]) n ⟨_,_,_,_,_,_,_,_,_,_,_,F,rfl,h⟩ Z ?_);rintro m2 _ _ ⟨S7,p15,ln7,k15,x7,S8,X,ln8,T,x8,i2,F,rfl,h⟩;obtain rfl:=(h.sl 0 Z).2;obtain rfl:=(h.sl 1 Z).2;rcases m2 with _|m2
 ·cases F
 refine X0 3 Z (rA [] [3,12] h Z fun _ h=>M2 127 [0,1,2,3,4,5,6] 0 1 (h.pick [3,12] Z) Z (Ao 7 255 Z (zcL h F (qnL (h.old ha1) ⟨_,_,rfl,(h.oldS s8)⟩ (h.own 1 Z)) Z fun K _ _ l i h F=>G0 1023 [8,9] (h.pick [4,13] Z) Z (Ao 10 2047 Z (zs 9 h Z fun _ h=>Ag (h.pick [4,13] Z) (Ad (X1 6 12 h Z ?_)))))));obtain⟨r3,hr3,F⟩:=qd F;obtain⟨r4,r5⟩:=r3;refine qaF (r4,r5) h (cB 45 Z) (qni (qcW (x:=(⟨(V (⟨(⟨(⟨a.Ar.Ap⟩:qt),(⟨a.Aa.Ab,a.Aa.Ai,a.Aa.Ah⟩:qg),a.Af⟩:qe),N,D,z,o,K⟩:Tview)),x2⟩:Tgraph)) 4 h Z (⟨[.pointer (V ⟨Q,0,U⟩)],[.slice W x2.length R],rfl,(qcW (x:=(⟨(⟨(⟨a.Ar.Ap⟩:qt),(⟨a.Aa.Ab,a.Aa.Ai,a.Aa.Ah⟩:qg),a.Af⟩:qe),N,D,z,o,K⟩:Tview)) 9 h Z (⟨[.slice p1 a.Ar.Ap.length Y,.slice C a.Aa.Ab.length B,.slice v a.Aa.Ai.length t,.slice y a.Aa.Ah.length u,.slice M a.Af.length L],[.slice s N.length p,.slice k D.length g,.slice f z.length d,.slice c o.length b,.slice l K.length i],rfl,⟨[.slice p1 a.Ar.Ap.length Y],[.slice C a.Aa.Ab.length B,.slice v a.Aa.Ai.length t,.slice y a.Aa.Ah.length u,.slice M a.Af.length L],rfl,⟨_,_,rfl,(h.oldS s1)⟩,⟨[.slice C a.Aa.Ab.length B,.slice v a.Aa.Ai.length t,.slice y a.Aa.Ah.length u],[.slice M a.Af.length L],rfl,⟨[.slice C a.Aa.Ab.length B],[.slice v a.Aa.Ai.length t,.slice y a.Aa.Ah.length u],rfl,⟨_,_,rfl,(h.oldS s2)⟩,⟨[.slice v a.Aa.Ai.length t],[.slice y a.Aa.Ah.length u],rfl,⟨_,_,rfl,(h.oldS s3)⟩,⟨_,_,rfl,(h.oldS s4)⟩⟩⟩,⟨_,_,rfl,(h.oldS s5)⟩⟩⟩,⟨[.slice s N.length p],[.slice k D.length g,.slice f z.length d,.slice c o.length b,.slice l K.length i],rfl,(h.own 10 Z),⟨[.slice k D.length g],[.slice f z.length d,.slice c o.length b,.slice l K.length i],rfl,(h.own 8 Z),⟨[.slice f z.length d],[.slice c o.length b,.slice l K.length i],rfl,(h.own 7 Z),⟨[.slice c o.length b],[.slice l K.length i],rfl,(h.own 6 Z),(h.own 0 Z)⟩⟩⟩⟩⟩)),(h.own 5 Z)⟩)) (h.old ha2) ⟨_,_,rfl,(h.oldS s7)⟩ (h.own 3 Z) hr3) Z Z Z Z fun _ _ _ hv1 hr4=>?_;obtain⟨_,_,_,_,rfl,hv2,hr5⟩:=hv1.cons hr4;obtain⟨p18,k18,p19,k19,p20,k20,rfl,-,-,-⟩:=qM (hv2.sh.own 0 Z);obtain⟨rfl,h⟩:=hv2.lastB hr5;refine zp3 Z (qp qa h Z Z Z fun _ _ h=>zs 0 h Z fun _ h=>X0 8 Z (qi Z F ?_ ?_))<;>intro F
 ·refine zSR (r_v (qaf qa [] [] Z Z Z Z Z Z Z Z) Z (zs 13 h Z fun _ h=>X0 4 Z ?_));obtain rfl:=qb F;replace F:=hK2;obtain rfl:=qb F;exact qX qa (ρ:=(qq×(List Int)×Int×Int)) [GoT.v qq [.slice U 0 0,.slice U 0 0,.slice U 0 0],GoT.v (List Int) [.slice U 0 0],GoT.v Int [.int .i64 0],GoT.v Int [.int .i64 3]] h ⟨⟨_,_,_,rfl,rfl,h.box 13 Z,rfl⟩,rfl,rfl,rfl,trivial⟩ (PV.done h (qP h (qe4 (⟨[],[],[]⟩:qq) h qeF qeF qeF (by rfl) (by rfl)) (qP h qeF (qP h (qy (S:=fun _=>False) Z) (qad (qy (S:=fun _=>False) Z)) (by rfl)) (by rfl)) (by rfl)))
 refine zKS (rA [] [0,6] h Z fun _ h=>M2 127 [0,1,2,3,4,5,6] 1 0 (h.pick [0,6] Z) Z (Ao 7 255 Z (zcL h F (qo9 (qcW (x:=(⟨(⟨(⟨a.Ar.Ap⟩:qt),(⟨a.Aa.Ab,a.Aa.Ai,a.Aa.Ah⟩:qg),a.Af⟩:qe),N,D,z,o,K⟩:Tview)) 11 h Z (⟨[.slice p1 a.Ar.Ap.length Y,.slice C a.Aa.Ab.length B,.slice v a.Aa.Ai.length t,.slice y a.Aa.Ah.length u,.slice M a.Af.length L],[.slice s N.length p,.slice k D.length g,.slice f z.length d,.slice c o.length b,.slice l K.length i],rfl,⟨[.slice p1 a.Ar.Ap.length Y],[.slice C a.Aa.Ab.length B,.slice v a.Aa.Ai.length t,.slice y a.Aa.Ah.length u,.slice M a.Af.length L],rfl,⟨_,_,rfl,(h.oldS s1)⟩,⟨[.slice C a.Aa.Ab.length B,.slice v a.Aa.Ai.length t,.slice y a.Aa.Ah.length u],[.slice M a.Af.length L],rfl,⟨[.slice C a.Aa.Ab.length B],[.slice v a.Aa.Ai.length t,.slice y a.Aa.Ah.length u],rfl,⟨_,_,rfl,(h.oldS s2)⟩,⟨[.slice v a.Aa.Ai.length t],[.slice y a.Aa.Ah.length u],rfl,⟨_,_,rfl,(h.oldS s3)⟩,⟨_,_,rfl,(h.oldS s4)⟩⟩⟩,⟨_,_,rfl,(h.oldS s5)⟩⟩⟩,⟨[.slice s N.length p],[.slice k D.length g,.slice f z.length d,.slice c o.length b,.slice l K.length i],rfl,(h.own 12 Z),⟨[.slice k D.length g],[.slice f z.length d,.slice c o.length b,.slice l K.length i],rfl,(h.own 10 Z),⟨[.slice f z.length d],[.slice c o.length b,.slice l K.length i],rfl,(h.own 9 Z),⟨[.slice c o.length b],[.slice l K.length i],rfl,(h.own 8 Z),(h.own 2 Z)⟩⟩⟩⟩⟩)) (h.own 1 Z) ⟨_,_,rfl,(h.oldS s8)⟩) Z fun r6 _ _ p21 k21 h F=>Ag (h.pick [1,7] Z) (Ao 8 511 Z (qG qa [.tmp 59,.tmp 66] _ ([⟨[.slice X x8.length T]⟩,⟨[.slice p21 r6.length k21]⟩]:List (Raw (List Int))) h Z Z Z Z Z Z Z Z Z ⟨qyt,qyt,trivial⟩ Z fun _ _ _ h=>Ag (h.pick [2,8] Z) (Ao 9 1023 Z (zcL h F (qnP (rawsR (xs:=([x8,r6]:List (List Int))) (h.own 0 Z) ⟨(h.own 6 Z),(h.own 1 Z),trivial⟩)) Z fun _ _ _ _ _ h F=>G0 2047 [10] (h.pick [3,9] Z) Z (Ad (X0 3 Z ?_)))))))));obtain⟨_,hx1,F⟩:=qd F;obtain⟨g1,hx1⟩:=qwe hx1;refine qr2 (cB 48 Z) (qBa Tryz.slices_Sort_at 0 h Z g1) Z Z Z Z fun _ h=>?_;rw[hx1] at h;refine X0 4 Z ?_;obtain⟨_,hx2,F⟩:=qd F;have hx2:=qwn hx2;refine qny (cB 49 Z) (qxS Tryz.slices_Compact_at h) Z Z Z Z ?_;rw[hx2];intro _ _ _ _ h;refine X0 11 Z (qi Z F ?_ ?_)<;>intro F
 ·refine X1 5 3 h Z (zs 16 h Z fun _ h=>X0 4 Z ?_);obtain rfl:=qb F;replace F:=hK2;obtain rfl:=qb F;exact qX qa (ρ:=(qq×(List Int)×Int×Int)) [GoT.v qq (qI r4 p18 p19 p20 k18 k19 k20),GoT.v (List Int) [.slice X x8.length T],GoT.v Int [.int .i64 i2],GoT.v Int [.int .i64 0]] h ⟨⟨_,_,_,rfl,rfl,h.box 16 Z,rfl⟩,rfl,rfl,rfl,trivial⟩ (PV.done h (qP h (qak 4 h Z) (qP h (qak 7 h Z) (qP h (qy (S:=fun _=>False) Z) (qad (qy (S:=fun _=>False) Z)) (by rfl)) (by rfl)) (by rfl)))
 refine X0 11 Z ?_;replace h:=h.pick [5,0,8,9,10,11,12,13,14,15,16,17,18] Z;exact rK ⟨_,_,_,_,_,_,_,_,_,_,_,F,rfl,h⟩ Z
def qj7 (_:Nat)(a:(List qh))(left:Int):Option Int:=
 bif decide ((W64 (left-(a.length:Int)))<0) then V (-1) else
 V (W64 (left-(a.length:Int)))
theorem qo8 {a:(List qh)}{left:Int}(b:Ro w a cs1){r:Int}(F:qj7 n a left=V r):RetV prog 8 [GoT.v (List qh) cs1,.int .i64 left] w r:=by
 obtain⟨_,_,rfl,_⟩:=b;refine zV 12 func8 Z fun h=>X0 18 Z (qi Z F ?_ ?_)<;>intro F
 ·exact X0 4 Z (ri h F Z)
 exact X0 6 Z (ri h F Z)
def qg3 (_:Nat)(a:qh):Option qh:=
 V (⟨a.A,a.B,a.Bp⟩:qh)
theorem qpz {a:qh}(b:Ro w a cs1){r:qh}(F:qg3 n a=V r):RetV prog 42 [GoT.v qh cs1] w r:=by
 obtain rfl:=qV b;refine zV 14 func42 Z fun h=>zSR (qw h Z Z fun _ _ h=>qp qa h Z Z Z fun _ _ h=>zNSR (qp qa h Z Z Z fun _ _ h=>X1 6 2 h Z (zs 0 h Z fun _ h=>X1 6 2 h Z (zs 0 h Z fun _ h=>X1 6 2 h Z (zs 0 h Z fun _ h=>X1 4 0 h Z (zs 1 h Z fun _ h=>qcU ?_))))));obtain rfl:=qb F;exact qX qa (ρ:=qh) [GoT.v qh (qkO a)] h ⟨⟨_,_,_,rfl,rfl,h.box 1 Z,rfl⟩,trivial⟩ (PV.done h (qad (qy (S:=fun _=>False) (qb6 (⟨a.A,a.B,a.Bp⟩:qh)))))
def qeu (a:(List qh)):Nat→(List qh)→Int→Option ((List qh)×Int)
 | 0,_,_=>U
 | n+1,c,b=>
  bif decide (b<(a.length:Int)) then
   (idx a b).bind fun f=>
   (qg3 n f).bind fun d=>
   (idx c b).bind fun _=>
   qeu a n (setS c b d) (W64 (b+1))
  else
   V (c,b)
def qdI (n:Nat)(a:(List qh)):Option (List qh):=
 (mkS (a.length:Int) ((⟨0,0,0⟩:qh):qh)).bind fun b=>
 (qeu a n b 0).bind fun o=>match o with
 | (c,_)=>
  V c
theorem qax {a:(List qh)}(k:Ro w a cs1){r:(List qh)}(F:qdI n a=V r):RetV prog 14 [GoT.v (List qh) cs1] w r:=by
 obtain⟨K,I,rfl,L⟩:=k;refine zV 23 func14 Z fun h=>X0 8 Z ?_;obtain⟨g,b,F⟩:=qd F;obtain⟨D,H,b⟩:=qR b;refine qas qa qh h Z Z Z Z Z Z Z Z Z D H b Z fun _ S1 B h=>X0 7 Z ?_;obtain⟨J,F,i⟩:=qd F;refine qn (rL (fun m e w'=>∃(z:(List qh)) (y:Int),qeu a m z y=V J∧e=[(0,.slice K a.length I),(3,.slice B g.length g.length),(4,.int .i64 y)]∧SH w w' [Ch.own S1 (z:List qh) [.slice B g.length g.length]]) n ⟨_,_,F,rfl,h⟩ Z ?_);rintro A _ _ ⟨z,y,F,rfl,h⟩;rcases A with _|A
 ·cases F
 refine X0 8 Z (qi Z F ?_ ?_)<;>intro F
 ·refine X0 8 Z ?_;obtain⟨M,_,F,p,_,_,_,_,s,t,u,l⟩:=L.ix F;obtain rfl:=qV u;refine zxe s t p Z (zc 0 (l.below h.below) Z (zcO h F (qpz (qb6 M)) Z fun C _ _ _ h F=>?_));obtain rfl:=qV (h.own 0 Z);obtain⟨N,x,F,c,_,_,_,_,d,f,v,o⟩:=(h.sl 1 Z).1.ix F;obtain rfl:=qV v;refine zx d f ⟨c.1,qD c.2.1 (h.sl 1 Z).2⟩ Z (qao qa 1 0 C h Z x d f (qb6 N) o Z Z Z (qb6 C) Z Z Z fun _ h=>X0 7 Z ?_);replace h:=h.pick [1] Z;exact rK ⟨_,_,F,rfl,h⟩ Z
 refine qr Z ?_;obtain rfl:=qb F;replace F:=i;refine X0 5 Z ?_;obtain rfl:=qb F;exact rO 0 h Z ⟨rfl,trivial⟩
def qha (_:Nat)(a:qh)(b:qh):Option Bool:=
 bif (a.A != b.A) then V false else
 bif (a.B != b.B) then V false else
 bif (a.Bp != b.Bp) then V false else
 V true
theorem qpH {a:qh}{b:qh}(c:Ro w a cs1)(d:Ro w b cs2){r:Bool}(F:qha n a b=V r):RetV prog 56 [GoT.v qh cs1,GoT.v qh cs2] w r:=by
 obtain rfl:=qV c;obtain rfl:=qV d;refine zV 20 func56 Z fun h=>zSR (qw h Z Z fun _ _ h=>qw h Z Z fun _ _ h=>X2 11 1 0 h Z (qi Z F ?_ ?_))<;>intro F
 ·exact X0 4 Z (rb h F Z)
 refine X2 10 1 0 h Z (qi Z F ?_ ?_)<;>intro F
 ·exact X0 4 Z (rb h F Z)
 refine X2 10 1 0 h Z (qi Z F ?_ ?_)<;>intro F
 ·exact X0 4 Z (rb h F Z)
 exact X0 5 Z (rb h F Z)
def qer (a:(List qh))(b:(List qh)):Nat→Int→Option (Flow Bool Int)
 | 0,_=>U
 | n+1,c=>
  bif decide (c<(a.length:Int)) then
   (idx a c).bind fun f=>
   (idx b c).bind fun g=>
   (qha n f g).bind fun d=>
   bif (!d) then V (.ret false) else
   qer a b n (W64 (c+1))
  else
   V (.nxt c)
def qis (n:Nat)(a:(List qh))(b:(List qh)):Option Bool:=
 bif ((a.length:Int) != (b.length:Int)) then V false else
 (qer a b n 0).bind fun o=>match o with
 | .ret r=>V r
 | .nxt _=>
  V true
theorem qo3 {a:(List qh)}{b:(List qh)}(d:Ro w a cs1)(f:Ro w b cs2){r:Bool}(F:qis n a b=V r):RetV prog 20 [GoT.v (List qh) cs1,GoT.v (List qh) cs2] w r:=by
 obtain⟨D,A,rfl,J⟩:=d;obtain⟨H,B,rfl,s2⟩:=f;refine zV 27 func20 Z fun h=>X0 13 Z (qi Z F ?_ ?_)<;>intro F
 ·exact X0 4 Z (rb h F Z)
 refine X0 6 Z ?_;obtain⟨C,F,c⟩:=qd F;refine qn (rL (fun m e w'=>∃(y:Int),qer a b m y=V C∧e=[(0,.slice D a.length A),(1,.slice H b.length B),(5,.int .i64 y)]∧SH w w' []) n ⟨_,F,rfl,h⟩ Z ?_);rintro z _ _ ⟨y,F,rfl,h⟩;rcases z with _|z
 ·cases F
 refine X0 8 Z (qi Z F ?_ ?_)<;>intro F
 ·refine X0 4 Z (rD (zd2 Z ?_));obtain⟨K,_,F,k,_,_,_,_,o,s,u,g⟩:=J.ix F;obtain rfl:=qV u;refine zdxe o s k Z (zdc 0 (g.below h.below) Z (zd2 Z ?_));obtain⟨L,_,F,l,_,_,_,_,p,t,v,i⟩:=s2.ix F;obtain rfl:=qV v;refine zdxe p t l Z (zdc 0 (i.below h.below) Z ?_);obtain⟨I,x,F⟩:=qd F;refine qbn I (vsB _) (cB 56 Z) (fun _ hb=>qpH (qb6 K) (qb6 L) x) Z Z Z Z (zd1 Z (dN h fun _ h=>qi Z F ?_ ?_))<;>intro F
  ·refine X0 4 Z ?_;obtain rfl:=qb F;replace F:=c;exact rb h F Z
  exact X0 7 Z (rK ⟨_,F,rfl,h⟩ Z)
 refine qr Z ?_;obtain rfl:=qb F;replace F:=c;exact X0 4 Z (rb h F Z)
def qgS (a:(List Bool))(b:(List Bool)):Nat→Int→Option (Flow Bool Int)
 | 0,_=>U
 | n+1,c=>
  bif decide (c<(a.length:Int)) then
   (idx a c).bind fun d=>
   (idx b c).bind fun f=>
   bif (!(d==f)) then V (.ret false) else
   qgS a b n (W64 (c+1))
  else
   V (.nxt c)
def qli (n:Nat)(a:(List Bool))(b:(List Bool)):Option Bool:=
 bif ((a.length:Int) != (b.length:Int)) then V false else
 (qgS a b n 0).bind fun o=>match o with
 | .ret r=>V r
 | .nxt _=>
  V true
theorem qrR {a:(List Bool)}{b:(List Bool)}(d:Ro w a cs1)(f:Ro w b cs2){r:Bool}(F:qli n a b=V r):RetV prog 50 [GoT.v (List Bool) cs1,GoT.v (List Bool) cs2] w r:=by
 obtain⟨A,x,rfl,C⟩:=d;obtain⟨B,y,rfl,s2⟩:=f;refine zV 26 func50 Z fun h=>X0 13 Z (qi Z F ?_ ?_)<;>intro F
 ·exact X0 4 Z (rb h F Z)
 refine X0 6 Z ?_;obtain⟨z,F,c⟩:=qd F;refine qn (rL (fun m e w'=>∃(u:Int),qgS a b m u=V z∧e=[(0,.slice A a.length x),(1,.slice B b.length y),(5,.int .i64 u)]∧SH w w' []) n ⟨_,F,rfl,h⟩ Z ?_);rintro v _ _ ⟨u,F,rfl,h⟩;rcases v with _|v
 ·cases F
 refine X0 8 Z (qi Z F ?_ ?_)<;>intro F
 ·refine X0 4 Z (rD (zd2 Z ?_));obtain⟨_,_,F,k,_,_,_,_,o,s,rfl,g⟩:=C.ix F;refine zdxe o s k Z (zdc 0 (g.below h.below) Z (zd2 Z ?_));obtain⟨_,_,F,l,_,_,_,_,p,t,rfl,i⟩:=s2.ix F;refine zdxe p t l Z (zdc 0 (i.below h.below) Z (zd1 Z (dN h fun _ h=>qi Z F ?_ ?_)))<;>intro F
  ·refine X0 4 Z ?_;obtain rfl:=qb F;replace F:=c;exact rb h F Z
  exact X0 7 Z (rK ⟨_,F,rfl,h⟩ Z)
 refine qr Z ?_;obtain rfl:=qb F;replace F:=c;exact X0 4 Z (rb h F Z)
def qgY (a:(List qc))(b:(List qc)):Nat→Int→Option (Flow Bool Int)
 | 0,_=>U
 | n+1,c=>
  bif decide (c<(a.length:Int)) then
   (idx a c).bind fun f=>
   (idx b c).bind fun g=>
   (qhC n f g).bind fun d=>
   bif (!d) then V (.ret false) else
   qgY a b n (W64 (c+1))
  else
   V (.nxt c)
def qjz (n:Nat)(a:(List qc))(b:(List qc)):Option Bool:=
 bif ((a.length:Int) != (b.length:Int)) then V false else
 (qgY a b n 0).bind fun o=>match o with
 | .ret r=>V r
 | .nxt _=>
  V true
theorem qnS {a:(List qc)}{b:(List qc)}(d:Ro w a cs1)(f:Ro w b cs2){r:Bool}(F:qjz n a b=V r):RetV prog 51 [GoT.v (List qc) cs1,GoT.v (List qc) cs2] w r:=by
 obtain⟨D,A,rfl,J⟩:=d;obtain⟨H,B,rfl,s2⟩:=f;refine zV 27 func51 Z fun h=>X0 13 Z (qi Z F ?_ ?_)<;>intro F
 ·exact X0 4 Z (rb h F Z)
 refine X0 6 Z ?_;obtain⟨C,F,c⟩:=qd F;refine qn (rL (fun m e w'=>∃(y:Int),qgY a b m y=V C∧e=[(0,.slice D a.length A),(1,.slice H b.length B),(5,.int .i64 y)]∧SH w w' []) n ⟨_,F,rfl,h⟩ Z ?_);rintro z _ _ ⟨y,F,rfl,h⟩;rcases z with _|z
 ·cases F
 refine X0 8 Z (qi Z F ?_ ?_)<;>intro F
 ·refine X0 4 Z (rD (zd2 Z ?_));obtain⟨K,_,F,k,_,_,_,_,o,s,u,g⟩:=J.ix F;obtain rfl:=qu u;refine zdxe o s k Z (zdc 0 (g.below h.below) Z (zd2 Z ?_));obtain⟨L,_,F,l,_,_,_,_,p,t,v,i⟩:=s2.ix F;obtain rfl:=qu v;refine zdxe p t l Z (zdc 0 (i.below h.below) Z ?_);obtain⟨I,x,F⟩:=qd F;refine qbn I (vsB _) (cB 106 Z) (fun _ hb=>qlR (qB K) (qB L) x) Z Z Z Z (zd1 Z (dN h fun _ h=>qi Z F ?_ ?_))<;>intro F
  ·refine X0 4 Z ?_;obtain rfl:=qb F;replace F:=c;exact rb h F Z
  exact X0 7 Z (rK ⟨_,F,rfl,h⟩ Z)
 refine qr Z ?_;obtain rfl:=qb F;replace F:=c;exact X0 4 Z (rb h F Z)
def qhg (n:Nat)(a:qq)(b:qq):Option Bool:=
 (qli n a.Aj b.Aj).bind fun c=>
 bif (!c) then V false else
 (qjz n a.Ac b.Ac).bind fun d=>
 bif (!d) then V false else
 (qjz n a.Aq b.Aq).bind fun f=>
 bif (!f) then V false else
 V true
theorem qj8 {a:qq}{b:qq}(c:Ro w a cs1)(d:Ro w b cs2){r:Bool}(F:qhg n a b=V r):RetV prog 16 [GoT.v qq cs1,GoT.v qq cs2] w r:=by
 obtain⟨_,_,_,_,_,_,rfl,f,s2,g⟩:=qM c;obtain⟨_,_,_,_,_,_,rfl,i,k,l⟩:=qM d;refine zV 23 func16 Z fun h=>zSR (qw h Z Z fun _ _ h=>qw h Z Z fun _ _ h=>X2 9 1 0 h Z (zcB h F (qrR ⟨_,_,rfl,(h.oldS f)⟩ ⟨_,_,rfl,(h.oldS i)⟩) Z fun _ _ h F=>X0 2 Z (qi Z F ?_ ?_)))<;>intro F
 ·exact X0 4 Z (rb h F Z)
 refine X2 8 1 0 h Z (zcB h F (qnS ⟨_,_,rfl,(h.oldS s2)⟩ ⟨_,_,rfl,(h.oldS k)⟩) Z fun _ _ h F=>X0 2 Z (qi Z F ?_ ?_))<;>intro F
 ·exact X0 4 Z (rb h F Z)
 refine X2 8 1 0 h Z (zcB h F (qnS ⟨_,_,rfl,(h.oldS g)⟩ ⟨_,_,rfl,(h.oldS l)⟩) Z fun _ _ h F=>X0 2 Z (qi Z F ?_ ?_))<;>intro F
 ·exact X0 4 Z (rb h F Z)
 exact X0 5 Z (rb h F Z)
def qcA (a:(List Int)):Nat→(List Int)→Int→Int→Option ((List Int)×Int×Int)
 | 0,_,_,_=>U
 | n+1,d,c,b=>
  bif decide (b<(a.length:Int)) then
   (idx d b).bind fun _=>
   qcA a n (setS d b c) (W64 (c+1)) (W64 (b+1))
  else
   V (d,c,b)
def qaO (n:Nat)(a:(List Int))(k:Int):Option (Int×(List Int)):=
 (qcA a n a k 0).bind fun o=>match o with
 | (c,b,_)=>
  V (b,c)
theorem qaR {n:Nat}{u w:World}{F:List Ch}{a:(List Int)}{k:Int}{S1:Nat→Prop}{i:Option Addr}{b g:Nat}(h:SH u w (Ch.own S1 (a:List Int) [.slice i b g]::F)){r:(Int×(List Int))}(hF:qaO n a k=V r):RetN prog 22 [.slice i b g,.int .i64 k] w (fun w'=>∃ Z0:Nat→Prop,SH u w' (Ch.own Z0 (r.2:List Int) [.slice i b g]::F)) r.1:=by
 refine qbD func22 Z (m:=19) Z Z ?_;obtain rfl:=(h.sl 0 Z).2;refine X0 9 Z ?_;obtain⟨y,hF,o⟩:=qd hF;refine qn (rL (fun m e w'=>∃(v:(List Int)) (l:Int) (t:Int),qcA a m v l t=V y∧e=[(0,.slice i a.length g),(1,.int .i64 l),(5,.int .i64 t)]∧SH u w' (Ch.own S1 (v:List Int) [.slice i a.length g]::F)) n ⟨_,_,_,hF,rfl,h⟩ Z ?_);rintro x _ _ ⟨v,l,t,hF,rfl,h⟩;rcases x with _|x
 ·cases hF
 refine X0 8 Z (qi Z hF ?_ ?_)<;>intro hF
 ·refine X0 8 Z ?_;obtain⟨_,s,hF,c,_,_,_,_,d,f,rfl,p⟩:=(h.sl 0 Z).1.ix hF;exact zx d f ⟨c.1,qD c.2.1 (h.sl 0 Z).2⟩ Z (qao qa 0 0 l h Z s d f Z p Z Z Z Z Z Z Z fun _ h=>X0 12 Z (rK ⟨_,_,_,hF,rfl,h⟩ Z))
 refine qr Z ?_;obtain rfl:=qb hF;replace hF:=o;refine X0 5 Z ?_;obtain rfl:=qb hF;exact qhB qa ⟨_,h⟩ ⟨rfl,trivial⟩
def qcC (a:(List Int)):Nat→Int→Int→Option (Flow Int (Int×Int))
 | 0,_,_=>U
 | n+1,c,b=>
  bif decide (b<(a.length:Int)) then
   (idx a b).bind fun d=>
   bif (d != c) then V (.ret (-1)) else
   qcC a n (W64 (c+1)) (W64 (b+1))
  else
   V (.nxt (c,b))
def qg2 (n:Nat)(a:(List Int))(k:Int):Option Int:=
 (qcC a n k 0).bind fun o=>match o with
 | .ret r=>V r
 | .nxt (b,_)=>
  V b
theorem qlL {a:(List Int)}{k:Int}(c:Ro w a cs1){r:Int}(F:qg2 n a k=V r):RetV prog 27 [GoT.v (List Int) cs1,.int .i64 k] w r:=by
 obtain⟨u,s,rfl,v⟩:=c;refine zV 21 func27 Z fun h=>X0 9 Z ?_;obtain⟨t,F,b⟩:=qd F;refine qn (rL (fun m e w'=>∃(l:Int) (o:Int),qcC a m l o=V t∧e=[(0,.slice u a.length s),(1,.int .i64 l),(5,.int .i64 o)]∧SH w w' []) n ⟨_,_,F,rfl,h⟩ Z ?_);rintro p _ _ ⟨l,o,F,rfl,h⟩;rcases p with _|p
 ·cases F
 refine X0 8 Z (qi Z F ?_ ?_)<;>intro F
 ·refine X0 8 Z ?_;obtain⟨_,_,F,f,_,_,_,_,g,i,rfl,d⟩:=v.ix F;refine zxe g i f Z (zc 0 (d.below h.below) Z (X0 3 Z (qi Z F ?_ ?_)))<;>intro F
  ·refine X0 4 Z ?_;obtain rfl:=qb F;replace F:=b;exact ri h F Z
  exact X0 12 Z (rK ⟨_,_,F,rfl,h⟩ Z)
 refine qr Z ?_;obtain rfl:=qb F;replace F:=b;exact X0 5 Z (ri h F Z)
end Go.Fw


namespace Go.Fw
open Go
set_option maxRecDepth 100000
theorem qux {n m:Nat}{a b mode:Int}:qfK n a b mode=qcL m a b mode:=by
 unfold qfK qcL;cases quoS a b with
 | none=>rfl
 | some y1=>
  cases remS a b with
  | none=>rfl
  | some y2=>
   simp only[jd];generalize decide (y2<0)=p;generalize decide (y2 > 0)=q;generalize (mode==0)=m0;generalize (mode==1)=m1;cases p<;>cases q<;>cases m0<;>cases m1<;>rfl
theorem qyK {a b:Int}(hb:0<b):-(if a<0 then -a else a)≤a.tdiv b∧a.tdiv b≤(if a<0 then -a else a):=by
 by_cases h:a<0
 ·rw[if_pos h];have e:a.tdiv b=-((-a).tdiv b):=by rw[Int.neg_tdiv,Int.neg_neg]
  rw[e,jE (show 0≤-a by omega)];have h1:=Int.ediv_nonneg (show 0≤-a by omega) (show 0≤b by omega);have h2:=Int.ediv_le_self (a:=-a) b (by omega);omega
 ·rw[if_neg h,jE (by omega)];have h1:=Int.ediv_nonneg (show 0≤a by omega) (show 0≤b by omega);have h2:=Int.ediv_le_self (a:=a) b (by omega);omega
theorem qlH {n:Nat}{a b mode:Int}(hb:0<b)(h0:-9000000000000000000≤a)(h1:a≤9000000000000000000):qcL n a b mode=V (divI a b mode):=by
 have ht:=qyK (a:=a) hb;have hq:-9000000000000000000≤a.tdiv b∧a.tdiv b≤9000000000000000000:=by
  revert ht;split<;>intro ht<;>omega
 unfold qcL quoS remS divI;rw[if_neg (by omega),if_neg (by omega)];have hw:IntKind.i64.wrap (a.tdiv b)=a.tdiv b:=qF (by omega) (by omega);simp only[hw,jd];rw[wO (a.tdiv b-1),wO (a.tdiv b+1)];generalize decide (a.tmod b<0)=p;generalize decide (a.tmod b > 0)=q;generalize (mode==0)=m0;generalize (mode==1)=m1;cases p<;>cases q<;>cases m0<;>cases m1<;>rfl
theorem quM {a b mode M:Int}(hb:0<b)(h0:0≤a)(h:a≤b*M):0≤divI a b mode∧divI a b mode≤M:=by
 rw[quP h0 hb];have e:=Int.emod_add_mul_ediv a b;have h1:=Int.emod_nonneg a (show b ≠ 0 by omega);have h2:=Int.ediv_nonneg h0 (show 0≤b by omega);have h3:a / b≤M:=Int.ediv_le_of_le_mul hb (by rw[Int.mul_comm];exact h);split
 ·rename_i hc
  refine⟨by omega,?_⟩;have:a / b<M:=by
   refine Int.lt_of_not_ge fun hg=>?_;have e2:a / b=M:=by omega
   rw[e2] at e;omega
  omega
 ·exact⟨h2,h3⟩
structure AxOk (ax:List Int):Prop where
 lo:1≤ax.length
 hi:ax.length≤4
 at_:∀ j,j<ax.length→0≤at0 ax j∧at0 ax j≤100000
 inc:∀ j i,i<j→j<ax.length→at0 ax i<at0 ax j
theorem qvD {ax:List Int}(h:axisB ax=true):AxOk ax:=by
 unfold axisB lenB incB at h;simp only[jf,decide_eq_true_eq] at h;obtain⟨⟨h1,h2⟩,h3,h4⟩:=h;rw[qhK (d:=0),qaC] at h3;rw[qaC] at h4;refine⟨h1,h2,fun j hj=>by have:=h3 j hj;rw[qa3] at this;exact this,fun j=>?_⟩
 induction j with
 | zero=>intro i hi _;omega
 | succ j ih=>
  intro i hi hj;have hs:=h4 (j+1) hj;unfold stepB at hs;simp only[Bool.or_eq_true,decide_eq_true_eq,Nat.add_sub_cancel] at hs;have hs':at0 ax j<at0 ax (j+1):=by
   rcases hs with hs|hs
   ·omega
   ·exact hs
  by_cases hij:i=j
  ·rw[hij];exact hs'
  ·have:=ih i (by omega) (by omega);omega
theorem least {P:Nat→Prop}:∀ m,P m→∃ p,p≤m∧P p∧∀ k,k<p→¬ P k:=by
 intro m
 induction m using Nat.strongRecOn with
 | ind m ih=>
  intro hm;by_cases h:∃ k,k<m∧P k
  ·obtain⟨k,hk,hp⟩:=h;obtain⟨p,h1,h2,h3⟩:=ih k hk hp;exact⟨p,by omega,h2,h3⟩
  ·exact⟨m,je _,hm,fun k hk hp=>h ⟨k,hk,hp⟩⟩
structure Wt (ax:List Int)(i:Nat)(a b:Int):Prop where
 il:i<ax.length
 a0:0<a
 a1:a≤100000
 b0:0≤b
 b1:b≤100000
 nx:0<b→i+1<ax.length
 one:b=0→a=1
def wtL (i:Nat)(a b:Int):List Tweight:=if b=0 then[⟨(i:Int),1⟩] else[⟨(i:Int),a⟩,⟨((i+1:Nat):Int),b⟩]
def clampV (ax:List Int)(x:Int):Int:=if at0 ax (ax.length-1)<(if at0 ax 0 > x then at0 ax 0 else x) then at0 ax (ax.length-1) else(if at0 ax 0 > x then at0 ax 0 else x)
theorem qAn {m:Nat}(h:m≤8):shrS .u64 (IntKind.wrap .u64 (W64 (m:Int))) 1=V ((m / 2:Nat):Int):=by
 rcases (by omega:m=0∨m=1∨m=2∨m=3∨m=4∨m=5∨m=6∨m=7∨m=8) with e|e|e|e|e|e|e|e|e<;>rw[e]<;>rfl
theorem qxh {ax:List Int}(h:AxOk ax){c:Int}{p:Nat}(hp:p<ax.length)(h1:c≤at0 ax p)(h2:∀ k,k<p→at0 ax k<c) :
  Ev (fun n=>qdp n ax c) ((p:Int),(at0 ax p==c)):=by
 have hhi:=h.hi;have main:∀ d i j,j-i≤d→i≤p→p≤j→j≤ax.length→Ev (fun n=>qaG ax c n (i:Int) (j:Int)) ((p:Int),(p:Int)):=by
  intro d
  induction d with
  | zero=>
   intro i j hd hi hj hl;refine Ev.succ ?_;simp only[qaG,ql (show j≤i by omega),cond_false];rw[show i=p by omega,show j=p by omega];exact .done
  | succ d ih=>
   intro i j hd hi hj hl;refine Ev.succ ?_;by_cases hij:i<j
   ·have hm:(i+j) / 2<ax.length:=by omega
    simp only[qaG,qk hij,cond_true,←Int.natCast_add,qAn (show i+j≤8 by omega),jd,qF (x:=(((i+j) / 2:Nat):Int)) (by omega) (by omega),qay hm,qlB,qeh,bne_self_eq_false,cond_false,qc9 (show(i+j) / 2<9223372036854775807 by omega)];by_cases hc:at0 ax ((i+j) / 2)<c
    ·refine Ev.tt (by simpa using hc) (ih _ _ (by omega) ?_ hj hl);refine Nat.lt_of_not_le fun hg=>?_;by_cases he:p=(i+j) / 2
     ·rw[←he] at hc;omega
     ·have:=h.inc ((i+j) / 2) p (by omega) hm;omega
    ·refine Ev.ff (by simpa using hc) (ih _ _ (by omega) hi ?_ (by omega));refine Nat.le_of_not_lt fun hg=>hc (h2 _ hg)
   ·simp only[qaG,ql (show j≤i by omega),cond_false];rw[show i=p by omega,show j=p by omega];exact .done
 unfold qdp;refine Ev.bind (main ax.length 0 ax.length (by omega) (by omega) (by omega) (je _)) ?_;simp only[qk hp,cond_true,qay hp,jd,qgO,bne_self_eq_false,cond_false];cases at0 ax p==c<;>exact .done
theorem qsg {ax:List Int}(h:AxOk ax)(x:Int):∃ i a b,Wt ax i a b∧Ev (fun n=>qfp n ax x) ((i:Int),a,b)∧Ev (fun n=>qio n ax x) (wtL i a b,a+b):=by
 have hlo:=h.lo;have hhi:=h.hi;have hle:at0 ax 0≤at0 ax (ax.length-1):=by
  by_cases h1:ax.length-1=0
  ·rw[h1];exact jY _
  ·have:=h.inc (ax.length-1) 0 (by omega) (by omega);omega
 obtain⟨c,hc⟩:∃ c,c=clampV ax x:=⟨_,rfl⟩;have hcl:at0 ax 0≤c∧c≤at0 ax (ax.length-1):=by
  rw[hc];unfold clampV;split<;>split at *<;>omega
 obtain⟨p,hp1,hp2,hp3⟩:=least (P:=fun k=>c≤at0 ax k) (ax.length-1) hcl.2;have hp:p<ax.length:=by omega
 have hp4:∀ k,k<p→at0 ax k<c:=fun k hk=>by have:=hp3 k hk;omega
 have hs:=qxh h hp hp2 hp4;have hcv:(if at0 ax (ax.length-1)<(if at0 ax 0 > x then at0 ax 0 else x) then at0 ax (ax.length-1) else(if at0 ax 0 > x then at0 ax 0 else x))=c:=hc.symm;have hlast:W64 ((ax.length:Int)-1)=((ax.length-1:Nat):Int):=by rw[qdU (by omega)];omega
 have ib:=h.at_ p hp;have spec:∀ (R:Int×Int×Int),Ev (fun n=>qbI ax x (at0 ax 0) (at0 ax (ax.length-1)) n (p:Int)) (.ret R)→Ev (fun n=>qfp n ax x) R:=by
  intro R hR;have main:∀ d j,j=p+d→j<ax.length→Ev (fun n=>qbI ax x (at0 ax 0) (at0 ax (ax.length-1)) n (j:Int)) (.ret R):=by
   intro d
   induction d with
   | zero=>intro j hj _;rw[show j=p by omega];exact hR
   | succ d ih=>
    intro j hj hl;have hgt:=h.inc j p (by omega) hl;refine Ev.succ ?_;simp only[qbI,show decide ((j:Int) ≥ 0)=true from decide_eq_true (by omega),cond_true,qay hl,jd,hcv];refine Ev.ff (beq_eq_false_iff_ne.2 (by omega)) (Ev.ff (decide_eq_false (by omega)) ?_);rw[show(j:Int)-1=((j-1:Nat):Int) by omega,qF (by omega) (by omega)];exact ih (j-1) (by omega) (by omega)
  unfold qfp;rw[show(0:Int)=((0:Nat):Int) from rfl,qay (show 0<ax.length by omega),hlast,qay (show ax.length-1<ax.length by omega)];simp only[jd];exact Ev.bind (main (ax.length-1-p) (ax.length-1) (by omega) (by omega)) .done
 by_cases he:at0 ax p=c
 ·refine⟨p,1,0,⟨hp,by omega,by omega,by omega,by omega,fun h=>absurd h (by omega),fun _=>rfl⟩,spec _ (Ev.succ ?_),?_⟩
  ·simp only[qbI,show decide ((p:Int) ≥ 0)=true from decide_eq_true (by omega),cond_true,qay hp,jd,hcv];exact Ev.tt (beq_iff_eq.2 he.symm) .done
  ·unfold qio;rw[show(0:Int)=((0:Nat):Int) from rfl,qay (show 0<ax.length by omega),hlast,qay (show ax.length-1<ax.length by omega)];simp only[jd,hcv];exact Ev.bind hs (Ev.tt (beq_iff_eq.2 he) (Ev.now Z))
 ·have hp0:0<p:=by
   refine Nat.pos_of_ne_zero fun e=>he ?_;rw[e] at hp2 ⊢;omega
  have hlt:=hp4 (p-1) (by omega);have ib2:=h.at_ (p-1) (by omega);have ew:((p:Int)-1)=((p-1:Nat):Int):=by omega
  refine⟨p-1,at0 ax p-c,c-at0 ax (p-1),⟨by omega,by omega,by omega,by omega,by omega,fun _=>by omega,fun h=>absurd h (by omega)⟩,spec _ (Ev.succ ?_),?_⟩
  ·simp only[qbI,show decide ((p:Int) ≥ 0)=true from decide_eq_true (by omega),cond_true,qay hp,jd,hcv];refine Ev.ff (beq_eq_false_iff_ne.2 (by omega)) (Ev.ff (decide_eq_false (by omega)) ?_);rw[ew,qF (x:=((p-1:Nat):Int)) (by omega) (by omega)];refine Ev.succ ?_;simp only[qbI,show decide (((p-1:Nat):Int) ≥ 0)=true from decide_eq_true (by omega),cond_true,qay (show p-1<ax.length by omega),jd,hcv];refine Ev.ff (beq_eq_false_iff_ne.2 (by omega)) (Ev.tt (decide_eq_true (by omega)) ?_);rw[qc9 (show p-1<9223372036854775807 by omega),show p-1+1=p by omega,qay hp];simp only[jd];rw[wO (at0 ax p-c),wO (c-at0 ax (p-1))];exact .done
  ·unfold qio;rw[show(0:Int)=((0:Nat):Int) from rfl,qay (show 0<ax.length by omega),hlast,qay (show ax.length-1<ax.length by omega)];simp only[jd,hcv];refine Ev.bind hs (Ev.ff (beq_eq_false_iff_ne.2 he) ?_);rw[qay hp,ew,qF (x:=((p-1:Nat):Int)) (by omega) (by omega),qay (show p-1<ax.length by omega)];simp only[jd];rw[wO (at0 ax p-c),wO (c-at0 ax (p-1)),wO (at0 ax p-at0 ax (p-1))];refine Ev.now ?_;unfold wtL;rw[if_neg (by omega),show p-1+1=p by omega]
   congr 2
   omega
end Go.Fw


namespace Go.Fw
open Go
set_option maxRecDepth 100000
structure TbOk (t:qx):Prop where
 s:AxOk t.Bi
 l:AxOk t.Bb
 n:t.Ba.length=t.Bi.length*t.Bb.length
 v:∀ k,-1000000≤at0 t.Ba k∧at0 t.Ba k≤1000000
theorem qw2 {xs:List Int}{k:Nat}(h:¬ k<xs.length):at0 xs k=0:=by simp[at0,jD,List.getElem?_eq_none (show xs.length≤k by omega)]
theorem qyf {t:qx}(h:tableB t=true):TbOk t:=by
 unfold tableB at h;simp only[jf,decide_eq_true_eq] at h;obtain⟨h1,h2,h3,h4⟩:=h;rw[qhK (d:=0),qaC] at h4;refine⟨qvD h1,qvD h2,h3,fun k=>?_⟩;by_cases hk:k<t.Ba.length
 ·have:=h4 k hk;rw[qa3] at this;exact this
 ·rw[qw2 hk];omega
def tv (t:qx)(i j:Nat):Int:=at0 t.Ba (i*t.Bb.length+j)
theorem mulA {x y Y:Int}(h0:0≤x)(g0:-Y≤y)(g1:y≤Y):-(x*Y)≤x*y∧x*y≤x*Y:=by
 have h1:=Int.mul_le_mul_of_nonneg_left g1 h0;have h2:=Int.mul_le_mul_of_nonneg_left g0 h0;rw[Int.mul_neg] at h2;exact⟨h2,h1⟩
theorem mulT {w q v:Int}(w0:0≤w)(w1:w≤100000)(q0:0≤q)(q1:q≤100000)(v0:-1000000≤v)(v1:v≤1000000):(0≤w*q∧w*q≤10000000000)∧(-10000000000000000≤w*q*v∧w*q*v≤10000000000000000):=by
 have h1:=jT w0 q0;have h2:w*q≤100000*100000:=Jc w1 q1 q0 (by omega);have h3:=mulA (x:=w*q) (y:=v) (Y:=1000000) h1 (by omega) (by omega);refine⟨⟨h1,by omega⟩,?_,?_⟩<;>omega
theorem qAA {t:qx}{i j:Nat}(h:TbOk t)(hi:i<t.Bi.length)(hj:j<t.Bb.length):i*t.Bb.length+j<t.Ba.length∧t.Ba.length≤16:=by
 have h1:=h.s.hi;have h2:=h.l.hi;have h3:(i+1)*t.Bb.length≤t.Bi.length*t.Bb.length:=js _ hi;have h4:t.Bi.length*t.Bb.length≤4*4:=Nat.mul_le_mul h1 h2;rw[h.n];rw[Nat.add_mul] at h3;omega
theorem sTerm {t:qx}(h:TbOk t){i j c k:Nat}{a1 b1 a2 b2 w q s:Int}(hc:c<2)(hk:k<2)(hw:w=if c=1 then b1 else a1)(hq:q=if k=0 then a2 else b2)
  (w0:0≤w) (w1:w≤100000) (q0:0≤q) (q1:q≤100000) (hi:0<w→i+c<t.Bi.length) (hj:0<q→j+k<t.Bb.length) (s0:-1000000000000000000≤s) (s1:s≤1000000000000000000) (n:Nat) :
  qcv t (i:Int) a1 b1 (j:Int) a2 b2 (c:Int) (n+1) s (k:Int)=qcv t (i:Int) a1 b1 (j:Int) a2 b2 (c:Int) n (s+w*q*tv t (i+c) (j+k)) ((k+1:Nat):Int):=by
 have hv:=h.v ((i+c)*t.Bb.length+(j+k));obtain⟨⟨m0,m1⟩,m2,m3⟩:=mulT w0 w1 q0 q1 hv.1 hv.2;have e5:(bif ((c:Int)==1) then V b1 else V a1)=V w:=by
  rw[hw];by_cases h1:c=1
  ·rw[if_pos h1,h1];rfl
  ·rw[if_neg h1,show((c:Int)==1)=false from beq_eq_false_iff_ne.2 (by omega)];rfl
 have e6:(bif ((k:Int)==0) then V (W64 (w*a2)) else V (W64 (w*b2)))=V (w*q):=by
  have hx:W64 (w*q)=w*q:=qF (by omega) (by omega);by_cases h1:k=0
  ·rw[if_pos h1] at hq;rw[h1,←hq,hx];rfl
  ·rw[if_neg h1] at hq;rw[show((k:Int)==0)=false from beq_eq_false_iff_ne.2 (by omega),←hq,hx];rfl
 rw[qcv];simp only[show decide ((k:Int)<2)=true from decide_eq_true (by omega),cond_true,e5,e6,jd,wS k];by_cases hp:w*q > 0
 ·have hwp:0<w:=by
   by_cases e:w=0
   ·rw[e,Int.zero_mul] at hp;omega
   ·omega
  have hqp:0<q:=by
   by_cases e:q=0
   ·rw[e,Int.mul_zero] at hp;omega
   ·omega
  obtain⟨x1,x2⟩:=qAA h (hi hwp) (hj hqp);have hl:=h.l.hi;have hs:=h.s.hi;have hi':=hi hwp;have hm:((i+c:Nat):Int)*(t.Bb.length:Int)=(((i+c)*t.Bb.length:Nat):Int):=(Int.natCast_mul _ _).symm;have ei:W64 (W64 (W64 (W64 ((i:Int)+(c:Int))*(t.Bb.length:Int))+(j:Int))+(k:Int))=(((i+c)*t.Bb.length+(j+k):Nat):Int):=by
   rw[wO ((i:Int)+(c:Int)),←Int.natCast_add,hm,qF (x:=(((i+c)*t.Bb.length:Nat):Int)) (by omega) (by omega),←Int.natCast_add,qF (x:=(((i+c)*t.Bb.length+j:Nat):Int)) (by omega) (by omega),←Int.natCast_add,qF (by omega) (by omega),Nat.add_assoc]
  rw[show decide (w*q > 0)=true from decide_eq_true hp,ei,qay x1];simp only[cond_true,jd];have e7:W64 (s+W64 (w*q*at0 t.Ba ((i+c)*t.Bb.length+(j+k))))=s+w*q*tv t (i+c) (j+k):=by
   unfold tv;rw[qF (x:=w*q*at0 t.Ba ((i+c)*t.Bb.length+(j+k))) (by omega) (by omega),qF (by omega) (by omega)]
  rw[e7]
 ·have h0:w*q=0:=by omega
  rw[show decide (w*q > 0)=false from decide_eq_false hp,h0,Int.zero_mul,Ji]
  rfl
def rowS (t:qx)(j:Nat)(a2 b2:Int)(i:Nat):Int:=a2*tv t i j+b2*tv t i (j+1)
theorem qnO {t:qx}(h:TbOk t){i j:Nat}:-1000000≤tv t i j∧tv t i j≤1000000:=h.v _
theorem qt5 {t:qx}(h:TbOk t){i j:Nat}{a2 b2:Int}(a0:0≤a2)(b0:0≤b2):-((a2+b2)*1000000)≤rowS t j a2 b2 i∧rowS t j a2 b2 i≤(a2+b2)*1000000:=by
 have h1:=mulA (x:=a2) (y:=tv t i j) (Y:=1000000) a0 (qnO h).1 (qnO h).2;have h2:=mulA (x:=b2) (y:=tv t i (j+1)) (Y:=1000000) b0 (qnO h).1 (qnO h).2;unfold rowS;omega
theorem sRow {t:qx}(h:TbOk t){i j c:Nat}{a1 b1 a2 b2 w s:Int}(hc:c<2)(hw:w=if c=1 then b1 else a1)(w0:0≤w)(w1:w≤100000)(hi:0<w→i+c<t.Bi.length)(hW:Wt t.Bb j a2 b2)
  (s0:-100000000000000000≤s) (s1:s≤100000000000000000):Ev (fun n=>qcv t (i:Int) a1 b1 (j:Int) a2 b2 (c:Int) n s 0) (s+w*rowS t j a2 b2 (i+c),2):=by
 have ha:=hW.a0;have hb:=hW.b0;have t1:=(mulT w0 w1 (show 0≤a2 by omega) hW.a1 (qnO h (i:=i+c) (j:=j)).1 (qnO h).2).2;refine Ev.step (fun n=>sTerm h hc (k:=0) (w:=w) (q:=a2) (by omega) hw Z w0 w1 (by omega) hW.a1 hi (fun _=>hW.il) (by omega) (by omega) n) ?_;refine Ev.step (fun n=>sTerm h hc (k:=1) (w:=w) (q:=b2) (by omega) hw Z w0 w1 hb hW.b1 hi hW.nx (by show _≤s+w*a2*tv t (i+c) (j+0);rw[Jh];omega) (by show s+w*a2*tv t (i+c) (j+0)≤_;rw[Jh];omega) n) ?_;refine Ev.succ ?_;simp only[qcv,show decide (((1+1:Nat):Int)<2)=false from rfl,cond_false];refine Ev.now ?_;unfold rowS;rw[Int.mul_add,←jZ,←jZ,Int.add_assoc,Jh]
 rfl
theorem iTerm {t:qx}(h:TbOk t){r5:List Tweight}{i j k:Nat}{w q s:Int}(hk:k<r5.length)(hr:r5.length≤2)(hx:idx r5 (k:Int)=V ⟨(j:Int),q⟩)(w0:0≤w)(w1:w≤100000)(q0:0≤q)(q1:q≤100000)
  (hi:i<t.Bi.length) (hj:j<t.Bb.length) (s0:-1000000000000000000≤s) (s1:s≤1000000000000000000) (n:Nat) :
  qbi t r5 ⟨(i:Int),w⟩ (n+1) s (k:Int)=qbi t r5 ⟨(i:Int),w⟩ n (s+w*q*tv t i j) ((k+1:Nat):Int):=by
 have hv:=qnO h (i:=i) (j:=j);obtain⟨_,m2,m3⟩:=mulT w0 w1 q0 q1 hv.1 hv.2;have m4:=mulA (x:=w) (y:=tv t i j) (Y:=1000000) w0 hv.1 hv.2;obtain⟨x1,x2⟩:=qAA h hi hj;have hl:=h.l.hi;have hs:=h.s.hi;have hm:(i:Int)*(t.Bb.length:Int)=((i*t.Bb.length:Nat):Int):=(Int.natCast_mul _ _).symm;rw[qbi];simp only[qk hk,cond_true,hx,jd,wS k,hm];rw[qF (x:=((i*t.Bb.length:Nat):Int)) (by omega) (by omega),←Int.natCast_add,qF (x:=((i*t.Bb.length+j:Nat):Int)) (by omega) (by omega),qay x1];simp only[jd];have e7:W64 (s+W64 (W64 (at0 t.Ba (i*t.Bb.length+j)*w)*q))=s+w*q*tv t i j:=by
  have e8:at0 t.Ba (i*t.Bb.length+j)*w=w*tv t i j:=Int.mul_comm _ _;have e9:w*tv t i j*q=w*q*tv t i j:=by rw[jZ,Int.mul_comm (tv t i j) q,←jZ]
  rw[e8,wO (w*tv t i j),e9,wO (w*q*tv t i j),qF (by omega) (by omega)]
 rw[e7]
theorem iRow {t:qx}(h:TbOk t){i j:Nat}{a2 b2 w s:Int}(w0:0≤w)(w1:w≤100000)(hi:i<t.Bi.length)(hW:Wt t.Bb j a2 b2)
  (s0:-100000000000000000≤s) (s1:s≤100000000000000000):Ev (fun n=>qbi t (wtL j a2 b2) ⟨(i:Int),w⟩ n s 0) (s+w*rowS t j a2 b2 i,((wtL j a2 b2).length:Int)):=by
 have ha:=hW.a0;have hb:=hW.b0;have t1:=(mulT w0 w1 (show 0≤a2 by omega) hW.a1 (qnO h (i:=i) (j:=j)).1 (qnO h).2).2;by_cases h0:b2=0
 ·have h1:=hW.one h0;subst h0 h1;have hl:wtL j 1 0=[⟨(j:Int),1⟩]:=if_pos Z;rw[hl];refine Ev.step (fun n=>iTerm h (k:=0) (q:=1) (by simp) (by simp) Z w0 w1 (by omega) (by omega) hi hW.il (by omega) (by omega) n) (Ev.succ ?_);simp only[qbi];refine Ev.ff Z (Ev.now ?_);unfold rowS;rw[Int.mul_one,Int.one_mul,Int.zero_mul,Ji]
  rfl
 ·have hl:wtL j a2 b2=[⟨(j:Int),a2⟩,⟨((j+1:Nat):Int),b2⟩]:=if_neg h0;rw[hl];refine Ev.step (fun n=>iTerm h (k:=0) (q:=a2) (by simp) (by simp) Z w0 w1 (by omega) hW.a1 hi hW.il (by omega) (by omega) n) ?_;refine Ev.step (fun n=>iTerm h (k:=1) (j:=j+1) (q:=b2) (by simp) (by simp) Z w0 w1 hb hW.b1 hi (hW.nx (by omega)) (by omega) (by omega) n) (Ev.succ ?_);simp only[qbi];refine Ev.ff Z (Ev.now ?_);unfold rowS;rw[Int.mul_add,←jZ,←jZ,Int.add_assoc]
  rfl
def sumS (t:qx)(i j:Nat)(a1 b1 a2 b2:Int):Int:=a1*rowS t j a2 b2 i+b1*rowS t j a2 b2 (i+1)
theorem rowT {t:qx}(h:TbOk t){i j:Nat}{w a2 b2:Int}(w0:0≤w)(w1:w≤100000)(hW:Wt t.Bb j a2 b2):-20000000000000000≤w*rowS t j a2 b2 i∧w*rowS t j a2 b2 i≤20000000000000000:=by
 have ha:=hW.a0;have hb:=hW.b0;have ha1:=hW.a1;have hb1:=hW.b1;have h1:=qt5 h (i:=i) (j:=j) (a2:=a2) (b2:=b2) (by omega) hb;have h2:=mulA (x:=w) (y:=rowS t j a2 b2 i) (Y:=200000000000) w0 (by omega) (by omega);omega
theorem qAb {t:qx}(h:TbOk t)(sl ld:Int):∃ S D:Int,0<D∧S≤D*1000000∧-(D*1000000)≤S∧-9000000000000000000≤S∧S≤9000000000000000000∧((∀ k,0≤at0 t.Ba k)→0≤S) ∧
  ∀ mode,Ev (fun n=>qh7 n t sl ld mode) (divI S D mode)∧Ev (fun n=>qea n t sl ld mode) (divI S D mode):=by
 obtain⟨i,a1,b1,W1,p1,q1⟩:=qsg h.s sl;obtain⟨j,a2,b2,W2,p2,q2⟩:=qsg h.l ld;have ha1:=W1.a0;have hb1:=W1.b0;have ha2:=W2.a0;have hb2:=W2.b0;have ua1:=W1.a1;have ub1:=W1.b1;have ua2:=W2.a1;have ub2:=W2.b1;have r1:=rowT h (i:=i) (w:=a1) (by omega) ua1 W2;have r2:=rowT h (i:=i+1) (w:=b1) hb1 ub1 W2;have x1:=qt5 h (i:=i) (j:=j) (a2:=a2) (b2:=b2) (by omega) hb2;have x2:=qt5 h (i:=i+1) (j:=j) (a2:=a2) (b2:=b2) (by omega) hb2;have y1:=mulA (x:=a1) (y:=rowS t j a2 b2 i) (Y:=(a2+b2)*1000000) (by omega) x1.1 x1.2;have y2:=mulA (x:=b1) (y:=rowS t j a2 b2 (i+1)) (Y:=(a2+b2)*1000000) hb1 x2.1 x2.2;have eD:a1*((a2+b2)*1000000)+b1*((a2+b2)*1000000)=(a1+b1)*(a2+b2)*1000000:=by rw[←Int.add_mul,jZ]
 have D0:0<(a1+b1)*(a2+b2):=Int.mul_pos (by omega) (by omega);have D1:(a1+b1)*(a2+b2)≤200000*200000:=Jc (by omega) (by omega) (by omega) (by omega);refine⟨sumS t i j a1 b1 a2 b2,(a1+b1)*(a2+b2),D0,by unfold sumS;omega,by unfold sumS;omega,by unfold sumS;omega,by unfold sumS;omega,fun hv=>?_,fun mode=>⟨?_,?_⟩⟩
 ·have hr:∀ i,0≤rowS t j a2 b2 i:=fun i=>Int.add_nonneg (jT (by omega) (hv _)) (jT hb2 (hv _));exact Int.add_nonneg (jT (by omega) (hr _)) (jT hb1 (hr _))
 ·have hL:Ev (fun n=>qeo t (i:Int) a1 b1 (j:Int) a2 b2 n 0 0) (sumS t i j a1 b1 a2 b2,2):=by
   refine Ev.succ ?_;simp only[qeo];refine Ev.tt Z (Ev.bind (sRow h (c:=0) (w:=a1) (by omega) Z (by omega) ua1 (fun _=>W1.il) W2 (by omega) (by omega)) ?_);refine Ev.succ ?_;simp only[qeo];refine Ev.tt Z (Ev.bind (sRow h (c:=1) (w:=b1) (by omega) Z hb1 ub1 W1.nx W2 (by rw[Jh];omega) (by rw[Jh];omega)) ?_);refine Ev.succ ?_;simp only[qeo];refine Ev.ff Z (Ev.now ?_);unfold sumS;rw[Int.zero_add,Jh]
   rfl
  unfold qh7;refine Ev.bind p1 (Ev.bind p2 (Ev.bind hL ?_));show Ev (fun n=>(qcL n (sumS t i j a1 b1 a2 b2) (W64 (W64 (a1+b1)*W64 (a2+b2))) mode).bind fun r9=>V r9) _;rw[wO (a1+b1),wO (a2+b2),wO ((a1+b1)*(a2+b2))];exact Ev.bind ⟨0,fun n _=>qlH D0 (by unfold sumS;omega) (by unfold sumS;omega)⟩ .done
 ·have hL:Ev (fun n=>qbj t (wtL i a1 b1) (wtL j a2 b2) n 0 0) (sumS t i j a1 b1 a2 b2,((wtL i a1 b1).length:Int)):=by
   by_cases h0:b1=0
   ·have h1:=W1.one h0;subst h0 h1;have hl:wtL i 1 0=[⟨(i:Int),1⟩]:=if_pos Z;rw[hl];refine Ev.succ ?_;simp only[qbj];refine Ev.tt Z (Ev.bind (Ev.now Z) (Ev.bind (iRow h (i:=i) (w:=1) (by omega) (by omega) W1.il W2 (by omega) (by omega)) (Ev.succ ?_)));simp only[qbj];refine Ev.ff Z (Ev.now ?_);unfold sumS;rw[Int.zero_add,Int.zero_mul,Ji]
    rfl
   ·have hl:wtL i a1 b1=[⟨(i:Int),a1⟩,⟨((i+1:Nat):Int),b1⟩]:=if_neg h0;rw[hl];refine Ev.succ ?_;simp only[qbj];refine Ev.tt Z (Ev.bind (Ev.now Z) (Ev.bind (iRow h (i:=i) (w:=a1) (by omega) ua1 W1.il W2 (by omega) (by omega)) (Ev.succ ?_)));simp only[qbj];refine Ev.tt Z (Ev.bind (Ev.now Z) (Ev.bind (iRow h (i:=i+1) (w:=b1) hb1 ub1 (W1.nx (by omega)) W2 (by omega) (by omega)) (Ev.succ ?_)));simp only[qbj];refine Ev.ff Z (Ev.now ?_);unfold sumS;rw[Int.zero_add]
    rfl
  unfold qea;refine Ev.bind q1 (Ev.bind q2 (Ev.bind hL ?_));show Ev (fun n=>(qfK n (sumS t i j a1 b1 a2 b2) (W64 ((a1+b1)*(a2+b2))) mode).bind fun r9=>V r9) _;rw[wO ((a1+b1)*(a2+b2))];exact Ev.bind ⟨0,fun n _=>(qux (m:=0)).trans (qlH D0 (by unfold sumS;omega) (by unfold sumS;omega))⟩ .done
end Go.Fw


namespace Go.Fw
open Go
set_option maxRecDepth 100000
theorem qyh {b:qe}(h:blockB b=true){j:Nat}(hj:j<(places b.Aa).length){n:Nat}:qms n b.Ar b.Aa (toSp (gt (places b.Aa) j))=V (capJ b j):=by
 have hd:=qaA h;unfold capJ pinCap;rcases qmF hj with⟨i,k,hi,hk,_,e⟩|⟨i,hi,_,e⟩
 ·rw[e];obtain⟨⟨c0,c1⟩,hn,_⟩:=qim hd hi;unfold place1 cellAt toSp;simp only[qms,show decide ((i:Int)<0)=false by simp,cond_false,qC hi,jd,qfW c0 c1,jn,qC (show k<(gt b.Ar.Ap (gt b.Aa.Ab i).Bo.toNat).Av.length by omega)]
 ·rw[e];rfl
theorem qrq {b:qe}(h:blockB b=true){i:Nat}(hi:i<b.Af.length):Ev (fun n=>qiI n b (i:Int)) (loadsL b i):=by
 have hw:=qbF h hi;have hs:=qai (qaA h);have hlo:=hw.lo;have hhi:=hw.hi;have hcap:=hw.cap;have hsm:=qh9 h (i:=i);have e1:Ev (fun n=>qdy b (gt b.Af i) ((places b.Aa).map toSp) (skL b i) n (gt b.Af i).Bq 0) (ldA b (gt b.Af i) (skL b i) (skL b i).length,((skL b i).length:Int)):=by
  refine loopF (Lf:=qdy b (gt b.Af i) ((places b.Aa).map toSp) (skL b i)) (S:=ldA b (gt b.Af i) (skL b i)) (len:=(skL b i).length) (fun n=>?_) (fun j hj X hX=>?_)
  ·simp only[qdy,ql (je _),cond_false]
  ·obtain⟨y,hy,ey,_⟩:=qqP hj;have hjs:j<(gt b.Af i).Bg.length:=by rw[hw.snk];exact hj
   have hsn:=hw.sin j hjs;have hln:=qqe (b:=b) (w:=gt b.Af i) (sk:=skL b i) (j:=j);have hp:idx ((places b.Aa).map toSp) (y:Int)=V (toSp (gt (places b.Aa) y)):=by
    refine qan ?_;rw[List.getElem?_map,ji hy,qgv hy];rfl
   have hc:=fun n=>qyh h hy (n:=n);simp only[qdy,qk hj,cond_true,qay hj,ey,jd,qay hjs,qfW hsn.1 (show at0 (gt b.Af i).Bg j<((ldA b (gt b.Af i) (skL b i) j).length:Int) by omega),hp,hc,wS j];have:ldA b (gt b.Af i) (skL b i) (j+1)=setS (ldA b (gt b.Af i) (skL b i) j) (at0 (gt b.Af i).Bg j) (W64 (gt (ldA b (gt b.Af i) (skL b i) j) (at0 (gt b.Af i).Bg j).toNat+capJ b y)):=by
    show addSink _ _ _ _ _=_;unfold addSink;rw[ey,jn]
   rw[this] at hX;exact hX
 have e2:∀ j t,t.length=(gt b.Af i).Ak.length→j<(gt b.Af i).Ak.length→Ev (fun n=>qdD (gt b.Af i) n t (j:Int)) (ldB (gt b.Af i) j t,0):=by
  intro j
  induction j with
  | zero=>
   intro t _ _;refine Ev.succ ?_;show Ev (fun n=>qdD (gt b.Af i) (n+1) t 0) _;unfold qdD;exact Ev.ff Z .done
  | succ j ih=>
   intro t ht hj;have hp:=hw.par (j+1) (by omega) hj;refine Ev.succ ?_;simp only[qdD,show decide (((j+1:Nat):Int) > 0)=true from decide_eq_true (by omega),cond_true,qay hj,jd,qfW hp.1 (show at0 (gt b.Af i).Ak (j+1)<(t.length:Int) by omega),qC (show j+1<t.length by omega),show((j+1:Nat):Int)-1=(j:Int) by omega,qF (show -9223372036854775808≤(j:Int) by omega) (by omega)];exact ih _ (by rw[qdT];exact ht) (by omega)
 unfold qiI qnm;rw[qC hi];simp only[jd,qcS (show([]:List Int).length+(gt b.Af i).Bq.length≤2147483648 by simp;omega),List.nil_append];refine Ev.bind (qi7 hs) (Ev.bind (qox hs) (Ev.bind e1 ?_));rw[qdU (show(gt b.Af i).Bq.length≤9223372036854775807 by omega),show((gt b.Af i).Bq.length:Int)-1=(((gt b.Af i).Ak.length-1:Nat):Int) by omega];exact Ev.bind (e2 _ _ (by rw[qqe];exact hcap) (by omega)) .done
theorem qqi {b:qe}(h:blockB b=true){i:Nat}(hi:i<b.Af.length):Ev (fun n=>qhE n b (i:Int)) (delaysL b i):=by
 have hw:=qbF h hi;have hlo:=hw.lo;have hhi:=hw.hi;have hres:=hw.res;have l1:=qnu h hi;have main:∀ d k,k+1+d=(gt b.Af i).Ak.length→Ev (fun n=>qd7 (gt b.Af i) (loadsL b i) n (dlL (gt b.Af i) (loadsL b i) k) ((k+1:Nat):Int)) (delaysL b i,((loadsL b i).length:Int)):=by
  intro d
  induction d with
  | zero=>
   intro k hk;refine Ev.succ ?_;simp only[qd7,ql (show(loadsL b i).length≤k+1 by omega),cond_false];refine Ev.now ?_;rw[l1,←hk];unfold delaysL;rw[←hk]
   rfl
  | succ d ih=>
   intro k hk;have hp:=hw.par (k+1) (by omega) (by omega);have hlen:=qp8 (w:=gt b.Af i) (ld:=loadsL b i) (k:=k);refine Ev.succ ?_;simp only[qd7,qk (show k+1<(loadsL b i).length by omega),cond_true,qay (show k+1<(gt b.Af i).Ak.length by omega),jd,qfW hp.1 (show at0 (gt b.Af i).Ak (k+1)<((dlL (gt b.Af i) (loadsL b i) k).length:Int) by omega),
    qay (show k+1<(gt b.Af i).Bt.length by omega),qC (show k+1<(loadsL b i).length by omega),qc9 (show k+1<9223372036854775807 by omega)]
   rw[qcS (by rw[hlen,jt];omega)];exact ih (k+1) (by omega)
 unfold qhE;rw[qC hi];simp only[jd];refine Ev.bind (qrq h hi) ?_;exact Ev.bind (main ((gt b.Af i).Ak.length-1) 0 (by omega)) .done
theorem qq8 {b:qe}(h:blockB b=true){i:Nat}(hi:i<b.Af.length){mode:Int}:Ev (fun n=>qgG n b (i:Int) mode) ((exactL b i).map fun x=>divI x 1000 mode):=by
 have hw:=qbF h hi;have hsl:(gt b.Af i).Bg.length≤78:=by rw[hw.snk];exact qh9 h
 have hdl:=qoa h hi;have e3:Ev (fun n=>qbS b (i:Int) mode (delaysL b i) n ([]:List Int) 0) ((exactL b i).map (fun x=>divI x 1000 mode),((gt b.Af i).Bg.length:Int)):=by
  refine loopF (Lf:=qbS b (i:Int) mode (delaysL b i)) (S:=fun j=>(((gt b.Af i).Bg.take j).map fun s=>gt (delaysL b i) s.toNat).map fun x=>divI x 1000 mode) (len:=(gt b.Af i).Bg.length) (fun n=>?_) (fun j hj X hX=>?_)
  ·simp only[qbS,qC hi,jd,ql (je _),cond_false,jG];rfl
  ·have hsn:=hw.sin j hj;have hrg:=qsC h hi hj;have eg:gt (exactL b i) j=gt (delaysL b i) (at0 (gt b.Af i).Bg j).toNat:=by
    unfold exactL;rw[qgv (by rw[jy];exact hj),List.getElem_map,qlM hj]
   rw[eg] at hrg;have hdv:=fun n=>qlH (n:=n) (a:=gt (delaysL b i) (at0 (gt b.Af i).Bg j).toNat) (b:=1000) (mode:=mode) (by omega) (by omega) (by omega);simp only[qbS,qC hi,jd,qk hj,cond_true,qay hj,qfW hsn.1 (show at0 (gt b.Af i).Bg j<((delaysL b i).length:Int) by omega),hdv,wS j];rw[qcS (by rw[jy,jy,jP,jt];omega)];have:(((gt b.Af i).Bg.take j).map (fun s=>gt (delaysL b i) s.toNat)).map (fun x=>divI x 1000 mode)++[divI (gt (delaysL b i) (at0 (gt b.Af i).Bg j).toNat) 1000 mode]=(((gt b.Af i).Bg.take (j+1)).map fun s=>gt (delaysL b i) s.toNat).map fun x=>divI x 1000 mode:=by
    rw[jB hj,jN,jN,qlM hj];rfl
   rw[this];exact hX
 unfold qgG;exact Ev.bind (qqi h hi) (Ev.bind e3 .done)
end Go.Fw


namespace Go.Fw
open Go
set_option maxRecDepth 100000
instance:Inhabited qf:=⟨⟨0,⟨0,0⟩,⟨0,0⟩⟩⟩
instance:Inhabited qc:=⟨⟨0,0⟩⟩
def cornerB (c:qz):Bool:=(inI c.Bc 100 5000&&(inI c.Be 100 5000&&(inI c.Bd 100 5000&&inI c.Bh 100 5000)))&&(nameB c.Az&&(decide (c.Bc≤c.Be)&&decide (c.Bd≤c.Bh)))
theorem qnl {c:qz}(h:okS c.Az):Ev (fun n=>qfV n c) (cornerB c):=by
 have hL:Ev (fun n=>qb8 c n 0) (bif inI c.Bc 100 5000&&(inI c.Be 100 5000&&(inI c.Bd 100 5000&&inI c.Bh 100 5000)) then .nxt 4 else .ret false):=by
  refine Ev.succ ?_;simp only[qb8,qcV,show idx ([c.Bc,c.Be,c.Bd,c.Bh]:List Int) 0=V c.Bc from rfl,jd];refine Ev.tt Z ?_;cases inI c.Bc 100 5000
  ·exact .done
  refine Ev.ff Z (Ev.succ ?_);simp only[qb8,qcV,show W64 (0+1)=1 from rfl,show idx ([c.Bc,c.Be,c.Bd,c.Bh]:List Int) 1=V c.Be from rfl,jd];refine Ev.tt Z ?_;cases inI c.Be 100 5000
  ·exact .done
  refine Ev.ff Z (Ev.succ ?_);simp only[qb8,qcV,show W64 (1+1)=2 from rfl,show idx ([c.Bc,c.Be,c.Bd,c.Bh]:List Int) 2=V c.Bd from rfl,jd];refine Ev.tt Z ?_;cases inI c.Bd 100 5000
  ·exact .done
  refine Ev.ff Z (Ev.succ ?_);simp only[qb8,qcV,show W64 (2+1)=3 from rfl,show idx ([c.Bc,c.Be,c.Bd,c.Bh]:List Int) 3=V c.Bh from rfl,jd];refine Ev.tt Z ?_;cases inI c.Bh 100 5000
  ·exact .done
  refine Ev.ff Z (Ev.succ ?_);simp only[qb8];exact Ev.ff Z .done
 unfold qfV cornerB;refine Ev.bind hL ?_;cases inI c.Bc 100 5000&&(inI c.Be 100 5000&&(inI c.Bd 100 5000&&inI c.Bh 100 5000))
 ·exact .done
 ·refine Ev.bind (qno h) ?_;cases nameB c.Az
  ·exact .done
  ·cases decide (c.Bc≤c.Be)<;>exact .done
theorem qti {n:Nat}{a b:Int}:qgX n a b=V (decide (a ≥ 100)&&(decide (a≤b)&&decide (b≤5000))):=by
 unfold qgX;cases decide (a ≥ 100)
 ·rfl
 ·cases decide (a≤b)<;>rfl
theorem qrk {c:qz}(h:okS c.Az):Ev (fun n=>qfY n c) (cornerB c):=by
 have e:cornerB c=(nameB c.Az&&((decide (c.Bc ≥ 100)&&(decide (c.Bc≤c.Be)&&decide (c.Be≤5000)))&&(decide (c.Bd ≥ 100)&&(decide (c.Bd≤c.Bh)&&decide (c.Bh≤5000))))):=by
  unfold cornerB;rw[jk];simp only[jf,qa3,decide_eq_true_eq];constructor
  ·rintro⟨⟨h1,h2,h3,h4⟩,h5,h6,h7⟩;refine⟨h5,⟨?_,?_,?_⟩,?_,?_,?_⟩<;>omega
  ·rintro⟨h5,⟨h1,h2,h3⟩,h4,h6,h7⟩;refine⟨⟨⟨?_,?_⟩,⟨?_,?_⟩,⟨?_,?_⟩,?_,?_⟩,h5,?_,?_⟩<;>omega
 rw[e];unfold qfY;simp only[qqL h,qti,jd];cases nameB c.Az
 ·exact .done
 ·cases decide (c.Bc ≥ 100)&&(decide (c.Bc≤c.Be)&&decide (c.Be≤5000))<;>exact .done
def spanB (s:qc):Bool:=inI s.Am (-1000000000) 1000000000&&(inI s.Au (-1000000000) 1000000000&&decide (s.Am≤s.Au))
def slewB (s:qc):Bool:=decide (s.Am ≥ 0)&&(decide (s.Am≤s.Au)&&decide (s.Au≤1000000))
theorem qsJ {n:Nat}{s:qc}:qjg n s=V (spanB s):=by
 unfold qjg spanB;simp only[qcV,jd];cases inI s.Am (-1000000000) 1000000000
 ·rfl
 ·cases inI s.Au (-1000000000) 1000000000<;>rfl
theorem qqR {n:Nat}{s:qc}:qh5 n s=V (spanB s):=by
 unfold qh5 qmy spanB;simp only[qdB,jd];cases inI s.Am (-1000000000) 1000000000
 ·rfl
 ·cases inI s.Au (-1000000000) 1000000000<;>rfl
theorem qvW {n:Nat}{s:qc}:qiJ n s=V (slewB s):=by
 unfold qiJ slewB;cases decide (s.Am ≥ 0)
 ·rfl
 ·cases decide (s.Am≤s.Au)<;>rfl
theorem quZ {n:Nat}{s:qc}:qiL n s=V (slewB s):=by
 have e:slewB s=(spanB s&&(inI s.Am 0 1000000&&inI s.Au 0 1000000)):=by
  unfold slewB spanB;rw[jk];simp only[jf,qa3,decide_eq_true_eq];constructor
  ·rintro⟨h1,h2,h3⟩;refine⟨⟨⟨?_,?_⟩,⟨?_,?_⟩,?_⟩,⟨?_,?_⟩,?_,?_⟩<;>omega
  ·rintro⟨⟨h1,h2,h3⟩,h4,h5⟩;refine⟨?_,?_,?_⟩<;>omega
 rw[e];unfold qiL qmi;simp only[qqR,qdB,jd];cases spanB s
 ·rfl
 ·cases inI s.Am 0 1000000<;>rfl
end Go.Fw
