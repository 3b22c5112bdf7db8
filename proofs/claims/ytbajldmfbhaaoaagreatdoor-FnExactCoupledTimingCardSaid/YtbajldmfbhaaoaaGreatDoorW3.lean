/- By a program of mine (gen.py): for each function a plain function and the proof that the code computes it. -/
import Derived.Test.YtbajldmfbhaaoaaGreatDoorB9
import Derived.Test.YtbajldmfbhaaoaaGreatDoorFw38
open Option renaming bind_some → jd, some → V, none → U
open Nat renaming le_refl → je, le_of_ble_eq_true → jp, mul_le_mul_right → js, lt_of_lt_of_le → jw, succ_mul → jO, zero_add → jW, le_trans → Jb, add_zero → Jh
open Bool renaming and_eq_true → jf, eq_iff_iff → jk, true_and → jx, not_eq_true' → jF, not_true → jV, false_or → Jj
open Go.Result renaming andThen_ok → jg
open List renaming length_append → jh, getElem?_eq_getElem → ji, mem_cons_of_mem → jo, getElem_mem → jq, append_assoc → jr, length_singleton → jt, mem_cons_self → ju, getElem?_append_left → jv, length_map → jy, getElem?_take → jz, take_succ_eq_append_getElem → jB, getElem?_append_right → jC, getD_eq_getElem?_getD → jD, take_length → jG, getElem?_toArray → jH, all_eq_true → jI, size_toArray → jJ, length_replicate → jK, eq_nil_of_length_eq_zero → jL, drop_eq_getElem_cons → jM, map_append → jN, length_take → jP, not_mem_nil → jQ, getElem_of_mem → jR, mem_append_left → jS, append_nil → jU, mem_of_getElem? → jX, mem_cons → Ja, range_succ → Jd, length_cons → Je, ext_getElem → Jf, map_cons → Jg
open Go.Sem renaming run_bind → jj, run_pure → jm
open Int renaming toNat_natCast → jn, tdiv_eq_ediv_of_nonneg → jE, mul_nonneg → jT, le_refl → jY, mul_assoc → jZ, mul_le_mul → Jc, add_zero → Ji
open Array renaming getElem?_append_left → jA

namespace Go.Fw
open Go Go.Proofs Go.Proofs.Tryz
open Go.RowKit (Below)
set_option maxRecDepth 100000
set_option maxHeartbeats 1600000
variable {n:Nat}{w:World}{cs1 cs2 cs3 cs4 cs5 cs6 cs7 cs8 cs9:List Value}
def qfO (_:Nat)(list:(List qv))(a_from:Int)(a_to:Int)(a:Int)(b:Int)(kind:Int)(index:Int):Option (List qv):=
 (appS list ([(⟨W64 ((W64 (2*a_from))+a),W64 ((W64 (2*a_to))+b),kind,index⟩:qv)]:List qv)).bind fun c=>
 V c
theorem qf6 {n:Nat}{i w:World}{F:List Ch}{list:(List qv)}{a_from:Int}{a_to:Int}{a:Int}{b:Int}{kind:Int}{index:Int}{S1:Nat→Prop}{g:Option Addr}{d f:Nat}(h:SH i w (Ch.own S1 (list:(List qv)) [.slice g d f]::F))  {r:(List qv)}(hF:qfO n list a_from a_to a b kind index=V r):RetT prog 138 [.slice g d f,.int .i64 a_from,.int .i64 a_to,.int .i64 a,.int .i64 b,.int .i64 kind,.int .i64 index] w i F r:=by
 refine qrl func138 Z (m:=29) Z Z ?_;obtain rfl:=(h.sl 0 Z).2;refine X0 17 Z (r_v (qaf qa [0,1,2,3] [.tmp 19,.tmp 23,.tmp 24,.tmp 25] Z Z Z Z Z Z Z Z) Z (qG qa [.tmp 26] _ ([(⟨W64 ((W64 (2*a_from))+a),W64 ((W64 (2*a_to))+b),kind,index⟩:qv)]:List qv) h Z Z Z Z Z Z Z Z Z ⟨(qcm (⟨W64 ((W64 (2*a_from))+a),W64 ((W64 (2*a_to))+b),kind,index⟩:qv)),trivial⟩ Z fun _ _ _ h=>?_));obtain⟨_,c,hF⟩:=qd hF;obtain⟨k,c⟩:=qaD c;refine qcs qa 1 h Z (h.sl 0 Z).1 (h.sl 0 Z).2 Z Z Z Z Z Z Z Z Z k c Z fun _ _ _ _ h=>X0 2 Z ?_;obtain rfl:=qb hF;replace h:=h.pickT 2 [1] Z;exact qzv qa h ⟨rfl,trivial⟩
def qbf (arc:qL)(a_from:Int)(a_to:Int)(index:Int)(a:Int):Nat→(List qv)→Int→Option ((List qv)×Int)
 | 0,_,_=>U
 | n+1,c,b=>
  bif decide (b≤1) then
   bif (arc.Ay==1) then
    (
     bif (arc.Bl==3) then V true else
     V ((arc.Bl==1)==(a==b))).bind fun b1=>
    bif b1 then
     (qfO n c a_from a_to a b 1 index).bind fun d=>
     qbf arc a_from a_to index a n d (W64 (b+1))
    else
     qbf arc a_from a_to index a n c (W64 (b+1))
   else
    bif (arc.Ay==2) then
     bif (a==0) then
      (qfO n c a_from a_to a b 1 index).bind fun f=>
      qbf arc a_from a_to index a n f (W64 (b+1))
     else
      qbf arc a_from a_to index a n c (W64 (b+1))
    else
     bif (arc.Ay==3) then
      bif (a==1) then
       (qfO n c a_from a_to a b 1 index).bind fun g=>
       qbf arc a_from a_to index a n g (W64 (b+1))
      else
       qbf arc a_from a_to index a n c (W64 (b+1))
     else
      qbf arc a_from a_to index a n c (W64 (b+1))
  else
   V (c,b)
def qe5 (arc:qL)(a_from:Int)(a_to:Int)(index:Int):Nat→(List qv)→Int→Option ((List qv)×Int)
 | 0,_,_=>U
 | n+1,b,a=>
  bif decide (a≤1) then
   (qbf arc a_from a_to index a n b 0).bind fun o=>match o with
   | (c,_)=>
    qe5 arc a_from a_to index n c (W64 (a+1))
  else
   V (b,a)
def qmj (n:Nat)(list:(List qv))(arc:qL)(a_from:Int)(a_to:Int)(index:Int):Option (List qv):=
 (qe5 arc a_from a_to index n list 0).bind fun o=>match o with
 | (a,_)=>
  V a
theorem qrv {n:Nat}{d w:World}{F:List Ch}{list:(List qv)}{arc:qL}{a_from:Int}{a_to:Int}{index:Int}{S1:Nat→Prop}{R:Option Addr}{o O:Nat}(h:SH d w (Ch.own S1 (list:(List qv)) [.slice R o O]::F)){cs1:List Value}(z:GoT.R d (old d) arc cs1){r:(List qv)}(hF:qmj n list arc a_from a_to index=V r):RetT prog 135 [.slice R o O,GoT.v qL cs1,.int .i64 a_from,.int .i64 a_to,.int .i64 index] w d F r:=by
 obtain⟨K,D,L,H,rfl,_,_⟩:=qaq z;refine qrl func135 Z (m:=55) Z Z ?_;obtain rfl:=(h.sl 0 Z).2;refine zSR (qw h Z Z fun _ a h=>X0 7 Z ?_);obtain⟨S,hF,x⟩:=qd hF;refine qn (rL (fun m e w'=>∃(S2:Nat→Prop) (M:Option Addr) (b:Nat) (I:Nat) (N:(List qv)) (f:Int),qe5 arc a_from a_to index m N f=V S∧e=[(0,.slice M b I),(2,.int .i64 a_from),(3,.int .i64 a_to),(4,.int .i64 index),(6,.pointer (V ⟨a,0,U⟩)),(11,.int .i64 f)]∧SH d w' (Ch.box a (qh3 arc K L D H) 138::Ch.own S2 (N:List qv) [.slice M b I]::F)) n ⟨_,_,_,_,_,_,hF,rfl,h⟩ Z ?_);rintro J _ _ ⟨S2,M,b,I,N,f,hF,rfl,h⟩;obtain rfl:=(h.sl 1 Z).2;rcases J with _|J
 ·cases hF
 refine X0 6 Z (qi Z hF ?_ ?_)<;>intro hF
 ·refine X0 7 Z ?_;obtain⟨Q,hF,y⟩:=qd hF;refine qn (rL (fun m e w'=>∃(v:Nat→Prop) (p:Option Addr) (c:Nat) (l:Nat) (g:(List qv)) (s:Int),qbf arc a_from a_to index f m g s=V Q∧e=[(0,.slice p c l),(2,.int .i64 a_from),(3,.int .i64 a_to),(4,.int .i64 index),(6,.pointer (V ⟨a,0,U⟩)),(11,.int .i64 f),(12,.int .i64 s)]∧SH d w' (Ch.box a (qh3 arc K L D H) 138::Ch.own v (g:List qv) [.slice p c l]::F)) J ⟨_,_,_,_,_,_,hF,rfl,h⟩ Z ?_);rintro P _ _ ⟨v,p,c,l,g,s,hF,rfl,h⟩;obtain rfl:=(h.sl 1 Z).2;rcases P with _|P
  ·cases hF
  refine X0 6 Z (qi Z hF ?_ ?_)<;>intro hF
  ·refine X1 19 0 h Z (qi Z hF ?_ ?_)<;>intro hF
   ·obtain⟨u,k,_,hF,i⟩:=bindE hF;refine qaT (fun e w'=>∃(b1:Bool),u b1=V Q∧e=[(0,.slice p g.length l),(2,.int .i64 a_from),(3,.int .i64 a_to),(4,.int .i64 index),(6,.pointer (V ⟨a,0,U⟩)),(11,.int .i64 f),(12,.int .i64 s),(13,.bool b1)]∧SH d w' (Ch.box a (qh3 arc K L D H) 138::Ch.own v (g:List qv) [.slice p g.length l]::F)) ?_ ?_
    ·refine X1 5 0 h Z (qj (t:=29) hF Z ?_ ?_)<;>intro hF
     ·refine X0 10 Z ?_;obtain rfl:=qb hF;exact rG ⟨_,i,rfl,h⟩ Z
     refine X1 17 0 h Z ?_;obtain rfl:=qb hF;exact rG ⟨_,i,rfl,h⟩ Z
    rintro _ _ ⟨b1,hF,rfl,h⟩;subst k;refine X0 5 Z (qi Z hF ?_ ?_)<;>intro hF
    ·refine X0 7 Z ?_;replace h:=h.pickT 2 [1,0] Z;obtain⟨_,A,hF⟩:=qd hF;refine qny (cB 138 Z) (qf6 h A) Z Z Z Z fun _ _ _ _ h=>X0 8 Z ?_;replace h:=h.pickT 2 [1,0] Z;exact rK ⟨_,_,_,_,_,_,hF,rfl,h⟩ Z
    exact X0 7 Z (rK ⟨_,_,_,_,_,_,hF,rfl,h⟩ Z)
   refine X0 5 Z (qi Z hF ?_ ?_)<;>intro hF
   ·refine X0 10 Z (qi Z hF ?_ ?_)<;>intro hF
    ·refine X0 7 Z ?_;replace h:=h.pickT 2 [1,0] Z;obtain⟨_,B,hF⟩:=qd hF;refine qny (cB 138 Z) (qf6 h B) Z Z Z Z fun _ _ _ _ h=>X0 8 Z ?_;replace h:=h.pickT 2 [1,0] Z;exact rK ⟨_,_,_,_,_,_,hF,rfl,h⟩ Z
    exact X0 7 Z (rK ⟨_,_,_,_,_,_,hF,rfl,h⟩ Z)
   refine X0 5 Z (qi Z hF ?_ ?_)<;>intro hF
   ·refine X0 10 Z (qi Z hF ?_ ?_)<;>intro hF
    ·refine X0 7 Z ?_;replace h:=h.pickT 2 [1,0] Z;obtain⟨_,C,hF⟩:=qd hF;refine qny (cB 138 Z) (qf6 h C) Z Z Z Z fun _ _ _ _ h=>X0 8 Z ?_;replace h:=h.pickT 2 [1,0] Z;exact rK ⟨_,_,_,_,_,_,hF,rfl,h⟩ Z
    exact X0 7 Z (rK ⟨_,_,_,_,_,_,hF,rfl,h⟩ Z)
   exact X0 6 Z (qbL Z Z (X0 7 Z (rK ⟨_,_,_,_,_,_,hF,rfl,h⟩ Z)))
  refine qr Z ?_;obtain rfl:=qb hF;replace hF:=y;exact X0 6 Z (rK ⟨_,_,_,_,_,_,hF,rfl,h⟩ Z)
 refine qr Z ?_;obtain rfl:=qb hF;replace hF:=x;refine X0 5 Z ?_;obtain rfl:=qb hF;replace h:=h.pickT 2 [1] Z;exact qzv qa h ⟨rfl,trivial⟩
def qem (a_instance:Int)(pin:Int)(b:(List Tl05Place)):Nat→Int→Option (Flow Int Int)
 | 0,_=>U
 | n+1,a=>
  bif decide (a<(b.length:Int)) then
   (idx b a).bind fun c=>
   bif (c.instance_==a_instance) then
    (idx b a).bind fun d=>
    bif (d.pin==pin) then V (.ret a) else
    qem a_instance pin b n (W64 (a+1))
   else
    qem a_instance pin b n (W64 (a+1))
  else
   V (.nxt a)
def qjy (n:Nat)(d:qg)(a_instance:Int)(pin:Int):Option Int:=
 (qcr n d).bind fun a=>
 (qem a_instance pin a n 0).bind fun o=>match o with
 | .ret r=>V r
 | .nxt _=>
  V (-1)
theorem qnX {d:qg}{a_instance:Int}{pin:Int}(b:Ro w d cs1){r:Int}(F:qjy n d a_instance pin=V r):RetV prog 136 [GoT.v qg cs1,.int .i64 a_instance,.int .i64 pin] w r:=by
 obtain⟨_,_,_,_,_,_,rfl,_,_,_⟩:=qaI b;refine zV 34 func136 Z fun h=>zSR (qw h Z Z fun _ _ h=>X1 5 0 h Z (zcL h F (qch (h.old b)) Z fun g _ S1 A y h F=>X0 7 Z ?_));obtain⟨B,F,a⟩:=qd F;refine qn ?_;replace h:=h.pick [0] Z;refine rL (fun m e w'=>∃(x:Int),qem a_instance pin g m x=V B∧e=[(1,.int .i64 a_instance),(2,.int .i64 pin),(7,.slice A g.length y),(8,.int .i64 x)]∧SH w w' [Ch.own S1 (g:List Tl05Place) [.slice A g.length y]]) n ⟨_,F,rfl,h⟩ Z ?_;rintro z _ _ ⟨x,F,rfl,h⟩;rcases z with _|z
 ·cases F
 refine X0 8 Z (qi Z F ?_ ?_)<;>intro F
 ·refine X0 7 Z ?_;obtain⟨_,_,F,c,_,_,_,_,l,p,u,i⟩:=(h.sl 0 Z).1.ix F;obtain rfl:=qb1 u;refine zx l p ⟨c.1,qD c.2.1 (h.sl 0 Z).2⟩ Z (zp1 Z (zc 0 i Z (zp3 Z (qj (t:=24) F Z ?_ ?_))))<;>intro F
  ·refine X0 5 Z ?_;obtain⟨_,_,F,f,_,_,_,_,o,s,v,k⟩:=(h.sl 0 Z).1.ix F;obtain rfl:=qb1 v;refine zx o s ⟨f.1,qD f.2.1 (h.sl 0 Z).2⟩ Z (X0 3 Z (zc 1 k Z (X0 6 Z (qi Z F ?_ ?_))))<;>intro F
   ·refine X0 5 Z ?_;obtain rfl:=qb F;replace F:=a;exact ri h F Z
   exact X0 7 Z (rK ⟨_,F,rfl,h⟩ Z)
  exact X0 9 Z (qbL Z Z (X0 7 Z (rK ⟨_,F,rfl,h⟩ Z)))
 refine qr Z ?_;obtain rfl:=qb F;replace F:=a;exact X0 4 Z (ri h F Z)
def qc4 (net:Int)(b:(List Tl05Place)):Nat→Int→Option (Flow Int Int)
 | 0,_=>U
 | n+1,a=>
  bif decide (a<(b.length:Int)) then
   (idx b a).bind fun c=>
   bif (c.net==net) then
    (idx b a).bind fun d=>
    bif d.drives then V (.ret a) else
    qc4 net b n (W64 (a+1))
   else
    qc4 net b n (W64 (a+1))
  else
   V (.nxt a)
def qh0 (n:Nat)(d:qg)(net:Int):Option Int:=
 (qcr n d).bind fun a=>
 (qc4 net a n 0).bind fun o=>match o with
 | .ret r=>V r
 | .nxt _=>
  V (-1)
theorem qmh {d:qg}{net:Int}(b:Ro w d cs1){r:Int}(F:qh0 n d net=V r):RetV prog 137 [GoT.v qg cs1,.int .i64 net] w r:=by
 obtain⟨_,_,_,_,_,_,rfl,_,_,_⟩:=qaI b;refine zV 30 func137 Z fun h=>zSR (qw h Z Z fun _ _ h=>X1 5 0 h Z (zcL h F (qch (h.old b)) Z fun g _ S1 A y h F=>X0 7 Z ?_));obtain⟨B,F,a⟩:=qd F;refine qn ?_;replace h:=h.pick [0] Z;refine rL (fun m e w'=>∃(x:Int),qc4 net g m x=V B∧e=[(1,.int .i64 net),(5,.slice A g.length y),(6,.int .i64 x)]∧SH w w' [Ch.own S1 (g:List Tl05Place) [.slice A g.length y]]) n ⟨_,F,rfl,h⟩ Z ?_;rintro z _ _ ⟨x,F,rfl,h⟩;rcases z with _|z
 ·cases F
 refine X0 8 Z (qi Z F ?_ ?_)<;>intro F
 ·refine X0 7 Z ?_;obtain⟨_,_,F,c,_,_,_,_,l,p,u,i⟩:=(h.sl 0 Z).1.ix F;obtain rfl:=qb1 u;refine zx l p ⟨c.1,qD c.2.1 (h.sl 0 Z).2⟩ Z (zp1 Z (zc 2 i Z (zp3 Z (qj (t:=22) F Z ?_ ?_))))<;>intro F
  ·refine X0 5 Z ?_;obtain⟨_,_,F,f,_,_,_,_,o,s,v,k⟩:=(h.sl 0 Z).1.ix F;obtain rfl:=qb1 v;refine zx o s ⟨f.1,qD f.2.1 (h.sl 0 Z).2⟩ Z (X0 3 Z (zc 3 k Z (X0 2 Z (qi Z F ?_ ?_))))<;>intro F
   ·refine X0 5 Z ?_;obtain rfl:=qb F;replace F:=a;exact ri h F Z
   exact X0 7 Z (rK ⟨_,F,rfl,h⟩ Z)
  exact X0 7 Z (qbL Z Z (X0 7 Z (rK ⟨_,F,rfl,h⟩ Z)))
 refine qr Z ?_;obtain rfl:=qb F;replace F:=a;exact X0 4 Z (ri h F Z)
def qcE (a:qe)(d:Int)(c:qA):Nat→(List qv)→Int→Option ((List qv)×Int)
 | 0,_,_=>U
 | n+1,f,b=>
  bif decide (b<(c.As.length:Int)) then
   (idx c.As b).bind fun k=>
   bif decide (k.Ay≤3) then
    (idx c.As b).bind fun l=>
    (idx c.As b).bind fun m=>
    (idx c.As b).bind fun o=>
    (qjy n (⟨a.Aa.Ab,a.Aa.Ai,a.Aa.Ah⟩:qg) d m.Bf).bind fun g=>
    (qjy n (⟨a.Aa.Ab,a.Aa.Ai,a.Aa.Ah⟩:qg) d o.To).bind fun h=>
    (qmj n f l g h b).bind fun i=>
    qcE a d c n i (W64 (b+1))
   else
    qcE a d c n f (W64 (b+1))
  else
   V (f,b)
def qdw (c:Int)(b:(List Int)):Nat→(List qv)→Int→Option ((List qv)×Int)
 | 0,_,_=>U
 | n+1,d,a=>
  bif decide (a<(b.length:Int)) then
   (idx b a).bind fun h=>
   (qfO n d c h 0 0 2 a).bind fun f=>
   (idx b a).bind fun i=>
   (qfO n f c i 1 1 2 a).bind fun g=>
   qdw c b n g (W64 (a+1))
  else
   V (d,a)
def qdF (a:qe):Nat→(List qv)→Int→Option ((List qv)×Int)
 | 0,_,_=>U
 | n+1,c,b=>
  bif decide (b<(a.Aa.Ai.length:Int)) then
   (qh0 n (⟨a.Aa.Ab,a.Aa.Ai,a.Aa.Ah⟩:qg) b).bind fun d=>
   (qhc n (⟨a.Aa.Ab,a.Aa.Ai,a.Aa.Ah⟩:qg) b).bind fun f=>
   (qdw d f n c 0).bind fun o=>match o with
   | (g,_)=>
    qdF a n g (W64 (b+1))
  else
   V (c,b)
def qdE (a:qe):Nat→(List qv)→Int→Option ((List qv)×Int)
 | 0,_,_=>U
 | n+1,c,b=>
  bif decide (b<(a.Aa.Ab.length:Int)) then
   (idx a.Aa.Ab b).bind fun f=>
   (idx a.Ar.Ap f.Bo).bind fun g=>
   (qcE a b g n c 0).bind fun o=>match o with
   | (d,_)=>
    qdE a n d (W64 (b+1))
  else
   V (c,b)
def qhh (n:Nat)(a:qe):Option (List qv):=
 (qdE a n ([]:List qv) 0).bind fun o=>match o with
 | (b,_)=>
  (qdF a n b 0).bind fun o=>match o with
  | (c,_)=>
   V c
theorem qkb {a:qe}(Y:Ro w a cs1){r:(List qv)}(F:qhh n a=V r):RetV prog 80 [GoT.v qe cs1] w r:=by
 obtain⟨p1,k1,y,u,z,v,A,x,p5,k5,rfl,s1,s2,P,Q,_⟩:=qE Y;refine zV 105 func80 Z fun h=>zSR (qw h Z Z fun _ c h=>X0 4 Z (qG qa [] _ ([]:List qv) h Z Z Z Z Z Z Z Z Z trivial Z fun _ _ _ h=>X1 6 1 h Z (qp qa h Z Z Z fun _ b h=>zs 0 h Z fun _ h=>X0 6 Z ?_)));obtain⟨o1,F,S⟩:=qd F;refine qn (rL (fun m e w'=>∃(S2:Nat→Prop) (p7:Option Addr) (i:Nat) (k6:Nat) (x1:(List qv)) (K:Int),qdE a m x1 K=V o1∧e=[(1,.pointer (V ⟨c,0,U⟩)),(3,.slice p7 i k6),(4,.pointer (V ⟨b,0,U⟩)),(5,.int .i64 K)]∧SH w w' [Ch.box b (qaV a.Aa y z A u v x) 54,Ch.own S2 (x1:List qv) [.slice p7 i k6],Ch.box c (qJ a p1 y z A p5 k1 u v x k5) 57]) n ⟨_,_,_,_,_,_,F,rfl,h⟩ Z ?_);rintro m1 _ _ ⟨S2,p7,i,k6,x1,K,F,rfl,h⟩;obtain rfl:=(h.sl 1 Z).2;rcases m1 with _|m1
 ·cases F
 refine X1 9 0 h Z (qi Z F ?_ ?_)<;>intro F
 ·refine X0 4 Z (rD (Y1 3 2 h Z ?_));refine Y1 2 0 h Z ?_;refine zd1 Z ?_;obtain⟨_,_,F,a9,_,_,_,_,b8,c6,d5,a3⟩:=s2.ix F;obtain⟨_,_,rfl,_⟩:=qW d5;refine zdxe b8 c6 a9 Z (zd1 Z (zdc 1 (a3.below h.below) Z ?_));obtain⟨y2,_,F,b3,_,_,_,_,b9,c7,d6,a4⟩:=s1.ix F;obtain⟨_,_,p10,k9,_,_,rfl,_,R,_⟩:=qal d6;refine zdxe b9 c7 b3 Z (zd1 Z (zdc 3 (a4.below h.below) Z (zd1 Z (dN h fun _ h=>X0 4 Z ?_))));obtain⟨o2,F,T⟩:=qd F;refine qn (rL (fun m e w'=>∃(S3:Nat→Prop) (p:Option Addr) (k:Nat) (d:Nat) (x2:(List qv)) (i2:Int),qcE a K y2 m x2 i2=V o2∧e=[(1,.pointer (V ⟨c,0,U⟩)),(3,.slice p k d),(4,.pointer (V ⟨b,0,U⟩)),(5,.int .i64 K),(6,.slice p10 y2.As.length k9),(7,.int .i64 i2)]∧SH w w' [Ch.box b (qaV a.Aa y z A u v x) 54,Ch.own S3 (x2:List qv) [.slice p k d],Ch.box c (qJ a p1 y z A p5 k1 u v x k5) 57]) m1 ⟨_,_,_,_,_,_,F,rfl,h⟩ Z ?_);rintro m2 _ _ ⟨S3,p,k,d,x2,i2,F,rfl,h⟩;obtain rfl:=(h.sl 1 Z).2;rcases m2 with _|m2
  ·cases F
  refine X0 8 Z (qi Z F ?_ ?_)<;>intro F
  ·refine X0 7 Z ?_;obtain⟨_,_,F,b4,_,_,_,_,c0,c8,d7,a5⟩:=R.ix F;obtain⟨_,_,_,_,rfl,_,_⟩:=qaq d7;refine zxe c0 c8 b4 Z (zp1 Z (zc 0 (a5.below h.below) Z (X0 2 Z (qi Z F ?_ ?_))))<;>intro F
   ·refine rA [] [0] h Z fun _ h=>M0 7 [0,1,2] (h.pick [0] Z) Z ?_;obtain⟨y4,_,F,b5,_,_,_,_,c1,c9,d8,a6⟩:=R.ix F;obtain⟨_,_,_,_,rfl,s12,s13⟩:=qaq d8;refine Ae 3 15 c1 c9 b5 (h.pick [0] Z) Z (Al 4 31 0 a6 (h.pick [0] Z) Z (M1 511 [5,6,7,8] 0 (h.pick [0] Z) Z ?_));obtain⟨_,_,F,b6,_,_,_,_,c2,d0,d9,a7⟩:=R.ix F;obtain⟨_,_,_,_,rfl,_,_⟩:=qaq d9;refine Ae 9 1023 c2 d0 b6 (h.pick [0] Z) Z (M0 2047 [10] (h.pick [0] Z) Z (Al 11 4095 1 a7 (h.pick [0] Z) Z (M1 126975 [13,14,15,16] 0 (h.pick [0] Z) Z ?_)));obtain⟨_,_,F,b7,_,_,_,_,c3,d1,e2,a8⟩:=R.ix F;obtain⟨_,_,_,_,rfl,_,_⟩:=qaq e2;refine Ae 17 258047 c3 d1 b7 (h.pick [0] Z) Z (M0 520191 [18] (h.pick [0] Z) Z (Al 19 1044479 2 a8 (h.pick [0] Z) Z (M0 3141631 [21] (h.pick [0] Z) Z (Ao 12 3145727 Z (zcI h F (qnX (qav _ (h.oldS s2) (h.oldS P) (h.oldS Q))) Z fun _ _ h F=>Ag (h.pick [0] Z) (Ao 20 4194303 Z (zcI h F (qnX (qav _ (h.oldS s2) (h.oldS P) (h.oldS Q))) Z fun _ _ h F=>Ag (h.pick [0] Z) (Ao 22 8388607 Z ?_))))))));replace h:=h.pick [1,0,2] Z;obtain⟨_,e3,F⟩:=qd F;refine qny (cB 135 Z) (qrv h (qgo y4 s12 s13) e3) Z Z Z Z fun _ _ _ _ h=>G0 16777215 [23] (h.pick [1] Z) Z (Ad (X0 6 Z ?_));replace h:=h.pick [1,0,2] Z;exact rK ⟨_,_,_,_,_,_,F,rfl,h⟩ Z
   exact X0 7 Z (rK ⟨_,_,_,_,_,_,F,rfl,h⟩ Z)
  refine qr Z ?_;obtain rfl:=qb F;replace F:=T;exact X0 6 Z (rK ⟨_,_,_,_,_,_,F,rfl,h⟩ Z)
 refine qr Z ?_;obtain rfl:=qb F;replace F:=S;refine X0 5 Z ?_;obtain⟨o3,F,W⟩:=qd F;refine qn ?_;replace h:=h.pick [0,1] Z;refine rL (fun m e w'=>∃(S5:Nat→Prop) (s:Option Addr) (l:Nat) (f:Nat) (x3:(List qv)) (N:Int),qdF a m x3 N=V o3∧e=[(3,.slice s l f),(4,.pointer (V ⟨b,0,U⟩)),(8,.int .i64 N)]∧SH w w' [Ch.box b (qaV a.Aa y z A u v x) 54,Ch.own S5 (x3:List qv) [.slice s l f]]) n ⟨_,_,_,_,_,_,F,rfl,h⟩ Z ?_;rintro m3 _ _ ⟨S5,s,l,f,x3,N,F,rfl,h⟩;obtain rfl:=(h.sl 1 Z).2;rcases m3 with _|m3
 ·cases F
 refine X1 9 0 h Z (qi Z F ?_ ?_)<;>intro F
 ·refine X1 7 0 h Z (zcI h F (qmh (qav _ (h.oldS s2) (h.oldS P) (h.oldS Q))) Z fun r4 _ h F=>X1 6 0 h Z (zcL h F (qj5 (qav _ (h.oldS s2) (h.oldS P) (h.oldS Q))) Z fun O _ S6 M L h F=>X0 6 Z ?_));obtain⟨o4,F,X⟩:=qd F;refine qn (rL (fun m e w'=>∃(S7:Nat→Prop) (t:Option Addr) (o:Nat) (g:Nat) (x4:(List qv)) (i4:Int),qdw r4 O m x4 i4=V o4∧e=[(3,.slice t o g),(4,.pointer (V ⟨b,0,U⟩)),(8,.int .i64 N),(9,.int .i64 r4),(10,.slice M O.length L),(11,.int .i64 i4)]∧SH w w' [Ch.own S6 (O:List Int) [.slice M O.length L],Ch.box b (qaV a.Aa y z A u v x) 54,Ch.own S7 (x4:List qv) [.slice t o g]]) m3 ⟨_,_,_,_,_,_,F,rfl,h⟩ Z ?_);rintro m4 _ _ ⟨S7,t,o,g,x4,i4,F,rfl,h⟩;obtain rfl:=(h.sl 2 Z).2;rcases m4 with _|m4
  ·cases F
  refine X0 8 Z (qi Z F ?_ ?_)<;>intro F
  ·refine X0 9 Z ?_;obtain⟨_,_,F,D,_,_,_,_,c4,d3,rfl,B⟩:=(h.sl 0 Z).1.ix F;refine zx c4 d3 ⟨D.1,qD D.2.1 (h.sl 0 Z).2⟩ Z (zc 0 B Z (zp1 Z ?_));replace h:=h.pick [2,0,1] Z;obtain⟨_,I,F⟩:=qd F;refine qny (cB 138 Z) (qf6 h I) Z Z Z Z fun _ _ _ _ h=>X0 7 Z ?_;obtain⟨_,_,F,H,_,_,_,_,c5,d4,rfl,C⟩:=(h.sl 1 Z).1.ix F;refine zx c5 d4 ⟨H.1,qD H.2.1 (h.sl 1 Z).2⟩ Z (zc 0 C Z (zp1 Z ?_));obtain⟨_,J,F⟩:=qd F;refine qny (cB 138 Z) (qf6 h J) Z Z Z Z fun _ _ _ _ h=>X0 8 Z ?_;replace h:=h.pick [1,2,0] Z;exact rK ⟨_,_,_,_,_,_,F,rfl,h⟩ Z
  refine qr Z ?_;obtain rfl:=qb F;replace F:=X;refine X0 6 Z ?_;replace h:=h.pick [1,2] Z;exact rK ⟨_,_,_,_,_,_,F,rfl,h⟩ Z
 refine qr Z ?_;obtain rfl:=qb F;replace F:=W;refine X0 5 Z ?_;obtain rfl:=qb F;exact rO 1 h Z ⟨rfl,trivial⟩
def qci (list:(List Int))(a_n:Int):Nat→Int→Option (Flow Bool Int)
 | 0,_=>U
 | n+1,a=>
  bif decide (a<(list.length:Int)) then
   (idx list a).bind fun c=>
   (qaB n c 0 (W64 (a_n-1))).bind fun b=>
   bif (!b) then V (.ret false) else
   bif decide (a > 0) then
    (idx list (W64 (a-1))).bind fun d=>
    (idx list a).bind fun f=>
    bif decide (d ≥ f) then V (.ret false) else
    qci list a_n n (W64 (a+1))
   else
    qci list a_n n (W64 (a+1))
  else
   V (.nxt a)
def qjs (n:Nat)(list:(List Int))(a_n:Int):Option Bool:=
 (qci list a_n n 0).bind fun o=>match o with
 | .ret r=>V r
 | .nxt _=>
  V true
theorem qqo {list:(List Int)}{a_n:Int}(b:Ro w list cs1){r:Bool}(F:qjs n list a_n=V r):RetV prog 202 [GoT.v (List Int) cs1,.int .i64 a_n] w r:=by
 obtain⟨D,B,rfl,z⟩:=b;refine zV 36 func202 Z fun h=>X0 9 Z ?_;obtain⟨C,F,a⟩:=qd F;refine qn (rL (fun m e w'=>∃(y:Int),qci list a_n m y=V C∧e=[(0,.slice D list.length B),(1,.int .i64 a_n),(5,.int .i64 y)]∧SH w w' []) n ⟨_,F,rfl,h⟩ Z ?_);rintro A _ _ ⟨y,F,rfl,h⟩;rcases A with _|A
 ·cases F
 refine X0 8 Z (qi Z F ?_ ?_)<;>intro F
 ·refine X0 4 Z (rD (zd2 Z ?_));obtain⟨_,_,F,g,_,_,_,_,l,s,rfl,c⟩:=z.ix F;refine zdxe l s g Z (zdc 0 (c.below h.below) Z (zd2 Z ?_));obtain⟨H,x,F⟩:=qd F;refine qbn H (vsB _) (cB 130 Z) (fun _ hb=>qah  x) Z Z Z Z (zd2 Z (qaY (t:=20) F Z ?_ ?_))<;>intro F
  ·refine Y0 15 Z (dN h fun _ h=>qb9 Z Z (X0 4 Z ?_));obtain rfl:=qb F;replace F:=a;exact rb h F Z
  refine Y0 6 Z (qaY (t:=23) F Z ?_ ?_)<;>intro F
  ·refine Y0 7 Z ?_;obtain⟨_,_,F,i,_,_,_,_,o,u,rfl,d⟩:=z.ix F;refine zdxe o u i Z (Y0 1 Z (zdc 0 (d.below h.below) Z (Y0 5 Z ?_)));obtain⟨_,_,F,k,_,_,_,_,p,v,rfl,f⟩:=z.ix F;refine zdxe p v k Z (Y0 1 Z (zdc 0 (f.below h.below) Z (Y0 5 Z (dN h fun _ h=>qi Z F ?_ ?_))))<;>intro F
   ·refine X0 4 Z ?_;obtain rfl:=qb F;replace F:=a;exact rb h F Z
   exact X0 7 Z (rK ⟨_,F,rfl,h⟩ Z)
  exact Y0 13 Z (dN h fun _ h=>qbL Z Z (X0 7 Z (rK ⟨_,F,rfl,h⟩ Z)))
 refine qr Z ?_;obtain rfl:=qb F;replace F:=a;exact X0 4 Z (rb h F Z)
def qih (n:Nat)(b:qe)(broken:(List Int)):Option Int:=
 (qfB n b).bind fun a=>
 bif (!a) then V 1 else
 (qhh n b).bind fun c=>
 (qjs n broken (c.length:Int)).bind fun d=>
 bif (!d) then V 2 else
 V 0
theorem qnR {b:qe}{broken:(List Int)}(a:Ro w b cs1)(c:Ro w broken cs2){r:Int}(F:qih n b broken=V r):RetV prog 132 [GoT.v qe cs1,GoT.v (List Int) cs2] w r:=by
 obtain⟨_,_,_,_,_,_,_,_,_,_,rfl,_,_,_,_,_⟩:=qE a;obtain⟨_,_,rfl,d⟩:=c;refine zV 14 func132 Z fun h=>zSR (qw h Z Z fun _ _ h=>X1 6 0 h Z (zcB h F (qk1 (h.old a)) Z fun _ _ h F=>X0 2 Z (qi Z F ?_ ?_)))<;>intro F
 ·exact X0 4 Z (ri h F Z)
 refine X1 6 0 h Z (zcL h F (qkb (h.old a)) Z fun _ _ _ _ _ h F=>zp1 Z (zcB h F (qqo ⟨_,_,rfl,(h.oldS d)⟩) Z fun _ _ h F=>X0 2 Z (qi Z F ?_ ?_)))<;>intro F
 ·exact X0 4 Z (ri h F Z)
 exact X0 5 Z (ri h F Z)
def qfJ (_:Nat)(a:qL):Option (List qU):=
 bif (a.Ay==2) then V ([(⟨0,0⟩:qU),(⟨0,1⟩:qU)]:List qU) else
 bif (a.Ay==3) then V ([(⟨1,0⟩:qU),(⟨1,1⟩:qU)]:List qU) else
 bif (a.Ay != 1) then V [] else
 bif (a.Bl==1) then V ([(⟨0,0⟩:qU),(⟨1,1⟩:qU)]:List qU) else
 bif (a.Bl==2) then V ([(⟨0,1⟩:qU),(⟨1,0⟩:qU)]:List qU) else
 V ([(⟨0,0⟩:qU),(⟨0,1⟩:qU),(⟨1,0⟩:qU),(⟨1,1⟩:qU)]:List qU)
theorem qnb {a:qL}(b:Ro w a cs1){r:(List qU)}(F:qfJ n a=V r):RetV prog 269 [GoT.v qL cs1] w r:=by
 obtain⟨_,_,_,_,rfl,_,_⟩:=qaq b;refine zV 44 func269 Z fun h=>zSR (qw h Z Z fun _ _ h=>X0 4 Z (r_v (qgW qa [0,1] [.const (.int .i64 (0)),.const (.int .i64 (0))] Z Z Z Z Z Z Z Z Z) Z (r_v (qgW qa [0,1] [.const (.int .i64 (1)),.const (.int .i64 (1))] Z Z Z Z Z Z Z Z Z) Z (qG qa [.tmp 5,.tmp 6] _ ([(⟨0,0⟩:qU),(⟨1,1⟩:qU)]:List qU) h Z Z Z Z Z Z Z Z Z ⟨(qdh (⟨0,0⟩:qU)),(qdh (⟨1,1⟩:qU)),trivial⟩ Z fun _ _ _ h=>X0 4 Z (r_v (qgW qa [0,1] [.const (.int .i64 (0)),.const (.int .i64 (1))] Z Z Z Z Z Z Z Z Z) Z (r_v (qgW qa [0,1] [.const (.int .i64 (1)),.const (.int .i64 (0))] Z Z Z Z Z Z Z Z Z) Z (qG qa [.tmp 8,.tmp 9] _ ([(⟨0,1⟩:qU),(⟨1,0⟩:qU)]:List qU) h Z Z Z Z Z Z Z Z Z ⟨(qdh (⟨0,1⟩:qU)),(qdh (⟨1,0⟩:qU)),trivial⟩ Z fun _ _ _ h=>X1 11 2 h Z (qi Z F ?_ ?_))))))))<;>intro F
 ·refine zSR (r_v (qgW qa [0,1] [.const (.int .i64 (0)),.const (.int .i64 (0))] Z Z Z Z Z Z Z Z Z) Z (r_v (qgW qa [0,1] [.const (.int .i64 (0)),.const (.int .i64 (1))] Z Z Z Z Z Z Z Z Z) Z (qG qa [.tmp 15,.tmp 16] _ ([(⟨0,0⟩:qU),(⟨0,1⟩:qU)]:List qU) h Z Z Z Z Z Z Z Z Z ⟨(qdh (⟨0,0⟩:qU)),(qdh (⟨0,1⟩:qU)),trivial⟩ Z fun _ _ _ h=>X0 2 Z ?_)));obtain rfl:=qb F;exact rO 0 h Z ⟨rfl,trivial⟩
 refine X1 7 2 h Z (qi Z F ?_ ?_)<;>intro F
 ·refine zSR (r_v (qgW qa [0,1] [.const (.int .i64 (1)),.const (.int .i64 (0))] Z Z Z Z Z Z Z Z Z) Z (r_v (qgW qa [0,1] [.const (.int .i64 (1)),.const (.int .i64 (1))] Z Z Z Z Z Z Z Z Z) Z (qG qa [.tmp 22,.tmp 23] _ ([(⟨1,0⟩:qU),(⟨1,1⟩:qU)]:List qU) h Z Z Z Z Z Z Z Z Z ⟨(qdh (⟨1,0⟩:qU)),(qdh (⟨1,1⟩:qU)),trivial⟩ Z fun _ _ _ h=>X0 2 Z ?_)));obtain rfl:=qb F;exact rO 0 h Z ⟨rfl,trivial⟩
 refine X1 7 2 h Z (qi Z F ?_ ?_)<;>intro F
 ·refine X0 4 Z ?_;obtain rfl:=qb F;exact qX qa (ρ:=(List qU)) [GoT.v (List qU) [.slice U 0 0]] h ⟨rfl,trivial⟩ (PV.done h (qad qeF))
 refine X1 7 2 h Z (qi Z F ?_ ?_)<;>intro F
 ·refine X0 5 Z ?_;obtain rfl:=qb F;exact rO 1 h Z ⟨rfl,trivial⟩
 refine X1 7 2 h Z (qi Z F ?_ ?_)<;>intro F
 ·refine X0 5 Z ?_;obtain rfl:=qb F;exact rO 0 h Z ⟨rfl,trivial⟩
 refine X0 4 Z (r_v (qgW qa [0,1] [.const (.int .i64 (0)),.const (.int .i64 (0))] Z Z Z Z Z Z Z Z Z) Z (r_v (qgW qa [0,1] [.const (.int .i64 (0)),.const (.int .i64 (1))] Z Z Z Z Z Z Z Z Z) Z (r_v (qgW qa [0,1] [.const (.int .i64 (1)),.const (.int .i64 (0))] Z Z Z Z Z Z Z Z Z) Z (r_v (qgW qa [0,1] [.const (.int .i64 (1)),.const (.int .i64 (1))] Z Z Z Z Z Z Z Z Z) Z (qG qa [.tmp 39,.tmp 40,.tmp 41,.tmp 42] _ ([(⟨0,0⟩:qU),(⟨0,1⟩:qU),(⟨1,0⟩:qU),(⟨1,1⟩:qU)]:List qU) h Z Z Z Z Z Z Z Z Z ⟨(qdh (⟨0,0⟩:qU)),(qdh (⟨0,1⟩:qU)),(qdh (⟨1,0⟩:qU)),(qdh (⟨1,1⟩:qU)),trivial⟩ Z fun _ _ _ h=>X0 2 Z ?_)))));obtain rfl:=qb F;exact rO 0 h Z ⟨rfl,trivial⟩
def qbw (first:Int)(d:Int)(c:qL)(b:(List qU)):Nat→(List qv)→Int→Option ((List qv)×Int)
 | 0,_,_=>U
 | n+1,f,a=>
  bif decide (a<(b.length:Int)) then
   (idx b a).bind fun g=>
   (appS f ([(⟨W64 ((W64 (2*(W64 (first+c.Bf))))+g.e0),W64 ((W64 (2*(W64 (first+c.To))))+g.e1),1,d⟩:qv)]:List qv)).bind fun h=>
   qbw first d c b n h (W64 (a+1))
  else
   V (f,a)
def qbt (first:Int)(b:qA):Nat→(List qv)→Int→Option ((List qv)×Int)
 | 0,_,_=>U
 | n+1,c,a=>
  bif decide (a<(b.As.length:Int)) then
   (idx b.As a).bind fun d=>
   (qfJ n d).bind fun f=>
   (qbw first a d f n c 0).bind fun o=>match o with
   | (g,_)=>
    qbt first b n g (W64 (a+1))
  else
   V (c,a)
def qfI (n:Nat)(b:qe)(x:qm)(first:Int):Option (List qv):=
 (idx b.Ar.Ap x.Bo).bind fun c=>
 (qbt first c n ([]:List qv) 0).bind fun o=>match o with
 | (a,_)=>
  V a
theorem qmU {b:qe}{x:qm}{first:Int}(C:Ro w b cs1)(D:Ro w x cs2){r:(List qv)}(F:qfI n b x first=V r):RetV prog 215 [GoT.v qe cs1,GoT.v qm cs2,.int .i64 first] w r:=by
 obtain⟨_,_,_,_,_,_,_,_,_,_,rfl,s1,_,_,_,_⟩:=qE C;obtain⟨_,_,rfl,_⟩:=qW D;refine zV 57 func215 Z fun h=>zSR (qw h Z Z fun _ _ h=>qw h Z Z fun _ _ h=>X2 14 1 0 h Z ?_);obtain⟨y,_,F,K,_,_,_,_,M,P,S,H⟩:=s1.ix F;obtain⟨_,_,p8,k8,_,_,rfl,_,s8,_⟩:=qal S;refine zxe M P K Z (zp1 Z (zc 3 (H.below h.below) Z (X0 3 Z ?_)));replace h:=h.nil (α:=qv);obtain⟨o1,F,A⟩:=qd F;refine qn ?_;replace h:=h.pick [0] Z;refine rL (fun m e w'=>∃(S1:Nat→Prop) (k:Option Addr) (g:Nat) (d:Nat) (x1:(List qv)) (a:Int),qbt first y m x1 a=V o1∧e=[(2,.int .i64 first),(7,.slice k g d),(19,.slice p8 y.As.length k8),(20,.int .i64 (y.As.length:Int)),(21,.int .i64 a)]∧SH w w' [Ch.own S1 (x1:List qv) [.slice k g d]]) n ⟨_,_,_,_,_,_,F,rfl,h⟩ Z ?_;rintro m1 _ _ ⟨S1,k,g,d,x1,a,F,rfl,h⟩;obtain rfl:=(h.sl 0 Z).2;rcases m1 with _|m1
 ·cases F
 refine X0 5 Z (qi Z F ?_ ?_)<;>intro F
 ·refine X0 6 Z ?_;obtain⟨o,_,F,L,_,_,_,_,N,Q,T,I⟩:=s8.ix F;obtain⟨p11,Y,p12,a3,rfl,s10,s11⟩:=qaq T;refine zxe N Q L Z (zc 0 (I.below h.below) Z (qp qa h Z Z Z fun _ p h=>zp1 Z (zs 0 h Z fun _ h=>X1 4 0 h Z (zcL h F (qnb (qgo o (h.oldS s10) (h.oldS s11))) Z fun v _ S2 u t h F=>X0 3 Z ?_))));obtain⟨o2,F,B⟩:=qd F;refine qn (rL (fun m e w'=>∃(S3:Nat→Prop) (l:Option Addr) (i:Nat) (f:Nat) (x2:(List qv)) (X:Int),qbw first a o v m x2 X=V o2∧e=[(2,.int .i64 first),(7,.slice l i f),(8,.int .i64 a),(9,.pointer (V ⟨p,0,U⟩)),(19,.slice p8 y.As.length k8),(20,.int .i64 (y.As.length:Int)),(21,.int .i64 a),(27,.slice u v.length t),(28,.int .i64 (v.length:Int)),(29,.int .i64 X)]∧SH w w' [Ch.own S2 (v:List qU) [.slice u v.length t],Ch.box p (qh3 o p11 p12 Y a3) 138,Ch.own S3 (x2:List qv) [.slice l i f]]) m1 ⟨_,_,_,_,_,_,F,rfl,h⟩ Z ?_);rintro m2 _ _ ⟨S3,l,i,f,x2,X,F,rfl,h⟩;obtain rfl:=(h.sl 2 Z).2;rcases m2 with _|m2
  ·cases F
  refine X0 5 Z (qi Z F ?_ ?_)<;>intro F
  ·refine zKSBSR ?_;obtain⟨z,_,F,s,_,_,_,_,O,R,W,J⟩:=(h.sl 0 Z).1.ix F;obtain rfl:=quG W;refine zx O R ⟨s.1,qD s.2.1 (h.sl 0 Z).2⟩ Z (zc 0 J Z (qp qa h Z Z Z fun _ _ h=>zs 0 h Z fun _ h=>X1 8 2 h Z (r_v (qAJ (iv:=0) qa Z Z (by decide) ⟨rfl,rfl⟩ Z Z) Z (X2 7 0 2 h Z (r_v (qAJ (iv:=1) qa Z Z (by decide) ⟨rfl,rfl⟩ Z Z) Z (X1 3 0 h Z (r_v (qaf qa [0,1,2,3] [.tmp 41,.tmp 49,.const (.int .i64 (1)),.tmp 50] Z Z Z Z Z Z Z Z) Z (qG qa [.tmp 51] _ ([(⟨W64 ((W64 (2*(W64 (first+o.Bf))))+z.e0),W64 ((W64 (2*(W64 (first+o.To))))+z.e1),1,a⟩:qv)]:List qv) h Z Z Z Z Z Z Z Z Z ⟨(qcm (⟨W64 ((W64 (2*(W64 (first+o.Bf))))+z.e0),W64 ((W64 (2*(W64 (first+o.To))))+z.e1),1,a⟩:qv)),trivial⟩ Z fun _ _ _ h=>?_))))))));obtain⟨_,c,F⟩:=qd F;obtain⟨g1,c⟩:=qaD c;refine qcs qa 4 h Z (h.sl 0 Z).1 (h.sl 0 Z).2 Z Z Z Z Z Z Z Z Z g1 c Z fun _ _ _ _ h=>X0 7 Z ?_;replace h:=h.pick [2,3,4] Z;exact rK ⟨_,_,_,_,_,_,F,rfl,h⟩ Z
  refine qr Z ?_;obtain rfl:=qb F;replace F:=B;refine X0 5 Z ?_;replace h:=h.pick [2] Z;exact rK ⟨_,_,_,_,_,_,F,rfl,h⟩ Z
 refine qr Z ?_;obtain rfl:=qb F;replace F:=A;refine X0 5 Z ?_;obtain rfl:=qb F;exact rO 0 h Z ⟨rfl,trivial⟩
def qiY (_:Nat)(s:(List Int)):Option (List Int):=
 appS ([]:List Int) s
theorem qn2 {s:(List Int)}(b:Ro w s cs1){r:(List Int)}(F:qiY n s=V r):RetV prog 270 [GoT.v (List Int) cs1] w r:=by
 obtain⟨p,k,rfl,c⟩:=b;obtain⟨d,hx⟩:=qaD (show appS ([]:List Int) s=V r from F);cases p with
 | none=>
  obtain rfl:=qvk c;obtain rfl:[]=r:=hx;exact zV 8 func270 Z fun h=>X0 8 Z (r_v (qvV qa Z Z Z Z Z) Z (qcU (qb9 Z Z (X0 4 Z (qX qa (ρ:=(List Int)) [GoT.v (List Int) [.slice U 0 0]] h ⟨rfl,trivial⟩ (PV.done h (qad qeF)))))))
 | some a=>
  refine zV 8 func270 Z fun h=>X0 8 Z (r_v (qvV qa Z Z Z Z Z) Z (qcU (qbL Z Z (zKSR (qG qa [] _ ([]:List Int) h Z Z Z Z Z Z Z Z Z trivial Z fun _ _ _ h=>zp1 Z (qAE qa 0 h Z (h.oldS c) Z Z Z Z Z Z Z Z Z Z d Z fun _ g f _ h=>?_))))));rw[hx] at h;exact X0 2 Z (qX qa (ρ:=(List Int)) [GoT.v (List Int) [.slice g (([]:List Int).length+s.length) f]] h ⟨rfl,trivial⟩ (PV.done h (qad (qak 0 h Z))))
def qbg (net:Int)(b:(List Tplace)):Nat→(List Int)→Int→Option ((List Int)×Int)
 | 0,_,_=>U
 | n+1,c,a=>
  bif decide (a<(b.length:Int)) then
   (idx b a).bind fun d=>
   bif (d.net==net) then
    bif (!d.drives) then
     (appS c ([a]:List Int)).bind fun f=>
     qbg net b n f (W64 (a+1))
    else
     qbg net b n c (W64 (a+1))
   else
    qbg net b n c (W64 (a+1))
  else
   V (c,a)
def qhx (n:Nat)(d:qg)(net:Int):Option (List Int):=
 (qcy n d).bind fun a=>
 (qbg net a n ([]:List Int) 0).bind fun o=>match o with
 | (b,_)=>
  V b
theorem qoF {d:qg}{net:Int}(c:Ro w d cs1){r:(List Int)}(F:qhx n d net=V r):RetV prog 271 [GoT.v qg cs1,.int .i64 net] w r:=by
 obtain⟨_,_,_,_,_,_,rfl,_,_,_⟩:=qaI c;refine zV 31 func271 Z fun h=>zSR (qw h Z Z fun _ _ h=>X1 10 0 h Z (zcL h F (qff (h.old c)) Z fun g _ S1 A y h F=>X0 3 Z ?_));replace h:=h.nil (α:=Int);obtain⟨C,F,k⟩:=qd F;refine qn ?_;replace h:=h.pick [0,1] Z;refine rL (fun m e w'=>∃(S2:Nat→Prop) (v:Option Addr) (b:Nat) (u:Nat) (x:(List Int)) (i:Int),qbg net g m x i=V C∧e=[(1,.int .i64 net),(5,.slice v b u),(9,.slice A g.length y),(10,.int .i64 (g.length:Int)),(11,.int .i64 i)]∧SH w w' [Ch.own S2 (x:List Int) [.slice v b u],Ch.own S1 (g:List Tplace) [.slice A g.length y]]) n ⟨_,_,_,_,_,_,F,rfl,h⟩ Z ?_;rintro z _ _ ⟨S2,v,b,u,x,i,F,rfl,h⟩;obtain rfl:=(h.sl 0 Z).2;rcases z with _|z
 ·cases F
 refine X0 5 Z (qi Z F ?_ ?_)<;>intro F
 ·refine X0 6 Z ?_;obtain⟨_,_,F,f,_,_,_,_,o,p,s,l⟩:=(h.sl 1 Z).1.ix F;obtain rfl:=qfL s;refine zx o p ⟨f.1,qD f.2.1 (h.sl 1 Z).2⟩ Z (zc 0 l Z (qp qa h Z Z Z fun _ _ h=>zp1 Z (zs 0 h Z fun _ h=>X1 8 0 h Z (qj (t:=20) F Z ?_ ?_))))<;>intro F
  ·refine X1 8 0 h Z (qi Z F ?_ ?_)<;>intro F
   ·refine X0 3 Z (qG qa [.tmp 26] _ ([i]:List Int) h Z Z Z Z Z Z Z Z Z ⟨rfl,trivial⟩ Z fun _ _ _ h=>?_);obtain⟨_,a,F⟩:=qd F;obtain⟨B,a⟩:=qaD a;refine qcs qa 2 h Z (h.sl 0 Z).1 (h.sl 0 Z).2 Z Z Z Z Z Z Z Z Z B a Z fun _ _ _ _ h=>X0 7 Z ?_;replace h:=h.pick [2,3] Z;exact rK ⟨_,_,_,_,_,_,F,rfl,h⟩ Z
   refine X0 6 Z ?_;replace h:=h.pick [1,2] Z;exact rK ⟨_,_,_,_,_,_,F,rfl,h⟩ Z
  refine X0 5 Z (qbL Z Z (X0 6 Z ?_));replace h:=h.pick [1,2] Z;exact rK ⟨_,_,_,_,_,_,F,rfl,h⟩ Z
 refine qr Z ?_;obtain rfl:=qb F;replace F:=k;refine X0 5 Z ?_;obtain rfl:=qb F;exact rO 0 h Z ⟨rfl,trivial⟩
def qhq (_:Nat)(d:qg)(l:qt)(p:Tplace):Option Int:=
 bif decide (p.instance_<0) then V 0 else
 (idx d.Ab p.instance_).bind fun a=>
 (idx l.Ap a.Bo).bind fun b=>
 (idx b.Av p.pin).bind fun c=>
 V c.Bq
theorem qoN {d:qg}{l:qt}{p:Tplace}(a:Ro w d cs1)(b:Ro w l cs2)(c:Ro w p cs3){r:Int}(F:qhq n d l p=V r):RetV prog 272 [GoT.v qg cs1,GoT.v qt cs2,GoT.v Tplace cs3] w r:=by
 obtain⟨_,_,_,_,_,_,rfl,C,_,_⟩:=qaI a;obtain⟨_,_,rfl,D⟩:=qbN b;obtain rfl:=qfL c;refine zV 27 func272 Z fun h=>zSR (qw h Z Z fun _ _ h=>qw h Z Z fun _ _ h=>qw h Z Z fun _ _ h=>X1 9 0 h Z (qi Z F ?_ ?_))<;>intro F
 ·exact X0 4 Z (ri h F Z)
 refine zKS (rD (Y1 2 1 h Z ?_));refine Y1 2 2 h Z ?_;refine Y1 2 0 h Z ?_;obtain⟨_,_,F,k,_,_,_,_,s,v,z,f⟩:=C.ix F;obtain⟨_,_,rfl,_⟩:=qW z;refine zdxe s v k Z (zd1 Z (zdc 1 (f.below h.below) Z ?_));obtain⟨_,_,F,m,_,_,_,_,t,x,A,g⟩:=D.ix F;obtain⟨_,_,_,_,_,_,rfl,H,_,_⟩:=qal A;refine zdxe t x m Z (zd1 Z (zdc 2 (g.below h.below) Z (Y1 2 0 h Z ?_)));obtain⟨_,_,F,o,_,_,_,_,u,y,B,i⟩:=H.ix F;obtain rfl:=qa5 B;exact zdxe u y o Z (zd1 Z (zdc 2 (i.below h.below) Z (zd1 Z (dN h fun _ h=>ri h F Z))))
def qbu (d:qH):Nat→(List Int)→Int→Option ((List Int)×Int)
 | 0,_,_=>U
 | n+1,b,a=>
  bif decide (a > 0) then
   (idx d.Ak a).bind fun c=>
   (idx b c).bind fun f=>
   (idx b a).bind fun g=>
   (idx b c).bind fun _=>
   qbu d n (setS b c (W64 (f+g))) (W64 (a-1))
  else
   V (b,a)
def qbr (a:qe)(h:qH)(g:(List Tplace))(d:(List Int)):Nat→(List Int)→Int→Option ((List Int)×Int)
 | 0,_,_=>U
 | n+1,c,b=>
  bif decide (b<(d.length:Int)) then
   (idx d b).bind fun k=>
   (idx h.Bg b).bind fun f=>
   (idx c f).bind fun l=>
   (idx g k).bind fun m=>
   (qhq n (⟨a.Aa.Ab,a.Aa.Ai,a.Aa.Ah⟩:qg) (⟨a.Ar.Ap⟩:qt) m).bind fun i=>
   (idx c f).bind fun _=>
   qbr a h g d n (setS c f (W64 (l+i))) (W64 (b+1))
  else
   V (c,b)
def qdQ (n:Nat)(a:qe)(b:Int):Option (List Int):=
 (idx a.Af b).bind fun c=>
 (qiY n c.Bq).bind fun d=>
 (qcy n (⟨a.Aa.Ab,a.Aa.Ai,a.Aa.Ah⟩:qg)).bind fun f=>
 (qhx n (⟨a.Aa.Ab,a.Aa.Ai,a.Aa.Ah⟩:qg) b).bind fun g=>
 (qbr a c f g n d 0).bind fun o=>match o with
 | (h,_)=>
  (qbu c n h (W64 ((d.length:Int)-1))).bind fun o=>match o with
  | (i,_)=>
   V i
theorem qgd {a:qe}{k:Int}(a3:Ro w a cs1){r:(List Int)}(F:qdQ n a k=V r):RetV prog 216 [GoT.v qe cs1,.int .i64 k] w r:=by
 obtain⟨p1,k1,p2,k2,p3,k3,p4,k4,p5,k5,rfl,s1,s2,s3,s4,s5⟩:=qE a3;refine zV 74 func216 Z fun h=>zSR (qw h Z Z fun w1 l h=>X1 7 0 h Z ?_);obtain⟨W,_,F,a9,_,_,_,_,b5,b9,c3,a4⟩:=s5.ix F;obtain⟨p6,k6,p7,k7,p8,k8,p9,k9,rfl,s6,_,s8,s9⟩:=qaS c3;refine zxe b5 b9 a9 Z (zc 0 (a4.below h.below) Z (qp qa h Z Z Z fun _ b h=>zs 0 h Z fun _ h=>X1 5 0 h Z (zcL h F (qn2 ⟨_,_,rfl,(h.oldS s8)⟩) Z fun R _ S1 d c h F=>X1 6 2 h Z (zcL h F (qff (qav _ (h.oldS s2) (h.oldS s3) (h.oldS s4))) Z fun T _ S2 O M h F=>X1 8 3 h Z (zcL h F (qoF (qav _ (h.oldS s2) (h.oldS s3) (h.oldS s4))) Z fun Q _ S3 P N h F=>X0 3 Z ?_)))));obtain⟨o1,F,X⟩:=qd F;refine qn (rL (fun m e w'=>∃(x1:(List Int)) (i1:Int),qbr a W T Q m x1 i1=V o1∧e=[(2,.pointer (V ⟨l,0,U⟩)),(5,.pointer (V ⟨b,0,U⟩)),(6,.slice d R.length c),(7,.slice O T.length M),(25,.slice P Q.length N),(26,.int .i64 (Q.length:Int)),(27,.int .i64 i1)]∧SH w w' [Ch.own S3 (Q:List Int) [.slice P Q.length N],Ch.own S2 (T:List Tplace) [.slice O T.length M],Ch.own S1 (x1:List Int) [.slice d R.length c],Ch.box b (qhs W p6 p7 p8 p9 k6 k7 k8 k9) 170,Ch.box l (qJ a p1 p2 p3 p4 p5 k1 k2 k3 k4 k5) 57]) n ⟨_,_,F,rfl,h⟩ Z ?_);rintro m1 _ _ ⟨x1,i1,F,rfl,h⟩;rcases m1 with _|m1
 ·cases F
 refine X0 5 Z (qi Z F ?_ ?_)<;>intro F
 ·refine X0 6 Z ?_;obtain⟨_,_,F,p,_,_,_,_,b6,c0,rfl,a5⟩:=(h.sl 0 Z).1.ix F;refine zx b6 c0 ⟨p.1,qD p.2.1 (h.sl 0 Z).2⟩ Z (zc 0 a5 Z (X0 3 Z (rA [19] [1,2,3,4] h Z fun _ h=>M1 15 [0,1,2,3] 2 (h.pick [1,2,3,4] Z) Z ?_)));obtain⟨_,_,F,b3,_,_,_,_,b7,c1,rfl,a6⟩:=s9.ix F;refine Ae 4 31 b7 c1 b3 (h.pick [1,2,3,4] Z) Z (Al 5 63 0 a6 (h.pick [1,2,3,4] Z) Z ?_);obtain⟨y4,c5,F,s,_,_,_,_,y,D,rfl,_⟩:=(h.sl 2 Z).1.ix F;refine Ax 6 127 y D ⟨s.1,qD s.2.1 (h.sl 2 Z).2⟩ (h.pick [1,2,3,4] Z) Z (Aw 7 255 (fun w' hw=>qia qa (qbH (w1:=w) (S1:=fun _=>False) hw 1 Z c5 y D Z) (j:=0) Z Z Z) (h.pick [1,2,3,4] Z) Z ?_);refine M2 16383 [8,9,10,11,12,13] 3 3 (h.pick [1,2,3,4] Z) Z ?_;obtain⟨y5,c6,F,t,_,_,_,_,z,H,c4,_⟩:=(h.sl 1 Z).1.ix F;obtain rfl:=qfL c4;refine Ax 14 32767 z H ⟨t.1,qD t.2.1 (h.sl 1 Z).2⟩ (h.pick [1,2,3,4] Z) Z (Aw 15 65535 (fun w' hw=>qia qa (qbH hw 0 Z c6 z H (qlC (w:=w) (S:=fun _=>False) y5)) (j:=0) Z Z Z) (h.pick [1,2,3,4] Z) Z ?_);refine Ao 16 131071 Z (zcI h F (qoN (qav _ (h.oldS s2) (h.oldS s3) (h.oldS s4)) (qez _ (h.oldS s1)) (qlC y5)) Z fun r4 _ h F=>G0 262143 [17] (h.pick [1,2,3,4] Z) Z ?_);obtain⟨_,c7,F,u,_,_,_,_,A,I,rfl,a7⟩:=(h.sl 2 Z).1.ix F;exact Ax 18 524287 A I ⟨u.1,qD u.2.1 (h.sl 2 Z).2⟩ (h.pick [1,2,3,4] Z) Z (Ao 19 1048575 Z (qao qa 2 0 (W64 (y4+r4)) h Z c7 A I Z a7 Z Z Z Z Z Z Z fun _ h=>qbz (fun hs=>absurd (hs 19 (by decide)) (by decide)) (Ad (X0 5 Z (rK ⟨_,_,F,rfl,h⟩ Z)))))
 refine qr Z ?_;obtain rfl:=qb F;replace F:=X;refine X0 8 Z ?_;obtain⟨o2,F,Y⟩:=qd F;refine qn ?_;replace h:=h.pick [2,3] Z;refine rL (fun m e w'=>∃(x2:(List Int)) (i2:Int),qbu W m x2 i2=V o2∧e=[(5,.pointer (V ⟨b,0,U⟩)),(6,.slice d R.length c),(10,.int .i64 i2)]∧SH w w' [Ch.own S1 (x2:List Int) [.slice d R.length c],Ch.box b (qhs W p6 p7 p8 p9 k6 k7 k8 k9) 170]) n ⟨_,_,F,rfl,h⟩ Z ?_;rintro m2 _ _ ⟨x2,i2,F,rfl,h⟩;rcases m2 with _|m2
 ·cases F
 refine X0 6 Z (qi Z F ?_ ?_)<;>intro F
 ·refine zKSB (rA [14] [0,1] h Z fun _ h=>M1 15 [0,1,2,3] 1 (h.pick [0,1] Z) Z ?_);obtain⟨_,_,F,b4,_,_,_,_,b8,c2,rfl,a8⟩:=s6.ix F;refine Ae 4 31 b8 c2 b4 (h.pick [0,1] Z) Z (Al 5 63 0 a8 (h.pick [0,1] Z) Z ?_);obtain⟨y8,c8,F,v,_,_,_,_,B,J,rfl,_⟩:=(h.sl 0 Z).1.ix F;refine Ax 6 127 B J ⟨v.1,qD v.2.1 (h.sl 0 Z).2⟩ (h.pick [0,1] Z) Z (Aw 7 255 (fun w' hw=>qia qa (qbH (w1:=w) (S1:=fun _=>False) hw 0 Z c8 B J Z) (j:=0) Z Z Z) (h.pick [0,1] Z) Z ?_);refine M0 1023 [8,9] (h.pick [0,1] Z) Z ?_;obtain⟨y9,c9,F,x,_,_,_,_,C,K,rfl,_⟩:=(h.sl 0 Z).1.ix F;refine Ax 10 2047 C K ⟨x.1,qD x.2.1 (h.sl 0 Z).2⟩ (h.pick [0,1] Z) Z (Aw 11 4095 (fun w' hw=>qia qa (qbH (w1:=w) (S1:=fun _=>False) hw 0 Z c9 C K Z) (j:=0) Z Z Z) (h.pick [0,1] Z) Z ?_);refine M0 8191 [12] (h.pick [0,1] Z) Z ?_;obtain⟨_,L,F,f,_,_,_,_,g,i,rfl,o⟩:=(h.sl 0 Z).1.ix F;exact Ax 13 16383 g i ⟨f.1,qD f.2.1 (h.sl 0 Z).2⟩ (h.pick [0,1] Z) Z (Ao 14 32767 Z (qao qa 0 0 (W64 (y8+y9)) h Z L g i Z o Z Z Z Z Z Z Z fun _ h=>qbz (fun hs=>absurd (hs 14 (by decide)) (by decide)) (Ad (X0 6 Z (rK ⟨_,_,F,rfl,h⟩ Z)))))
 refine qr Z ?_;obtain rfl:=qb F;replace F:=Y;refine X0 5 Z ?_;obtain rfl:=qb F;exact rO 0 h Z ⟨rfl,trivial⟩
def qbM (c:qH)(d:(List Int))(f:(List Int)):Nat→(List Int)→Int→Option ((List Int)×Int)
 | 0,_,_=>U
 | n+1,b,a=>
  bif decide (a<(f.length:Int)) then
   (idx c.Ak a).bind fun g=>
   (idx b g).bind fun h=>
   (idx c.Bt a).bind fun i=>
   (idx d a).bind fun k=>
   (idx b a).bind fun _=>
   qbM c d f n (setS b a (W64 (h+(W64 (i*k))))) (W64 (a+1))
  else
   V (b,a)
def qfh (n:Nat)(b:qe)(net:Int):Option (List Int):=
 (idx b.Af net).bind fun f=>
 (qdQ n b net).bind fun a=>
 (mkS (a.length:Int) (0:Int)).bind fun c=>
 (qbM f a c n c 1).bind fun o=>match o with
 | (d,_)=>
  V d
theorem qmL {b:qe}{net:Int}(g:Ro w b cs1){r:(List Int)}(F:qfh n b net=V r):RetV prog 273 [GoT.v qe cs1,.int .i64 net] w r:=by
 obtain⟨p1,k1,p2,k2,p3,k3,p4,k4,p5,k5,rfl,_,_,_,_,s5⟩:=qE g;refine zV 49 func273 Z fun h=>zSR (qw h Z Z fun w1 C h=>X0 3 Z (rA [] [0] h Z fun _ h=>M1 7 [0,1,2] 0 (h.pick [0] Z) Z ?_));obtain⟨y1,_,F,N,_,_,_,_,Q,T,Y,I⟩:=s5.ix F;obtain⟨p6,k6,p7,k7,p8,k8,p9,k9,rfl,s6,s7,_,_⟩:=qaS Y;refine Ae 3 15 Q T N (h.pick [0] Z) Z (Al 4 31 0 I (h.pick [0] Z) Z (M1 127 [5,6] 0 (h.pick [0] Z) Z ?_));obtain⟨f,y,F⟩:=qd F;refine qmG (fun e w'=>∃(a:Nat) (B:Nat→Prop) (d:Option Addr) (c:Nat),e=[(5,.pointer (V ⟨a,0,U⟩)),(6,.slice d f.length c)]∧SH w w' [Ch.box a (qhs y1 p6 p7 p8 p9 k6 k7 k8 k9) 170,Ch.own B (f:List Int) [.slice d f.length c],Ch.box C (qJ b p1 p2 p3 p4 p5 k1 k2 k3 k4 k5) 57]) 0 (bits 11 2047) ?_ ?_
 ·intro K;refine At 7 8 255 383 Z ?_ ?_
  ·exact qa2 f h (cB 216 Z) (qgd (h.old g) y) Z Z Z Z fun w10 S4 p13 k13 h=>Ag (h.pick [1] Z) (Ao 8 511 Z (qp qa h Z Z Z fun w11 D h=>Ag (h.pick [2] Z) (Ao 9 1023 Z (zs 0 h Z fun w12 h=>G0 2047 [10] (h.pick [2] Z) Z (qeJ [(5,_),(6,_)] ⟨rfl,rfl,trivial⟩ (K _ _ ⟨_,_,_,_,rfl,h⟩))))))
  refine qp qa h Z Z Z fun w10 D h=>Ag (h.pick [1] Z) (Ao 7 511 Z (qa2 f h (cB 216 Z) (qgd (h.old g) y) Z Z Z Z fun w11 S4 p13 k13 h=>Ag (h.pick [2] Z) (Ao 9 1023 Z (zs 1 h Z fun w12 h=>G0 2047 [10] (h.pick [2] Z) Z ?_))));replace h:=h.pick [1,0,2] Z;exact qeJ [(5,_),(6,_)] ⟨rfl,rfl,trivial⟩ (K _ _ ⟨_,_,_,_,rfl,h⟩)
 rintro _ _ ⟨a,B,d,c,rfl,h⟩;refine Ad (X0 4 Z ?_);obtain⟨A,i,F⟩:=qd F;obtain⟨g1,g2,i⟩:=qR i;refine qas qa Int h Z Z Z Z Z Z Z Z Z g1 g2 i Z fun _ S6 z h=>X0 7 Z ?_;obtain⟨o1,F,H⟩:=qd F;refine qn ?_;replace h:=h.pick [0,1,2] Z;refine rL (fun m e w'=>∃(x2:(List Int)) (i1:Int),qbM y1 f A m x2 i1=V o1∧e=[(5,.pointer (V ⟨a,0,U⟩)),(6,.slice d f.length c),(7,.slice z A.length A.length),(8,.int .i64 i1)]∧SH w w' [Ch.own S6 (x2:List Int) [.slice z A.length A.length],Ch.box a (qhs y1 p6 p7 p8 p9 k6 k7 k8 k9) 170,Ch.own B (f:List Int) [.slice d f.length c]]) n ⟨_,_,F,rfl,h⟩ Z ?_;rintro m1 _ _ ⟨x2,i1,F,rfl,h⟩;rcases m1 with _|m1
 ·cases F
 refine X0 8 Z (qi Z F ?_ ?_)<;>intro F
 ·refine zKSB (rA [22] [0,1,2] h Z fun _ h=>M1 63 [0,1,2,3,4,5] 1 (h.pick [0,1,2] Z) Z ?_);obtain⟨_,_,F,O,_,_,_,_,R,W,rfl,J⟩:=s6.ix F;refine Ae 6 127 R W O (h.pick [0,1,2] Z) Z (Al 7 255 0 J (h.pick [0,1,2] Z) Z ?_);obtain⟨y3,a3,F,k,_,_,_,_,p,u,rfl,_⟩:=(h.sl 0 Z).1.ix F;refine Ax 8 511 p u ⟨k.1,qD k.2.1 (h.sl 0 Z).2⟩ (h.pick [0,1,2] Z) Z (Aw 9 1023 (fun w' hw=>qia qa (qbH (w1:=w) (S1:=fun _=>False) hw 0 Z a3 p u Z) (j:=0) Z Z Z) (h.pick [0,1,2] Z) Z ?_);refine M1 8191 [10,11,12] 1 (h.pick [0,1,2] Z) Z ?_;obtain⟨y4,_,F,P,_,_,_,_,S,X,rfl,L⟩:=s7.ix F;refine Ae 13 16383 S X P (h.pick [0,1,2] Z) Z (Al 14 32767 0 L (h.pick [0,1,2] Z) Z (M0 131071 [15,16] (h.pick [0,1,2] Z) Z ?_));obtain⟨y5,a4,F,l,_,_,_,_,s,v,rfl,_⟩:=(h.sl 2 Z).1.ix F;refine Ax 17 262143 s v ⟨l.1,qD l.2.1 (h.sl 2 Z).2⟩ (h.pick [0,1,2] Z) Z (Aw 18 524287 (fun w' hw=>qia qa (qbH (w1:=w) (S1:=fun _=>False) hw 2 Z a4 s v Z) (j:=0) Z Z Z) (h.pick [0,1,2] Z) Z ?_);refine M0 2097151 [19,20] (h.pick [0,1,2] Z) Z ?_;obtain⟨_,a5,F,o,_,_,_,_,t,x,rfl,M⟩:=(h.sl 0 Z).1.ix F;exact Ax 21 4194303 t x ⟨o.1,qD o.2.1 (h.sl 0 Z).2⟩ (h.pick [0,1,2] Z) Z (Ao 22 8388607 Z (qao qa 0 0 (W64 (y3+(W64 (y4*y5)))) h Z a5 t x Z M Z Z Z Z Z Z Z fun _ h=>qbz (fun hs=>absurd (hs 22 (by decide)) (by decide)) (Ad (X0 6 Z (rK ⟨_,_,F,rfl,h⟩ Z)))))
 refine qr Z ?_;obtain rfl:=qb F;replace F:=H;refine X0 5 Z ?_;obtain rfl:=qb F;exact rO 0 h Z ⟨rfl,trivial⟩
def qbc (c:(List Int))(b:qH):Nat→(List Int)→Int→Option ((List Int)×Int)
 | 0,_,_=>U
 | n+1,d,a=>
  bif decide (a<(b.Bg.length:Int)) then
   (idx b.Bg a).bind fun g=>
   (idx c g).bind fun h=>
   (appS d ([h]:List Int)).bind fun f=>
   qbc c b n f (W64 (a+1))
  else
   V (d,a)
def qeD (n:Nat)(b:qe)(net:Int):Option (List Int):=
 (qfh n b net).bind fun a=>
 (idx b.Af net).bind fun d=>
 (qbc a d n ([]:List Int) 0).bind fun o=>match o with
 | (c,_)=>
  V c
theorem qmb {b:qe}{net:Int}(g:Ro w b cs1){r:(List Int)}(F:qeD n b net=V r):RetV prog 217 [GoT.v qe cs1,.int .i64 net] w r:=by
 obtain⟨_,_,_,_,_,_,_,_,_,_,rfl,_,_,_,_,Q⟩:=qE g;refine zV 32 func217 Z fun h=>zSR (qw h Z Z fun _ _ h=>X1 6 0 h Z (zcL h F (qmL (h.old g)) Z fun k _ S1 N L h F=>X1 12 1 h Z ?_));obtain⟨K,_,F,t,_,_,_,_,v,z,C,o⟩:=Q.ix F;obtain⟨_,_,_,_,_,_,I,H,rfl,_,_,_,R⟩:=qaS C;refine zxe v z t Z (zp1 Z (zc 3 (o.below h.below) Z (X0 3 Z ?_)));replace h:=h.nil (α:=Int);obtain⟨P,F,l⟩:=qd F;refine qn ?_;replace h:=h.pick [0,1] Z;refine rL (fun m e w'=>∃(S2:Nat→Prop) (f:Option Addr) (d:Nat) (c:Nat) (J:(List Int)) (D:Int),qbc k K m J D=V P∧e=[(5,.slice N k.length L),(6,.slice f d c),(17,.slice I K.Bg.length H),(18,.int .i64 (K.Bg.length:Int)),(19,.int .i64 D)]∧SH w w' [Ch.own S2 (J:List Int) [.slice f d c],Ch.own S1 (k:List Int) [.slice N k.length L]]) n ⟨_,_,_,_,_,_,F,rfl,h⟩ Z ?_;rintro M _ _ ⟨S2,f,d,c,J,D,F,rfl,h⟩;obtain rfl:=(h.sl 0 Z).2;rcases M with _|M
 ·cases F
 refine X0 5 Z (qi Z F ?_ ?_)<;>intro F
 ·refine zKSBSR ?_;obtain⟨_,_,F,u,_,_,_,_,x,A,rfl,p⟩:=R.ix F;refine zxe x A u Z (zc 0 (p.below h.below) Z (X0 6 Z ?_));obtain⟨S,_,F,i,_,_,_,_,y,B,rfl,s⟩:=(h.sl 1 Z).1.ix F;refine zx y B ⟨i.1,qD i.2.1 (h.sl 1 Z).2⟩ Z (zc 0 s Z (qG qa [.tmp 27] _ ([S]:List Int) h Z Z Z Z Z Z Z Z Z ⟨rfl,trivial⟩ Z fun _ _ _ h=>?_));obtain⟨_,a,F⟩:=qd F;obtain⟨O,a⟩:=qaD a;refine qcs qa 1 h Z (h.sl 0 Z).1 (h.sl 0 Z).2 Z Z Z Z Z Z Z Z Z O a Z fun _ _ _ _ h=>X0 7 Z ?_;replace h:=h.pick [1,2] Z;exact rK ⟨_,_,_,_,_,_,F,rfl,h⟩ Z
 refine qr Z ?_;obtain rfl:=qb F;replace F:=l;refine X0 5 Z ?_;obtain rfl:=qb F;exact rO 0 h Z ⟨rfl,trivial⟩
end Go.Fw


namespace Go.Fw
open Go Go.Proofs Go.Proofs.Tryz
open Go.RowKit (Below)
set_option maxRecDepth 100000
set_option maxHeartbeats 1600000
variable {n:Nat}{w:World}{cs1 cs2 cs3 cs4 cs5 cs6 cs7 cs8 cs9:List Value}
def qed (g:(List Int))(d:Int)(f:Int)(h:Int):Nat→(List qv)→Int→Option ((List qv)×Int)
 | 0,_,_=>U
 | n+1,b,a=>
  bif decide (a<2) then
   (idx g d).bind fun i=>
   (appS b ([(⟨W64 ((W64 (2*i))+a),W64 ((W64 (2*h))+a),2,f⟩:qv)]:List qv)).bind fun c=>
   qed g d f h n c (W64 (a+1))
  else
   V (b,a)
def qej (g:(List Int))(f:Int)(d:(List Int)):Nat→(List qv)→Int→Option ((List qv)×Int)
 | 0,_,_=>U
 | n+1,b,a=>
  bif decide (a<(d.length:Int)) then
   (idx d a).bind fun h=>
   (qed g f a h n b 0).bind fun o=>match o with
   | (c,_)=>
    qej g f d n c (W64 (a+1))
  else
   V (b,a)
def qei (a:qe)(h:(List (List Int)))(i:(List Int)):Nat→(List (List Int))→(List Int)→(List qv)→Int→Option ((List (List Int))×(List Int)×(List qv)×Int)
 | 0,_,_,_,_=>U
 | n+1,k,l,c,b=>
  bif decide (b<(a.Af.length:Int)) then
   (qdQ n a b).bind fun m=>
   (idx m 0).bind fun r=>
   (appS l ([r]:List Int)).bind fun d=>
   (qeD n a b).bind fun p=>
   (appS k ([p]:List (List Int))).bind fun f=>
   (idx h b).bind fun s=>
   (qej i b s n c 0).bind fun o=>match o with
   | (g,_)=>
    qei a h i n f d g (W64 (b+1))
  else
   V (k,l,c,b)
def qdk (c:(List Tplace)):Nat→(List (List Int))→(List Int)→Int→Option ((List (List Int))×(List Int)×Int)
 | 0,_,_,_=>U
 | n+1,d,f,a=>
  bif decide (a<(c.length:Int)) then
   (idx c a).bind fun b=>
   bif b.drives then
    (idx f b.net).bind fun _=>
    qdk c n d (setS f b.net a) (W64 (a+1))
   else
    (idx d b.net).bind fun h=>
    (appS h ([a]:List Int)).bind fun g=>
    qdk c n (setS d b.net g) f (W64 (a+1))
  else
   V (d,f,a)
def qep (a:qe):Nat→(List qv)→Int→Int→Option ((List qv)×Int×Int)
 | 0,_,_,_=>U
 | n+1,d,c,b=>
  bif decide (b<(a.Aa.Ab.length:Int)) then
   (idx a.Aa.Ab b).bind fun f=>
   (qfI n a f c).bind fun g=>
   (appS d g).bind fun i=>
   (qbB n f.Ai).bind fun h=>
   qep a n i (W64 (c+h)) (W64 (b+1))
  else
   V (d,c,b)
def qk7 (n:Nat)(a:qe):Option (Option Tview):=
 (qcy n (⟨a.Aa.Ab,a.Aa.Ai,a.Aa.Ah⟩:qg)).bind fun c=>
 (qep a n ([]:List qv) 0 0).bind fun o=>match o with
 | (d,_,_)=>
  (mkS (a.Af.length:Int) (0:Int)).bind fun f=>
  (mkS (a.Af.length:Int) ([]:(List Int))).bind fun g=>
  (qdk c n g f 0).bind fun o=>match o with
  | (h,i,_)=>
   (qei a h i n ([]:List (List Int)) ([]:List Int) d 0).bind fun o=>match o with
   | (k,l,b,_)=>
    V (V (⟨(⟨(⟨a.Ar.Ap⟩:qt),(⟨a.Aa.Ab,a.Aa.Ai,a.Aa.Ah⟩:qg),a.Af⟩:qe),c,b,l,k,[]⟩:Tview))
theorem qqJ {n:Nat}{w:World}{a:qe}{cs1:List Value}(N:Ro w a cs1){r:(Option Tview)}(F:qk7 n a=V r):RetZ prog 155 [GoT.v qe cs1] w (fun us L=>∃(uS1:Nat→Prop) (up2:Option Addr) (uln3:Nat) (uk4:Nat) (ux5:List (List Int)) (uS6:Nat→Prop) (up7:Option Addr) (uln8:Nat) (uk9:Nat) (ux10:List Int) (uS11:Nat→Prop) (up12:Option Addr) (I:Nat) (uk14:Nat) (ux15:List qv) (H:Nat) (uS17:Nat→Prop) (up18:Option Addr) (J:Nat) (uk20:Nat) (ux21:List Tplace),r=(V (⟨a,ux21,ux15,ux10,ux5,[]⟩:Tview))∧us=[GoT.v (Option Tview) [.pointer (V ⟨H,0,U⟩)]]∧L=[Ch.own uS1 (ux5:List (List Int)) [.slice up2 uln3 uk4],Ch.own uS6 (ux10:List Int) [.slice up7 uln8 uk9],Ch.own uS11 (ux15:List qv) [.slice up12 I uk14],Ch.box H (cs1++[.slice up18 J uk20,.slice up12 I uk14,.slice up7 uln8 uk9,.slice up2 uln3 uk4,.slice U 0 0]) 115,Ch.own uS17 (ux21:List Tplace) [.slice up18 J uk20]]):=by
 obtain⟨A,v,s,p,B,x,C,y,D,z,rfl,_,s2,s3,s4,_⟩:=qE N;refine qmI func155 Z (m:=156) Z Z (fun h=>?_);refine zSR (qw h Z Z fun w1 c h=>X0 3 Z (rA [] [0] h Z fun _ h=>M2 7 [0,1,2] 0 0 (h.pick [0] Z) Z (Ao 3 15 Z (zcL h F (qff (qav _ (h.oldS s2) (h.oldS s3) (h.oldS s4))) Z fun d _ S1 o l h F=>Ag (h.pick [1] Z) (Aw 4 31 (fun w' hw=>qaf qa [0,1] [.tmp 15,.tmp 18] Z Z Z Z Z Z Z Z) (h.pick [1] Z) Z ?_)))));refine Ao 5 63 Z (qw h Z Z fun _ b h=>G0 127 [6] (h.pick [2] Z) Z (Ad (X1 13 2 h Z ?_)));replace h:=h.nil (α:=qv);obtain⟨o1,F,hK1⟩:=qd F;refine qn (rL (fun m e w'=>∃(S2:Nat→Prop) (p7:Option Addr) (ln1:Nat) (k7:Nat) (x1:(List qv)) (i1:Int) (i2:Int),qep a m x1 i1 i2=V o1∧e=[(1,.pointer (V ⟨c,0,U⟩)),(3,.pointer (V ⟨b,0,U⟩)),(4,.int .i64 i1),(23,.slice s a.Aa.Ab.length p),(24,.int .i64 (a.Aa.Ab.length:Int)),(25,.int .i64 i2)]∧SH w w' [Ch.own S2 (x1:List qv) [.slice p7 ln1 k7],Ch.box b [.slice A a.Ar.Ap.length v,.slice s a.Aa.Ab.length p,.slice B a.Aa.Ai.length x,.slice C a.Aa.Ah.length y,.slice D a.Af.length z,.slice o d.length l,.slice p7 ln1 k7,.slice U 0 0,.slice U 0 0,.slice U 0 0] 115,Ch.own S1 (d:List Tplace) [.slice o d.length l],Ch.box c (qJ a A s B C D v p x y z) 57]) n ⟨_,_,_,_,_,_,_,F,rfl,h⟩ Z ?_);rintro m1 _ _ ⟨S2,p7,ln1,k7,x1,i1,i2,F,rfl,h⟩;obtain rfl:=(h.sl 0 Z).2;rcases m1 with _|m1
 ·cases F
 refine X0 5 Z (qi Z F ?_ ?_)<;>intro F
 ·refine zKSBSR ?_;obtain⟨y1,_,F,he1,_,_,_,_,hp1,hq1,hr2,hc2⟩:=s2.ix F;obtain⟨_,_,rfl,s6⟩:=qW hr2;refine zxe hp1 hq1 he1 Z (zc 0 (hc2.below h.below) Z (qp qa h Z Z Z fun _ _ h=>zs 0 h Z fun _ h=>zNS (rA [12] [0,2,4] h Z fun _ h=>M3 255 [0,1,2,3,4,5,6,7] 1 2 0 (h.pick [0,2,4] Z) Z (Ao 8 511 Z (zcL h F (qmU (h.old N) (qhl y1 (h.oldS s6))) Z fun _ _ _ _ _ h F=>Ag (h.pick [1,3,5] Z) (Ao 9 1023 Z ?_))))));obtain⟨_,hx1,F⟩:=qd F;obtain⟨g1,hx1⟩:=qaD hx1;refine qcs qa 2 h Z (h.sl 0 Z).1 (h.sl 0 Z).2 Z Z Z Z Z Z Z Z Z g1 hx1 Z fun _ _ _ _ h=>Ag (h.pick [1,3,5] Z) (Ao 10 2047 Z (zp1 Z (G0 4095 [11] (h.pick [1,3,5] Z) Z (Ao 12 8191 Z (zs 3 h Z fun _ h=>qbz (fun hs=>absurd (hs 12 (by decide)) (by decide)) (Ad (X1 4 1 h Z (zcI h F (qcM ⟨_,_,rfl,(h.oldS s6)⟩) Z fun _ _ h F=>X0 8 Z ?_))))))));replace h:=h.pick [2,3,4,5] Z;exact rK ⟨_,_,_,_,_,_,_,F,rfl,h⟩ Z
 refine qr Z ?_;obtain rfl:=qb F;replace F:=hK1;refine X1 5 3 h Z ?_;obtain⟨i,hx2,F⟩:=qd F;obtain⟨g2,g3,hx2⟩:=qR hx2;refine qas qa Int h Z Z Z Z Z Z Z Z Z g2 g3 hx2 Z fun _ S5 f h=>X1 7 4 h Z ?_;obtain⟨k,hx3,F⟩:=qd F;obtain⟨g4,g5,hx3⟩:=qR hx3;refine qas qa (List Int) h Z Z Z Z Z Z Z Z Z g4 g5 hx3 Z fun _ _ g h=>X1 12 3 h Z ?_;obtain⟨o2,F,hK2⟩:=qd F;refine qn (rL (fun m e w'=>∃(S7:Nat→Prop) (x5:(List (List Int))) (M:(List Int)) (i3:Int),qdk d m x5 M i3=V o2∧e=[(1,.pointer (V ⟨c,0,U⟩)),(3,.pointer (V ⟨b,0,U⟩)),(7,.slice f i.length i.length),(8,.slice g k.length k.length),(58,.slice o d.length l),(59,.int .i64 (d.length:Int)),(60,.int .i64 i3)]∧SH w w' [Ch.own S7 (x5:List (List Int)) [.slice g k.length k.length],Ch.own S5 (M:List Int) [.slice f i.length i.length],Ch.own S2 (x1:List qv) [.slice p7 x1.length k7],Ch.box b [.slice A a.Ar.Ap.length v,.slice s a.Aa.Ab.length p,.slice B a.Aa.Ai.length x,.slice C a.Aa.Ah.length y,.slice D a.Af.length z,.slice o d.length l,.slice p7 x1.length k7,.slice U 0 0,.slice U 0 0,.slice U 0 0] 115,Ch.own S1 (d:List Tplace) [.slice o d.length l],Ch.box c (qJ a A s B C D v p x y z) 57]) n ⟨_,_,_,_,F,rfl,h⟩ Z ?_);rintro m2 _ _ ⟨S7,x5,M,i3,F,rfl,h⟩;rcases m2 with _|m2
 ·cases F
 refine X0 5 Z (qi Z F ?_ ?_)<;>intro F
 ·refine X0 6 Z ?_;obtain⟨y2,_,F,he2,_,_,_,_,hp2,hq2,hr5,hc4⟩:=(h.sl 4 Z).1.ix F;obtain rfl:=qfL hr5;refine zx hp2 hq2 ⟨he2.1,qD he2.2.1 (h.sl 4 Z).2⟩ Z (zc 0 hc4 Z (qp qa h Z Z Z fun _ bb4 h=>zp1 Z (zs 0 h Z fun _ h=>X1 6 0 h Z (qi Z F ?_ ?_))))<;>intro F
  ·refine X1 5 0 h Z ?_;obtain⟨_,hy3,F,he3,_,_,_,_,hp3,hq3,rfl,hc6⟩:=(h.sl 2 Z).1.ix F;refine zx hp3 hq3 ⟨he3.1,qD he3.2.1 (h.sl 2 Z).2⟩ Z (qao qa 2 0 i3 h Z hy3 hp3 hq3 Z hc6 Z Z Z Z Z Z Z fun _ h=>X0 6 Z ?_);replace h:=h.pick [1,2,3,4,5,6] Z;exact rK ⟨_,_,_,_,F,rfl,h⟩ Z
  obtain⟨_,hy4,F⟩:=qd F;have O:=qc1 hy4;replace h:=h.pick [1,0,2,3,4,5,6] Z;obtain⟨_,S9,_,h⟩:=h.take hy4;obtain⟨_,_,rfl,-⟩:=h.own 0 Z;refine rA [12] [1,2] h Z fun _ h=>M2 63 [0,1,2,3,4,5] 1 1 (h.pick [1,2] Z) Z ?_;obtain⟨_,hp4,-,-,hl2⟩:=h.holeAt 1 Z;obtain⟨q4,hq4⟩:∃ q,q=0+(y2.net).toNat*GoT.k (List Int):=⟨_,rfl⟩;refine Ax 6 127 hp4 hq4 ⟨O.1,qD O.2.1 hl2⟩ (h.pick [1,2] Z) Z (Aw 7 255 (fun w' hw=>qia qa (qc5 hw 0 Z hp4 hq4) (j:=0) Z Z Z) (h.pick [1,2] Z) Z ?_);refine M0 511 [8] (h.pick [1,2] Z) Z (Ao 9 1023 Z (qG qa [.tmp 80] _ ([i3]:List Int) h Z Z Z Z Z Z Z Z Z ⟨rfl,trivial⟩ Z fun _ p14 S10 h=>Ag (h.pick [2,3] Z) (Ao 10 2047 Z ?_)));obtain⟨x7,hx4,F⟩:=qd F;obtain⟨g6,hx4⟩:=qaD hx4;refine qcs qa 1 h Z (h.sl 0 Z).1 (h.sl 0 Z).2 Z Z Z Z Z Z Z Z Z g6 hx4 Z fun _ p15 k12 S11 h=>Ag (h.pick [2,3] Z) ?_;obtain⟨_,hp5,-,-,hl4⟩:=h.holeAt 2 Z;obtain⟨q5,hq5⟩:∃ q,q=0+(y2.net).toNat*GoT.k (List Int):=⟨_,rfl⟩;refine Ax 11 4095 hp5 hq5 ⟨O.1,qD O.2.1 hl4⟩ (h.pick [2,3] Z) Z (Ao 12 8191 Z (qhT qa 2 0 h Z hp5 hq5 Z Z Z Z Z Z fun _ h=>?_));replace h:SH _ _ [Ch.own S10 (([i3]:List Int):List Int) [.slice p14 1 1],Ch.own S11 (x7:List Int) [.slice p15 x7.length k12],Ch.hole S9 (x5:List (List Int)) g k.length k.length (y2.net).toNat [.slice p15 x7.length k12],Ch.box bb4 (qsE y2) 197,Ch.own S5 (M:List Int) [.slice f i.length i.length],Ch.own S2 (x1:List qv) [.slice p7 x1.length k7],Ch.box b [.slice A a.Ar.Ap.length v,.slice s a.Aa.Ab.length p,.slice B a.Aa.Ai.length x,.slice C a.Aa.Ah.length y,.slice D a.Af.length z,.slice o d.length l,.slice p7 x1.length k7,.slice U 0 0,.slice U 0 0,.slice U 0 0] 115,Ch.own S1 (d:List Tplace) [.slice o d.length l],Ch.box c (qJ a A s B C D v p x y z) 57]:=h;refine qbz (fun hs=>absurd (hs 12 (by decide)) (by decide)) (Ad (X0 5 Z ?_));replace h:=h.pick [1,2,0,3,4,5,6,7,8] Z;replace h:=h.put;obtain⟨_,h⟩:=qqz (S:=_) h;replace h:=h.pick [0,3,4,5,6,7] Z;exact rK ⟨_,_,_,_,F,rfl,h⟩ Z
 refine qr Z ?_;obtain rfl:=qb F;replace F:=hK2;refine X1 8 5 h Z ?_;replace h:=h.nil (α:=Int);replace h:=h.nil (α:=(List Int));obtain⟨o3,F,hK3⟩:=qd F;refine qn (rL (fun m e w'=>∃(S13:Nat→Prop) (a3:Option Addr) (ln2:Nat) (Q:Nat) (x8:(List (List Int))) (S14:Nat→Prop) (a4:Option Addr) (ln3:Nat) (R:Nat) (x9:(List Int)) (S15:Nat→Prop) (a5:Option Addr) (ln4:Nat) (T:Nat) (K:(List qv)) (P:Int),qei a x5 M m x8 x9 K P=V o3∧e=[(1,.pointer (V ⟨c,0,U⟩)),(3,.pointer (V ⟨b,0,U⟩)),(7,.slice f i.length i.length),(8,.slice g k.length k.length),(87,.int .i64 (a.Af.length:Int)),(88,.int .i64 P)]∧SH w w' [Ch.own S13 (x8:List (List Int)) [.slice a3 ln2 Q],Ch.own S14 (x9:List Int) [.slice a4 ln3 R],Ch.own S7 (x5:List (List Int)) [.slice g k.length k.length],Ch.own S5 (M:List Int) [.slice f i.length i.length],Ch.own S15 (K:List qv) [.slice a5 ln4 T],Ch.box b [.slice A a.Ar.Ap.length v,.slice s a.Aa.Ab.length p,.slice B a.Aa.Ai.length x,.slice C a.Aa.Ah.length y,.slice D a.Af.length z,.slice o d.length l,.slice a5 ln4 T,.slice a4 ln3 R,.slice a3 ln2 Q,.slice U 0 0] 115,Ch.own S1 (d:List Tplace) [.slice o d.length l],Ch.box c (qJ a A s B C D v p x y z) 57]) n ⟨_,_,_,_,_,_,_,_,_,_,_,_,_,_,_,_,F,rfl,h⟩ Z ?_);rintro m3 _ _ ⟨S13,a3,ln2,Q,x8,S14,a4,ln3,R,x9,S15,a5,ln4,T,K,P,F,rfl,h⟩;obtain rfl:=(h.sl 0 Z).2;obtain rfl:=(h.sl 1 Z).2;obtain rfl:=(h.sl 4 Z).2;rcases m3 with _|m3
 ·cases F
 refine X0 5 Z (qi Z F ?_ ?_)<;>intro F
 ·refine X0 9 Z (rA [14] [5,7] h Z fun _ h=>M2 127 [0,1,2,3,4,5,6] 0 1 (h.pick [5,7] Z) Z (Ao 7 255 Z (zcL h F (qgd (h.old N)) Z fun _ _ _ _ _ h F=>Ag (h.pick [6,8] Z) ?_)));obtain⟨y5,_,F,he5,_,_,_,_,hp6,hq6,rfl,hc8⟩:=(h.sl 0 Z).1.ix F;refine Ax 8 511 hp6 hq6 ⟨he5.1,qD he5.2.1 (h.sl 0 Z).2⟩ (h.pick [6,8] Z) Z (Ao 9 1023 Z (zc 0 hc8 Z (Ag (h.pick [6,8] Z) (Ao 10 2047 Z (qG qa [.tmp 100] _ ([y5]:List Int) h Z Z Z Z Z Z Z Z Z ⟨rfl,trivial⟩ Z fun _ _ _ h=>Ag (h.pick [7,9] Z) (Ao 11 4095 Z ?_))))));obtain⟨t,hx5,F⟩:=qd F;obtain⟨g7,hx5⟩:=qaD hx5;refine qcs qa 3 h Z (h.sl 0 Z).1 (h.sl 0 Z).2 Z Z Z Z Z Z Z Z Z g7 hx5 Z fun _ a6 W S18 h=>Ag (h.pick [7,9] Z) (Ao 12 8191 Z (zp1 Z (G0 16383 [13] (h.pick [7,9] Z) Z (Ao 14 32767 Z (zs 7 h Z fun _ h=>qbz (fun hs=>absurd (hs 14 (by decide)) (by decide)) (Ad (qcx (rA [12] [7,9] h Z fun _ h=>M2 127 [0,1,2,3,4,5,6] 0 1 (h.pick [7,9] Z) Z (Ao 7 255 Z (zcL h F (qmb (h.old N)) Z fun r5 _ _ _ _ h F=>Ag (h.pick [8,10] Z) (Ao 8 511 Z (qx6 qa [.tmp 112] _ ([r5]:List (List Int)) [1,2,3,4,5,6,7,8,9,10] h Z Z Z Z Z Z Z Z Z (qy5 (qak 0 h Z) qzY Z) Z Z fun _ _ _ h=>Ag (h.pick [8,10] Z) (Ao 9 1023 Z ?_)))))))))))));obtain⟨u,hx6,F⟩:=qd F;obtain⟨g8,hx6⟩:=qaD hx6;replace h:=h.pick [0,3,1,2,4,5,6,7,8,9,10] Z;refine qAd qa h Z Z Z Z Z Z Z Z Z g8 hx6 Z fun _ a7 X S21 h=>Ag (h.pick [7,9] Z) (Ao 10 2047 Z (zp1 Z (G0 4095 [11] (h.pick [7,9] Z) Z (Ao 12 8191 Z (zs 7 h Z fun _ h=>qbz (fun hs=>absurd (hs 12 (by decide)) (by decide)) (Ad (X0 4 Z ?_)))))));obtain⟨y6,hy6,F⟩:=qd F;have he6:=qc1 hy6;replace h:=h.lrn0 4 Z;obtain⟨_,o_5,_,_,hp7,hq7,-,hr10,hc9⟩:=(qmD (h.lrnO 4 Z)).1.at hy6;have hr11:=hr10;obtain⟨a8,Y,rfl,_⟩:=hr10;replace h:=h.lrnAdd 4 Z hr11;refine zx hp7 hq7 ⟨he6.1,qD he6.2.1 (qmD (h.lrnO 4 Z)).2⟩ Z (zc 0 hc9 Z (X0 3 Z ?_));obtain⟨o4,F,hK4⟩:=qd F;refine qn ?_;replace h:=h.pick [0,3,4,5,6,7,8,9] Z;refine rL (fun m e w'=>∃(S22:Nat→Prop) (p26:Option Addr) (ln5:Nat) (k21:Nat) (x13:(List qv)) (i5:Int),qej M P y6 m x13 i5=V o4∧e=[(1,.pointer (V ⟨c,0,U⟩)),(3,.pointer (V ⟨b,0,U⟩)),(7,.slice f i.length i.length),(8,.slice g k.length k.length),(11,.int .i64 P),(87,.int .i64 (a.Af.length:Int)),(88,.int .i64 P),(120,.slice a8 y6.length Y),(121,.int .i64 (y6.length:Int)),(122,.int .i64 i5)]∧SH w w' [Ch.own S21 (u:List (List Int)) [.slice a7 u.length X],Ch.own S18 (t:List Int) [.slice a6 t.length W],Ch.lrn S7 (x5:List (List Int)) [.slice g k.length k.length] [fct (y6:(List Int)) [.slice a8 y6.length Y]],Ch.own S5 (M:List Int) [.slice f i.length i.length],Ch.own S22 (x13:List qv) [.slice p26 ln5 k21],Ch.box b [.slice A a.Ar.Ap.length v,.slice s a.Aa.Ab.length p,.slice B a.Aa.Ai.length x,.slice C a.Aa.Ah.length y,.slice D a.Af.length z,.slice o d.length l,.slice p26 ln5 k21,.slice a6 t.length W,.slice a7 u.length X,.slice U 0 0] 115,Ch.own S1 (d:List Tplace) [.slice o d.length l],Ch.box c (qJ a A s B C D v p x y z) 57]) m3 ⟨_,_,_,_,_,_,F,rfl,h⟩ Z ?_;rintro m4 _ _ ⟨S22,p26,ln5,k21,x13,i5,F,rfl,h⟩;obtain rfl:=(h.sl 4 Z).2;rcases m4 with _|m4
  ·cases F
  refine X0 5 Z (qi Z F ?_ ?_)<;>intro F
  ·refine X0 6 Z ?_;obtain⟨y7,_,F,he7,_,_,_,_,hp8,hq8,rfl,hc11⟩:=(qmD (GoT.mono (h.lrnS 2 0 Z Z) (h.lrnB 2 Z))).1.ix F;refine zx hp8 hq8 ⟨he7.1,qD he7.2.1 (qmD (GoT.mono (h.lrnS 2 0 Z Z) (h.lrnB 2 Z))).2⟩ Z (zc 0 hc11 Z (X0 7 Z ?_));obtain⟨o5,F,hK5⟩:=qd F;refine qn (rL (fun m e w'=>∃(S23:Nat→Prop) (p27:Option Addr) (ln6:Nat) (k22:Nat) (x14:(List qv)) (i6:Int),qed M P i5 y7 m x14 i6=V o5∧e=[(1,.pointer (V ⟨c,0,U⟩)),(3,.pointer (V ⟨b,0,U⟩)),(7,.slice f i.length i.length),(8,.slice g k.length k.length),(11,.int .i64 P),(12,.int .i64 i5),(13,.int .i64 y7),(87,.int .i64 (a.Af.length:Int)),(88,.int .i64 P),(120,.slice a8 y6.length Y),(121,.int .i64 (y6.length:Int)),(122,.int .i64 i5),(127,.int .i64 i6)]∧SH w w' [Ch.own S21 (u:List (List Int)) [.slice a7 u.length X],Ch.own S18 (t:List Int) [.slice a6 t.length W],Ch.lrn S7 (x5:List (List Int)) [.slice g k.length k.length] [fct (y6:(List Int)) [.slice a8 y6.length Y]],Ch.own S5 (M:List Int) [.slice f i.length i.length],Ch.own S23 (x14:List qv) [.slice p27 ln6 k22],Ch.box b [.slice A a.Ar.Ap.length v,.slice s a.Aa.Ab.length p,.slice B a.Aa.Ai.length x,.slice C a.Aa.Ah.length y,.slice D a.Af.length z,.slice o d.length l,.slice p27 ln6 k22,.slice a6 t.length W,.slice a7 u.length X,.slice U 0 0] 115,Ch.own S1 (d:List Tplace) [.slice o d.length l],Ch.box c (qJ a A s B C D v p x y z) 57]) m4 ⟨_,_,_,_,_,_,F,rfl,h⟩ Z ?_);rintro m5 _ _ ⟨S23,p27,ln6,k22,x14,i6,F,rfl,h⟩;obtain rfl:=(h.sl 4 Z).2;rcases m5 with _|m5
   ·cases F
   refine X0 5 Z (qi Z F ?_ ?_)<;>intro F
   ·refine X0 8 Z (rA [22] [3,5] h Z fun _ h=>M1 127 [0,1,2,3,4,5,6] 1 (h.pick [3,5] Z) Z ?_);obtain⟨y8,hy8,F,he8,_,_,_,_,hp9,hq9,rfl,_⟩:=(h.sl 3 Z).1.ix F;refine Ax 7 255 hp9 hq9 ⟨he8.1,qD he8.2.1 (h.sl 3 Z).2⟩ (h.pick [3,5] Z) Z (Aw 8 511 (fun w' hw=>qia qa (qbH (w1:=w) (S1:=fun _=>False) hw 0 Z hy8 hp9 hq9 Z) (j:=0) Z Z Z) (h.pick [3,5] Z) Z ?_);refine M0 131071 [9,10,11,12,13,14,15,16] (h.pick [3,5] Z) Z (Aw 17 262143 (fun w' hw=>qaf qa [0,1,2,3] [.tmp 141,.tmp 145,.const (.int .i64 (2)),.tmp 146] Z Z Z Z Z Z Z Z) (h.pick [3,5] Z) Z ?_);refine Ao 18 524287 Z (qG qa [.tmp 147] _ ([(⟨W64 ((W64 (2*y8))+i6),W64 ((W64 (2*y7))+i6),2,i5⟩:qv)]:List qv) h Z Z Z Z Z Z Z Z Z ⟨(qcm (⟨W64 ((W64 (2*y8))+i6),W64 ((W64 (2*y7))+i6),2,i5⟩:qv)),trivial⟩ Z fun _ _ _ h=>Ag (h.pick [4,6] Z) (Ao 19 1048575 Z ?_));obtain⟨_,hx7,F⟩:=qd F;obtain⟨g9,hx7⟩:=qaD hx7;refine qcs qa 5 h Z (h.sl 0 Z).1 (h.sl 0 Z).2 Z Z Z Z Z Z Z Z Z g9 hx7 Z fun _ _ _ _ h=>Ag (h.pick [4,6] Z) (Ao 20 2097151 Z (zp1 Z (G0 4194303 [21] (h.pick [4,6] Z) Z (Ao 22 8388607 Z (zs 6 h Z fun _ h=>qbz (fun hs=>absurd (hs 22 (by decide)) (by decide)) (Ad (X0 5 Z ?_)))))));replace h:=h.pick [1,2,3,4,5,6,7,8] Z;exact rK ⟨_,_,_,_,_,_,F,rfl,h⟩ Z
   refine qr Z ?_;obtain rfl:=qb F;replace F:=hK5;exact X0 5 Z (rK ⟨_,_,_,_,_,_,F,rfl,h⟩ Z)
  refine qr Z ?_;obtain rfl:=qb F;replace F:=hK4;refine X0 5 Z ?_;replace h:=h.unlrn 2 Z;exact rK ⟨_,_,_,_,_,_,_,_,_,_,_,_,_,_,_,_,F,rfl,h⟩ Z
 refine qr Z ?_;obtain rfl:=qb F;replace F:=hK3;refine X0 5 Z ?_;obtain rfl:=qb F;replace h:=h.pick [0,1,4,5,6] Z;exact qmT qa [GoT.v (Option Tview) [.pointer (V ⟨b,0,U⟩)]] h ⟨rfl,trivial⟩ ⟨S13,a3,x8.length,Q,x8,S14,a4,x9.length,R,x9,S15,a5,K.length,T,K,b,S1,o,d.length,l,d,rfl,rfl,rfl⟩
def qb8 (c:qz):Nat→Int→Option (Flow Bool Int)
 | 0,_=>U
 | n+1,a=>
  bif decide (a<((4:Nat):Int)) then
   (idx ([c.Bc,c.Be,c.Bd,c.Bh]:List Int) a).bind fun d=>
   (qaB n d 100 5000).bind fun b=>
   bif (!b) then V (.ret false) else
   qb8 c n (W64 (a+1))
  else
   V (.nxt a)
def qfV (n:Nat)(c:qz):Option Bool:=
 (qb8 c n 0).bind fun o=>match o with
 | .ret r=>V r
 | .nxt _=>
  (qgD n c.Az).bind fun a=>
  bif a then
   bif decide (c.Bc≤c.Be) then V (decide (c.Bd≤c.Bh)) else
   V false
  else
   V false
theorem qmW {c:qz}(f:Ro w c cs1){r:Bool}(F:qfV n c=V r):RetV prog 77 [GoT.v qz cs1] w r:=by
 obtain rfl:=qag f;refine zV 43 func77 Z fun h=>zSR (qw h Z Z fun _ a h=>X4 12 0 0 0 0 h Z (qG qa [.tmp 6,.tmp 8,.tmp 10,.tmp 12] _ ([c.Bc,c.Be,c.Bd,c.Bh]:List Int) h Z Z Z Z Z Z Z Z Z ⟨rfl,rfl,rfl,rfl,trivial⟩ Z fun _ p S1 h=>X0 7 Z ?_));obtain⟨s,F,b⟩:=qd F;refine qn (rL (fun m e w'=>∃(l:Int),qb8 c m l=V s∧e=[(1,.pointer (V ⟨a,0,U⟩)),(3,.slice p 4 4),(4,.int .i64 l)]∧SH w w' [Ch.own S1 (([c.Bc,c.Be,c.Bd,c.Bh]:List Int):List Int) [.slice p 4 4],Ch.box a (qam c) 59]) n ⟨_,F,rfl,h⟩ Z ?_);rintro o _ _ ⟨l,F,rfl,h⟩;rcases o with _|o
 ·cases F
 refine X0 8 Z (qi Z F ?_ ?_)<;>intro F
 ·refine X0 7 Z ?_;obtain⟨_,_,F,d,_,_,_,_,i,k,rfl,g⟩:=(h.sl 0 Z).1.ix F;refine zx i k ⟨d.1,qD d.2.1 (h.sl 0 Z).2⟩ Z (zc 0 g Z (zcB h F qah Z fun _ _ h F=>X0 2 Z (qi Z F ?_ ?_)))<;>intro F
  ·refine X0 4 Z ?_;obtain rfl:=qb F;replace F:=b;exact rb h F Z
  exact X0 7 Z (rK ⟨_,F,rfl,h⟩ Z)
 refine qr Z ?_;obtain rfl:=qb F;replace F:=b;refine X1 4 1 h Z (zcB h F qiP Z fun _ _ h F=>zp1 Z (qj (t:=29) F Z ?_ ?_))<;>intro F
 ·refine X2 12 1 1 h Z (qj (t:=36) F Z ?_ ?_)<;>intro F
  ·exact X2 13 1 1 h Z (rb h F Z)
  exact X0 8 Z (rb h F Z)
 exact X0 15 Z (rb h F Z)
def qgX (_:Nat)(early:Int)(late:Int):Option Bool:=
 bif decide (early ≥ 100) then
  bif decide (early≤late) then V (decide (late≤5000)) else
  V false
 else
  V false
theorem qlE {early:Int}{late:Int}  {r:Bool}(F:qgX n early late=V r):RetV prog 147 [.int .i64 early,.int .i64 late] w r:=by
 refine zV 16 func147 Z fun h=>X0 9 Z (qj (t:=7) F Z ?_ ?_)<;>intro F
 ·refine X0 8 Z (qj (t:=12) F Z ?_ ?_)<;>intro F
  ·exact X0 7 Z (rb h F Z)
  exact X0 5 Z (rb h F Z)
 exact X0 10 Z (rb h F Z)
def qfY (n:Nat)(c:qz):Option Bool:=
 (qjc n c.Az).bind fun a=>
 bif a then
  (qgX n c.Bc c.Be).bind fun b=>
  bif b then
   (qgX n c.Bd c.Bh).bind fun d=>
   V d
  else
   V false
 else
  V false
theorem qne {c:qz}(a:Ro w c cs1){r:Bool}(F:qfY n c=V r):RetV prog 94 [GoT.v qz cs1] w r:=by
 obtain rfl:=qag a;refine zV 20 func94 Z fun h=>zSR (qw h Z Z fun _ _ h=>X1 6 0 h Z (zcB h F qlU Z fun _ _ h F=>zp1 Z (qj (t:=6) F Z ?_ ?_)))<;>intro F
 ·refine X2 9 0 0 h Z (zcB h F qlE Z fun _ _ h F=>zp2 Z (qj (t:=13) F Z ?_ ?_))<;>intro F
  ·exact X2 9 0 0 h Z (zcB h F qlE Z fun _ _ h F=>X0 3 Z (rb h F Z))
  exact X0 8 Z (rb h F Z)
 exact X0 15 Z (rb h F Z)
def qkl (_:Nat)(a:qz)(left:Int):Option Int:=
 bif decide ((W64 (left-(a.Az.size:Int)))<0) then V (-1) else
 V (W64 (left-(a.Az.size:Int)))
theorem qqW {a:qz}{left:Int}(b:Ro w a cs1){r:Int}(F:qkl n a left=V r):RetV prog 6 [GoT.v qz cs1,.int .i64 left] w r:=by
 obtain rfl:=qag b;refine zV 13 func6 Z fun h=>zSR (qw h Z Z fun _ _ h=>X1 17 0 h Z (qi Z F ?_ ?_))<;>intro F
 ·exact X0 4 Z (ri h F Z)
 exact X0 6 Z (ri h F Z)
def qhe (_:Nat)(a:qz):Option qz:=
 V (⟨a.Az,a.Bc,a.Be,a.Bd,a.Bh⟩:qz)
theorem qcP {a:qz}(b:Ro w a cs1){r:qz}(F:qhe n a=V r):RetV prog 11 [GoT.v qz cs1] w r:=by
 obtain rfl:=qag b;refine zV 20 func11 Z fun h=>zSR (qw h Z Z fun _ _ h=>qp qa h Z Z Z fun _ _ h=>zNSR (qp qa h Z Z Z fun _ _ h=>X1 6 2 h Z (zs 0 h Z fun _ h=>X1 6 2 h Z (zs 0 h Z fun _ h=>X1 6 2 h Z (zs 0 h Z fun _ h=>X1 6 2 h Z (zs 0 h Z fun _ h=>X1 6 2 h Z (zs 0 h Z fun _ h=>X1 4 0 h Z (zs 1 h Z fun _ h=>qcU ?_))))))));obtain rfl:=qb F;exact qX qa (ρ:=qz) [GoT.v qz (qam a)] h ⟨⟨_,_,_,rfl,rfl,h.box 1 Z,rfl⟩,trivial⟩ (PV.done h (qad (qy (S:=fun _=>False) (qmC (⟨a.Az,a.Bc,a.Be,a.Bd,a.Bh⟩:qz)))))
end Go.Fw


namespace Go.Fw
open Go
set_option maxRecDepth 100000
theorem qx7 {d:qg}{k:Int}{n i:Nat}(hi:i<(sinksL d k n).length):∃ y:Nat,y<n∧idx (sinksL d k n) (i:Int)=V (y:Int)∧snkQ d k y=true:=by
 rw[qga hi];have hm:(sinksL d k n)[i] ∈ sinksL d k n:=jq hi;generalize (sinksL d k n)[i]=z at hm;unfold sinksL at hm;obtain⟨y,hy,rfl⟩:=List.mem_map.1 hm;obtain⟨h1,h2⟩:=List.mem_filter.1 hy;exact⟨y,List.mem_range.1 h1,rfl,h2⟩
theorem qtp {d:qg}{k:Int}(h:smallD d):Ev (fun n=>qhx n d k) (sinksL d k (places d).length):=by
 have hl:=qbl h;have hL:Ev (fun n=>qbg k (places d) n ([]:List Int) 0) (sinksL d k (places d).length,((places d).length:Int)):=by
  refine loopF (Lf:=qbg k (places d)) (S:=fun j=>sinksL d k j) (len:=(places d).length) (fun n=>?_) (fun j hj X hX=>?_)
  ·simp only[qbg,ql (je _),cond_false]
  ·have hc:(sinksL d k j).length+[(j:Int)].length≤2147483648:=by
    rw[qjW];have:cntP (snkQ d k) j≤j:=qgz;simp;omega
   simp only[qbg,qk hj,cond_true,qC hj,jd,wS j];rw[qkQ] at hX;unfold snkQ at hX;cases h1:((gt (places d) j).net==k)
   ·rw[h1] at hX;simp only[Bool.false_and,cond_false,jU] at hX ⊢;exact hX
   ·cases h2:(gt (places d) j).drives
    ·rw[h1,h2] at hX;simp only[Bool.not_false,Bool.and_self,cond_true,qcS hc,jd] at hX ⊢;exact hX
    ·rw[h1,h2] at hX;simp only[jV,Bool.and_false,cond_false,jU,cond_true] at hX ⊢;exact hX
 unfold qhx;exact Ev.bind (qoS h) (Ev.bind hL .done)
structure wireOk (b:qe)(i:Nat):Prop where
 lo:1≤(gt b.Af i).Ak.length
 hi:(gt b.Af i).Ak.length≤8
 res:(gt b.Af i).Bt.length=(gt b.Af i).Ak.length
 cap:(gt b.Af i).Bq.length=(gt b.Af i).Ak.length
 par:∀ j,0<j→j<(gt b.Af i).Ak.length→0≤at0 (gt b.Af i).Ak j∧at0 (gt b.Af i).Ak j<j
 snk:(gt b.Af i).Bg.length=(sinksL b.Aa (i:Int) (places b.Aa).length).length
 sin:∀ j,j<(gt b.Af i).Bg.length→0≤at0 (gt b.Af i).Bg j∧at0 (gt b.Af i).Bg j<(gt b.Af i).Ak.length
theorem qbF {b:qe}(h:blockB b=true){i:Nat}(hi:i<b.Af.length):wireOk b i:=by
 unfold blockB at h;rw[jf,qaC] at h;have:=h.2 i hi;unfold wireB lenB at this;simp only[jf,decide_eq_true_eq,beq_iff_eq] at this;obtain⟨⟨h1,h2⟩,h3,h4,h5,_,_,h6,h7⟩:=this;refine⟨h1,h2,by omega,by omega,fun j hj0 hj=>?_,?_,fun j hj=>?_⟩
 ·have:=qaC.1 h5 j hj;unfold treeB at this;rw[show decide (j=0)=false by simp;omega] at this;simp only[cond_false,qa3] at this;omega
 ·rw[qjW];unfold snkN at h6;omega
 ·rw[qhK (d:=0),qaC] at h7;have:=h7 j hj;rw[qa3] at this;unfold at0;omega
theorem qj1 {b:qe}(h:blockB b=true):b.Af.length=b.Aa.Ai.length:=by
 unfold blockB at h;simp only[jf,beq_iff_eq] at h;omega
end Go.Fw


namespace Go.Fw
open Go
set_option maxRecDepth 100000
instance:Inhabited qv:=⟨⟨0,0,0,0⟩⟩
instance:Inhabited qU:=⟨⟨0,0⟩⟩
theorem qmw {α:Type}{m:Nat}{z:α}(h:m≤2147483648):mkS (m:Int) z=V (List.replicate m z):=by
 unfold mkS big;rw[if_pos ⟨by omega,by omega⟩,jn]
theorem qtC {α:Type}[Inhabited α]{xs:List α}{a k:Nat}{y:α}(h:k ≠ a):gt (xs.set a y) k=gt xs k:=by
 unfold gt;rw[jD,List.getElem?_set_ne (by omega),←jD]
theorem qrf {α:Type}[Inhabited α]{xs:List α}{a:Nat}{y:α}(h:a<xs.length):gt (xs.set a y) a=y:=by
 rw[qgv (by rw[List.length_set];exact h),List.getElem_set_self]
end Go.Fw


namespace Go.Fw
open Go
set_option maxRecDepth 100000
def sumZ (f:Nat→Int):Nat→Int
 | 0=>0
 | n+1=>sumZ f n+f n
theorem qwy {f g:Nat→Int}{n:Nat}(h:∀ u,u<n→f u=g u):sumZ f n=sumZ g n:=by
 induction n with
 | zero=>rfl
 | succ n ih=>unfold sumZ;rw[ih (fun u hu=>h u (by omega)),h n (by omega)]
theorem quS {f g:Nat→Int}{a n:Nat}(ha:a<n)(h:∀ u,u<n→u ≠ a→f u=g u):sumZ f n=sumZ g n+(f a-g a):=by
 induction n with
 | zero=>omega
 | succ n ih=>
  unfold sumZ;by_cases hn:a=n
  ·subst hn;rw[qwy (fun u hu=>h u (by omega) (by omega))];omega
  ·rw[ih (by omega) (fun u hu=>h u (by omega)),h n (by omega) (by omega)];omega
theorem qAm {f:Nat→Int}{n:Nat}(h:∀ u,u<n→0≤f u):0≤sumZ f n:=by
 induction n with
 | zero=>exact jY _
 | succ n ih=>unfold sumZ;have:=ih (fun u hu=>h u (by omega));have:=h n (by omega);omega
theorem quB {f:Nat→Int}{a n:Nat}(h:∀ u,u<n→0≤f u)(ha:a<n):f a≤sumZ f n:=by
 induction n with
 | zero=>omega
 | succ n ih=>
  unfold sumZ;by_cases hn:a=n
  ·subst hn;have:=qAm (fun u (hu:u<a)=>h u (by omega));omega
  ·have:=ih (fun u hu=>h u (by omega)) (by omega);have:=h n (by omega);omega
theorem qzZ {f:Nat→Int}{n:Nat}{c:Int}(h:∀ u,u<n→f u≤c):sumZ f n≤n*c:=by
 induction n with
 | zero=>simp[sumZ]
 | succ n ih=>
  unfold sumZ;have:=ih (fun u hu=>h u (by omega));have:=h n (by omega);rw[Int.natCast_succ,Int.add_mul];omega
def pinCap (b:qe)(p:Tplace):Int:=bif decide (p.instance_<0) then 0 else(gt (cellAt b p.instance_).Av p.pin.toNat).Bq
def capJ (b:qe)(j:Nat):Int:=pinCap b (gt (places b.Aa) j)
theorem qyu {b:qe}(h:blockB b=true){j:Nat}(hj:j<(places b.Aa).length){n:Nat}:qhq n b.Aa b.Ar (gt (places b.Aa) j)=V (capJ b j):=by
 have hd:=qaA h;unfold capJ pinCap;rcases qmF hj with⟨i,k,hi,hk,_,e⟩|⟨i,hi,_,e⟩
 ·rw[e];obtain⟨⟨c0,c1⟩,hn,_⟩:=qim hd hi;unfold place1 cellAt;simp only[qhq,show decide ((i:Int)<0)=false by simp,cond_false,qC hi,jd,qfW c0 c1,jn,qC (show k<(gt b.Ar.Ap (gt b.Aa.Ab i).Bo.toNat).Av.length by omega)]
 ·rw[e];rfl
theorem qyR {b:qe}(h:blockB b=true){j:Nat}(hj:j<(places b.Aa).length):0≤capJ b j∧capJ b j≤500:=by
 have hd:=qaA h;unfold capJ pinCap;rcases qmF hj with⟨i,k,hi,hk,_,e⟩|⟨i,hi,_,e⟩
 ·rw[e];obtain⟨⟨c0,c1⟩,hn,hc⟩:=qim hd hi;unfold place1 cellAt;simp only[show decide ((i:Int)<0)=false by simp,cond_false,jn];have hp:=qj2 hc;unfold pinsB at hp;rw[jf,qaC] at hp;have:=hp.1 k (by omega);unfold pinB at this;cases hl:decide (k+1=(gt b.Ar.Ap (gt b.Aa.Ab i).Bo.toNat).Av.length)
  ·rw[hl] at this;simp only[cond_false,jf,qa3] at this;exact this.2
  ·rw[hl] at this;simp only[cond_true,jf,beq_iff_eq] at this;omega
 ·rw[e];exact⟨jY _,show(0:Int)≤500 by omega⟩
def skL (b:qe)(i:Nat):List Int:=sinksL b.Aa (i:Int) (places b.Aa).length
def addSink (b:qe)(w:qH)(sk:List Int)(t:List Int)(j:Nat):List Int:=setS t (at0 w.Bg j) (W64 (gt t (at0 w.Bg j).toNat+capJ b (at0 sk j).toNat))
def ldA (b:qe)(w:qH)(sk:List Int):Nat→List Int
 | 0=>w.Bq
 | j+1=>addSink b w sk (ldA b w sk j) j
def addUp (w:qH)(t:List Int)(j:Nat):List Int:=setS t (at0 w.Ak j) (W64 (gt t (at0 w.Ak j).toNat+gt t j))
def ldB (w:qH):Nat→List Int→List Int
 | 0,t=>t
 | j+1,t=>ldB w j (addUp w t (j+1))
def loadsL (b:qe)(i:Nat):List Int:=ldB (gt b.Af i) ((gt b.Af i).Ak.length-1) (ldA b (gt b.Af i) (skL b i) (skL b i).length)
theorem qqe {b:qe}{w:qH}{sk:List Int}{j:Nat}:(ldA b w sk j).length=w.Bq.length:=by
 induction j with
 | zero=>rfl
 | succ j ih=>unfold ldA addSink;rw[qdT,ih]
theorem qz4 {w:qH}{j:Nat}{t:List Int}:(ldB w j t).length=t.length:=by
 induction j generalizing t with
 | zero=>rfl
 | succ j ih=>unfold ldB addUp;rw[ih,qdT]
theorem qnu {b:qe}(h:blockB b=true){i:Nat}(hi:i<b.Af.length):(loadsL b i).length=(gt b.Af i).Ak.length:=by
 unfold loadsL;rw[qz4,qqe,(qbF h hi).cap]
theorem qh9 {b:qe}(h:blockB b=true){i:Nat}:(skL b i).length≤78:=by
 have hl:=qbl (qai (qaA h));unfold skL;rw[qjW];have:cntP (snkQ b.Aa (i:Int)) (places b.Aa).length≤(places b.Aa).length:=qgz;omega
theorem qqP {b:qe}{i j:Nat}(hj:j<(skL b i).length):∃ y:Nat,y<(places b.Aa).length∧at0 (skL b i) j=(y:Int)∧snkQ b.Aa (i:Int) y=true:=by
 obtain⟨y,h1,h2,h3⟩:=qx7 hj;exact⟨y,h1,by have:=h2;rw[show(sinksL b.Aa (i:Int) (places b.Aa).length)=skL b i from rfl,qay hj] at this;exact Option.some.inj this,h3⟩
theorem qqh {b:qe}(h:blockB b=true){i:Nat}(hi:i<b.Af.length):Ev (fun n=>qdQ n b (i:Int)) (loadsL b i):=by
 have hw:=qbF h hi;have hs:=qai (qaA h);have hlo:=hw.lo;have hhi:=hw.hi;have hcap:=hw.cap;have hsm:=qh9 h (i:=i);have e1:Ev (fun n=>qbr b (gt b.Af i) (places b.Aa) (skL b i) n (gt b.Af i).Bq 0) (ldA b (gt b.Af i) (skL b i) (skL b i).length,((skL b i).length:Int)):=by
  refine loopF (Lf:=qbr b (gt b.Af i) (places b.Aa) (skL b i)) (S:=ldA b (gt b.Af i) (skL b i)) (len:=(skL b i).length) (fun n=>?_) (fun j hj X hX=>?_)
  ·simp only[qbr,ql (je _),cond_false]
  ·obtain⟨y,hy,ey,_⟩:=qqP hj;have hjs:j<(gt b.Af i).Bg.length:=by rw[hw.snk];exact hj
   have hsn:=hw.sin j hjs;have hln:=qqe (b:=b) (w:=gt b.Af i) (sk:=skL b i) (j:=j);simp only[qbr,qk hj,cond_true,qay hj,ey,jd,qay hjs,qfW hsn.1 (show at0 (gt b.Af i).Bg j<((ldA b (gt b.Af i) (skL b i) j).length:Int) by omega),qC hy,qyu h hy,wS j];have:ldA b (gt b.Af i) (skL b i) (j+1)=setS (ldA b (gt b.Af i) (skL b i) j) (at0 (gt b.Af i).Bg j) (W64 (gt (ldA b (gt b.Af i) (skL b i) j) (at0 (gt b.Af i).Bg j).toNat+capJ b y)):=by
    show addSink _ _ _ _ _=_;unfold addSink;rw[ey,jn]
   rw[this] at hX;exact hX
 have e2:∀ j t,t.length=(gt b.Af i).Ak.length→j<(gt b.Af i).Ak.length→Ev (fun n=>qbu (gt b.Af i) n t (j:Int)) (ldB (gt b.Af i) j t,0):=by
  intro j
  induction j with
  | zero=>
   intro t _ _;refine Ev.succ ?_;show Ev (fun n=>qbu (gt b.Af i) (n+1) t 0) _;unfold qbu;exact Ev.ff Z .done
  | succ j ih=>
   intro t ht hj;have hp:=hw.par (j+1) (by omega) hj;refine Ev.succ ?_;simp only[qbu,show decide (((j+1:Nat):Int) > 0)=true from decide_eq_true (by omega),cond_true,qay hj,jd,qfW hp.1 (show at0 (gt b.Af i).Ak (j+1)<(t.length:Int) by omega),qC (show j+1<t.length by omega),show((j+1:Nat):Int)-1=(j:Int) by omega,qF (show -9223372036854775808≤(j:Int) by omega) (by omega)];exact ih _ (by rw[qdT];exact ht) (by omega)
 unfold qdQ qiY;rw[qC hi];simp only[jd,qcS (show([]:List Int).length+(gt b.Af i).Bq.length≤2147483648 by simp;omega),List.nil_append];refine Ev.bind (qoS hs) (Ev.bind (qtp hs) (Ev.bind e1 ?_));rw[qdU (show(gt b.Af i).Bq.length≤9223372036854775807 by omega),show((gt b.Af i).Bq.length:Int)-1=(((gt b.Af i).Ak.length-1:Nat):Int) by omega];exact Ev.bind (e2 _ _ (by rw[qqe];exact hcap) (by omega)) .done
structure LdOk (t:List Int)(L:Nat)(S:Int):Prop where
 len:t.length=L
 nn:∀ k,k<L→0≤gt t k
 sum:sumZ (gt t) L≤S
theorem qnQ {t:List Int}{a:Nat}{y:Int}{k:Nat}(ha:a<t.length):gt (setS t (a:Int) y) k=if k=a then y else gt t k:=by
 unfold setS;rw[jn];by_cases h:k=a
 ·subst h;rw[if_pos Z,qrf ha]
 ·rw[if_neg h,qtC h]
theorem qBj {b:qe}(h:blockB b=true){i:Nat}(hi:i<b.Af.length)(hcp:∀ k,k<(gt b.Af i).Bq.length→0≤gt (gt b.Af i).Bq k∧gt (gt b.Af i).Bq k≤500) :
  ∀ j,j≤(skL b i).length→LdOk (ldA b (gt b.Af i) (skL b i) j) (gt b.Af i).Ak.length (4000+500*j):=by
 have hw:=qbF h hi;have hhi:=hw.hi;have hcap:=hw.cap;have hsm:=qh9 h (i:=i);intro j
 induction j with
 | zero=>
  intro _;refine⟨hcap,fun k hk=>(hcp k (by omega)).1,?_⟩;have:=qzZ (f:=gt (gt b.Af i).Bq) (n:=(gt b.Af i).Ak.length) (c:=500) (fun u hu=>(hcp u (by omega)).2);show sumZ (gt (gt b.Af i).Bq) _≤_;omega
 | succ j ih=>
  intro hj;obtain⟨l1,n1,s1⟩:=ih (by omega);obtain⟨y,hy,ey,_⟩:=qqP (show j<(skL b i).length by omega);have hc:=qyR h hy;have hsn:=hw.sin j (by rw[hw.snk];exact(show j<(skL b i).length by omega));obtain⟨a,ha⟩:∃ a:Nat,at0 (gt b.Af i).Bg j=(a:Int):=⟨_,qfn hsn.1⟩;rw[ha] at hsn;have hal:a<(gt b.Af i).Ak.length:=by omega
  have hge:=quB n1 hal;have hn:=n1 a hal;have e:ldA b (gt b.Af i) (skL b i) (j+1)=setS (ldA b (gt b.Af i) (skL b i) j) (a:Int) (gt (ldA b (gt b.Af i) (skL b i) j) a+capJ b y):=by
   show addSink _ _ _ _ _=_;unfold addSink;rw[ey,ha,jn,jn,qF (by omega) (by omega)]
  rw[e];refine⟨by rw[qdT];exact l1,fun k hk=>?_,?_⟩
  ·rw[qnQ (by omega)];split
   ·omega
   ·exact n1 k hk
  ·rw[quS (g:=gt (ldA b (gt b.Af i) (skL b i) j)) hal (fun u _ hne=>by rw[qnQ (by omega),if_neg hne]),qnQ (by omega),if_pos Z];omega
theorem qA5 {b:qe}(h:blockB b=true){i:Nat}(hi:i<b.Af.length){S:Int}(hS:S≤1000000000):∀ j t,j<(gt b.Af i).Ak.length→t.length=(gt b.Af i).Ak.length→(∀ k,k<t.length→0≤gt t k∧gt t k≤S)→sumZ (gt t) (j+1)≤S →
  ∀ k,k<t.length→0≤gt (ldB (gt b.Af i) j t) k∧gt (ldB (gt b.Af i) j t) k≤S:=by
 have hw:=qbF h hi;intro j
 induction j with
 | zero=>intro t _ _ hk _;exact hk
 | succ j ih=>
  intro t hj ht hk hsum;have hp:=hw.par (j+1) (by omega) hj;obtain⟨a,ha⟩:∃ a:Nat,at0 (gt b.Af i).Ak (j+1)=(a:Int):=⟨_,qfn hp.1⟩;rw[ha] at hp;have h1:=hk a (by omega);have h2:=hk (j+1) (by omega);have e:addUp (gt b.Af i) t (j+1)=setS t (a:Int) (gt t a+gt t (j+1)):=by
   unfold addUp;rw[ha,jn,qF (by omega) (by omega)]
  have hs2:sumZ (gt (setS t (a:Int) (gt t a+gt t (j+1)))) (j+1)≤S:=by
   rw[quS (g:=gt t) (a:=a) (by omega) (fun u _ hne=>by rw[qnQ (by omega),if_neg hne]),qnQ (by omega),if_pos Z];have:sumZ (gt t) (j+1+1)=sumZ (gt t) (j+1)+gt t (j+1):=rfl;omega
  unfold ldB;rw[e];have:=ih (setS t (a:Int) (gt t a+gt t (j+1))) (by omega) (by rw[qdT];exact ht) (fun k hk'=>by
   rw[qdT] at hk';have hnn:∀ u,u<j+1→0≤gt (setS t (a:Int) (gt t a+gt t (j+1))) u:=fun u hu=>by
    rw[qnQ (by omega)];split
    ·omega
    ·exact(hk u (by omega)).1
   have hge:=quB hnn (show a<j+1 by omega);rw[qnQ (by omega)] at hge ⊢;rw[if_pos Z] at hge;split
   ·omega
   ·exact hk k hk') hs2
  rw[qdT] at this;exact this
theorem qrh {b:qe}(h:blockB b=true){i:Nat}(hi:i<b.Af.length):(∀ k,k<(gt b.Af i).Bq.length→0≤gt (gt b.Af i).Bq k∧gt (gt b.Af i).Bq k≤500)∧(∀ k,k<(gt b.Af i).Bt.length→0≤at0 (gt b.Af i).Bt k∧at0 (gt b.Af i).Bt k≤1000):=by
 unfold blockB at h;rw[jf,qaC] at h;have:=h.2 i hi;unfold wireB lenB at this;simp only[jf,decide_eq_true_eq,beq_iff_eq] at this;obtain⟨_,_,_,_,hr,hc,_⟩:=this;rw[qhK (d:=0),qaC] at hr hc;exact⟨fun k hk=>by have:=hc k hk;rw[qa3] at this;exact this,fun k hk=>by have:=hr k hk;rw[qa3] at this;exact this⟩
theorem qwq {b:qe}(h:blockB b=true){i:Nat}(hi:i<b.Af.length){k:Nat}(hk:k<(gt b.Af i).Ak.length):0≤gt (loadsL b i) k∧gt (loadsL b i) k≤43000:=by
 have hw:=qbF h hi;have hlo:=hw.lo;have hsm:=qh9 h (i:=i);obtain⟨l1,n1,s1⟩:=qBj h hi (qrh h hi).1 (skL b i).length (je _);have:=qA5 h hi (S:=43000) (by omega) ((gt b.Af i).Ak.length-1) (ldA b (gt b.Af i) (skL b i) (skL b i).length) (by omega) l1 (fun k hk=>by
  have h1:=n1 k (by omega);have h2:=quB n1 (show k<(gt b.Af i).Ak.length by omega);exact⟨h1,by omega⟩) (by rw[show(gt b.Af i).Ak.length-1+1=(gt b.Af i).Ak.length by omega];omega) k (by omega)
 exact this
def dlL (w:qH)(ld:List Int):Nat→List Int
 | 0=>[0]
 | k+1=>dlL w ld k++[W64 (gt (dlL w ld k) (at0 w.Ak (k+1)).toNat+W64 (at0 w.Bt (k+1)*gt ld (k+1)))]
theorem qp8 {w:qH}{ld:List Int}{k:Nat}:(dlL w ld k).length=k+1:=by
 induction k with
 | zero=>rfl
 | succ k ih=>unfold dlL;rw[jh,ih];rfl
def delaysL (b:qe)(i:Nat):List Int:=dlL (gt b.Af i) (loadsL b i) ((gt b.Af i).Ak.length-1)
def exactL (b:qe)(i:Nat):List Int:=(gt b.Af i).Bg.map fun s=>gt (delaysL b i) s.toNat
theorem qoa {b:qe}(h:blockB b=true){i:Nat}(hi:i<b.Af.length):(delaysL b i).length=(gt b.Af i).Ak.length:=by
 unfold delaysL;rw[qp8];have:=(qbF h hi).lo;omega
theorem qzM {w:qH}{ld:List Int}{k m:Nat}(hm:k+1<m)(hp:at0 w.Ak (k+1)<((k+1:Nat):Int))(_:0≤at0 w.Ak (k+1)) :
  setS (dlL w ld k++List.replicate (m-(k+1)) 0) ((k+1:Nat):Int) (W64 (gt (dlL w ld k++List.replicate (m-(k+1)) 0) (at0 w.Ak (k+1)).toNat+W64 (at0 w.Bt (k+1)*gt ld (k+1))))=dlL w ld (k+1)++List.replicate (m-(k+1+1)) 0:=by
 have hlen:=qp8 (w:=w) (ld:=ld) (k:=k);have e1:gt (dlL w ld k++List.replicate (m-(k+1)) 0) (at0 w.Ak (k+1)).toNat=gt (dlL w ld k) (at0 w.Ak (k+1)).toNat:=by
  rw[qm6,if_pos (by omega)]
 rw[e1];unfold setS;rw[jn,List.set_append,if_neg (by omega),hlen,Nat.sub_self,show m-(k+1)=(m-(k+1+1))+1 by omega,List.replicate_succ,List.set_cons_zero];show _=(dlL w ld k++[_])++_;rw[jr]
 rfl
theorem qs7 {b:qe}(h:blockB b=true){i:Nat}(hi:i<b.Af.length):Ev (fun n=>qfh n b (i:Int)) (delaysL b i):=by
 have hw:=qbF h hi;have hlo:=hw.lo;have hhi:=hw.hi;have hres:=hw.res;have l1:=qnu h hi;have hmk:mkS ((loadsL b i).length:Int) (0:Int)=V (List.replicate (loadsL b i).length 0):=qiO (by omega);have main:∀ d k,k+1+d=(gt b.Af i).Ak.length→Ev (fun n=>qbM (gt b.Af i) (loadsL b i) (List.replicate (loadsL b i).length 0) n (dlL (gt b.Af i) (loadsL b i) k++List.replicate ((gt b.Af i).Ak.length-(k+1)) 0) ((k+1:Nat):Int)) (delaysL b i,((loadsL b i).length:Int)):=by
  intro d
  induction d with
  | zero=>
   intro k hk;refine Ev.succ ?_;simp only[qbM,jK,ql (show(loadsL b i).length≤k+1 by omega),cond_false];refine Ev.now ?_;rw[show(gt b.Af i).Ak.length-(k+1)=0 by omega,List.replicate_zero,jU,l1,←hk];unfold delaysL;rw[←hk]
   rfl
  | succ d ih=>
   intro k hk;have hp:=hw.par (k+1) (by omega) (by omega);have hlen:=qp8 (w:=gt b.Af i) (ld:=loadsL b i) (k:=k);have hll:(dlL (gt b.Af i) (loadsL b i) k++List.replicate ((gt b.Af i).Ak.length-(k+1)) 0).length=(gt b.Af i).Ak.length:=by rw[jh,jK,hlen];omega
   refine Ev.succ ?_;simp only[qbM,jK,qk (show k+1<(loadsL b i).length by omega),cond_true,qay (show k+1<(gt b.Af i).Ak.length by omega),jd,qfW hp.1 (show at0 (gt b.Af i).Ak (k+1)<((dlL (gt b.Af i) (loadsL b i) k++List.replicate ((gt b.Af i).Ak.length-(k+1)) 0).length:Int) by omega),
    qay (show k+1<(gt b.Af i).Bt.length by omega),qC (show k+1<(loadsL b i).length by omega),qC (show k+1<(dlL (gt b.Af i) (loadsL b i) k++List.replicate ((gt b.Af i).Ak.length-(k+1)) 0).length by omega),qc9 (show k+1<9223372036854775807 by omega)]
   rw[qzM (by omega) hp.2 hp.1];exact ih (k+1) (by omega)
 unfold qfh;rw[qC hi];simp only[jd];refine Ev.bind (qqh h hi) ?_;rw[hmk];simp only[jd];have:=main ((gt b.Af i).Ak.length-1) 0 (by omega);have e0:dlL (gt b.Af i) (loadsL b i) 0++List.replicate ((gt b.Af i).Ak.length-(0+1)) 0=List.replicate (loadsL b i).length 0:=by
  rw[l1];show[(0:Int)]++_=_;rw[show(gt b.Af i).Ak.length=((gt b.Af i).Ak.length-(0+1))+1 by omega,List.replicate_succ]
  rfl
 rw[e0] at this;exact Ev.bind this .done
theorem qsx {b:qe}(h:blockB b=true){i:Nat}(hi:i<b.Af.length):Ev (fun n=>qeD n b (i:Int)) (exactL b i):=by
 have hw:=qbF h hi;have hsl:(gt b.Af i).Bg.length≤78:=by rw[hw.snk];exact qh9 h
 have hdl:=qoa h hi;have e3:Ev (fun n=>qbc (delaysL b i) (gt b.Af i) n ([]:List Int) 0) (exactL b i,((gt b.Af i).Bg.length:Int)):=by
  refine loopF (Lf:=qbc (delaysL b i) (gt b.Af i)) (S:=fun j=>((gt b.Af i).Bg.take j).map fun s=>gt (delaysL b i) s.toNat) (len:=(gt b.Af i).Bg.length) (fun n=>?_) (fun j hj X hX=>?_)
  ·simp only[qbc,ql (je _),cond_false,jG];rfl
  ·have hsn:=hw.sin j hj;simp only[qbc,qk hj,cond_true,qay hj,jd,qfW hsn.1 (show at0 (gt b.Af i).Bg j<((delaysL b i).length:Int) by omega),wS j];rw[qcS (by rw[jy,jP,jt];omega)];have:((gt b.Af i).Bg.take j).map (fun s=>gt (delaysL b i) s.toNat)++[gt (delaysL b i) (at0 (gt b.Af i).Bg j).toNat]=((gt b.Af i).Bg.take (j+1)).map fun s=>gt (delaysL b i) s.toNat:=by
    rw[jB hj,jN,qlM hj];rfl
   rw[this];exact hX
 unfold qeD;refine Ev.bind (qs7 h hi) ?_;rw[qC hi];simp only[jd];exact Ev.bind e3 .done
theorem qvP {b:qe}(h:blockB b=true){i:Nat}(hi:i<b.Af.length):∀ k,k<(gt b.Af i).Ak.length→∀ m,m≤k→0≤gt (dlL (gt b.Af i) (loadsL b i) k) m∧gt (dlL (gt b.Af i) (loadsL b i) k) m≤43000000*k:=by
 have hw:=qbF h hi;have hhi:=hw.hi;have hres:=hw.res;intro k
 induction k with
 | zero=>
  intro _ m hm;have hm0:m=0:=by omega
  subst hm0;exact⟨jY _,jY _⟩
 | succ k ih=>
  intro hk m hm;have hlen:=qp8 (w:=gt b.Af i) (ld:=loadsL b i) (k:=k);unfold dlL;rw[qm6];split
  ·have:=ih (by omega) m (by omega);omega
  ·have hm1:m=k+1:=by omega
   subst hm1;rw[hlen,Nat.sub_self];show 0≤W64 _∧W64 _≤_;have hp:=hw.par (k+1) (by omega) hk;obtain⟨a,ha⟩:∃ a:Nat,at0 (gt b.Af i).Ak (k+1)=(a:Int):=⟨_,qfn hp.1⟩;rw[ha] at hp ⊢;rw[jn];have h1:=ih (by omega) a (by omega);have h2:=(qrh h hi).2 (k+1) (by omega);have h3:=qwq h hi hk;have h4:at0 (gt b.Af i).Bt (k+1)*gt (loadsL b i) (k+1)≤1000*43000:=Jc h2.2 h3.2 h3.1 (by omega);have h5:0≤at0 (gt b.Af i).Bt (k+1)*gt (loadsL b i) (k+1):=jT h2.1 h3.1;rw[wO (at0 (gt b.Af i).Bt (k+1)*gt (loadsL b i) (k+1)),qF (by omega) (by omega)];omega
theorem qsC {b:qe}(h:blockB b=true){i:Nat}(hi:i<b.Af.length){j:Nat}(hj:j<(gt b.Af i).Bg.length):0≤gt (exactL b i) j∧gt (exactL b i) j≤344000000:=by
 have hw:=qbF h hi;have hhi:=hw.hi;have hsn:=hw.sin j hj;have e:gt (exactL b i) j=gt (delaysL b i) (at0 (gt b.Af i).Bg j).toNat:=by
  unfold exactL;rw[qgv (by rw[jy];exact hj),List.getElem_map,qlM hj]
 rw[e];have:=qvP h hi ((gt b.Af i).Ak.length-1) (by omega) (at0 (gt b.Af i).Bg j).toNat (by omega);show 0≤gt (dlL _ _ _) _∧gt (dlL _ _ _) _≤_;omega
end Go.Fw


namespace Go.Fw
open Go
set_option maxRecDepth 100000
def pre {α:Type}(f:Nat→α)(j:Nat):List α:=(List.range j).map f
theorem qpQ {α:Type}{f:Nat→α}{j:Nat}:(pre f j).length=j:=by simp[pre]
theorem qzy {α:Type}{f:Nat→α}{j:Nat}:pre f j++[f j]=pre f (j+1):=by unfold pre;rw[Jd,jN];rfl
theorem qus {α:Type}{f:Nat→α}{j:Nat}(h:j≤1048576):appS (pre f j) [f j]=V (pre f (j+1)):=by
 rw[qcS (by rw[qpQ,jt];omega),qzy]
theorem qBd {α:Type}[Inhabited α]{f:Nat→α}{n j:Nat}(h:j<n):gt (pre f n) j=f j:=qsQ h
theorem qjP {α:Type}[Inhabited α]{f:Nat→α}{n j:Nat}(h:j<n):idx (pre f n) (j:Int)=V (f j):=by rw[qC (by rw[qpQ];exact h),qBd h]
theorem qir {α:Type}{f g:Nat→α}{n:Nat}(h:∀ k,k<n→f k=g k):pre f n=pre g n:=List.map_congr_left fun k hk=>h k (List.mem_range.1 hk)
theorem qqa {α:Type}{f:Nat→α}{n k:Nat}{v:α}:setS (pre f n) (k:Int) v=pre (fun i=>if i=k then v else f i) n:=by
 unfold setS pre;rw[jn];refine Jf (by simp) fun i h1 h2=>?_;rw[List.getElem_set];by_cases h:k=i
 ·subst h;simp
 ·rw[if_neg h];simp[show ¬ i=k from fun e=>h e.symm]
def fm {α:Type}(f:Nat→List α)(j:Nat):List α:=(List.range j).flatMap f
theorem qle {α:Type}{f:Nat→List α}{j:Nat}:fm f (j+1)=fm f j++f j:=by unfold fm;rw[Jd,List.flatMap_append];simp
theorem qqN {α:Type}{f:Nat→List α}{j c:Nat}(h:∀ i,i<j→(f i).length≤c):(fm f j).length≤c*j:=by
 induction j with
 | zero=>exact je _
 | succ j ih=>rw[qle,jh];have:=ih (fun i hi=>h i (by omega));have:=h j (by omega);rw[Nat.mul_succ];omega
def transL (a:qL):List qU:=
 bif (a.Ay==2) then[⟨0,0⟩,⟨0,1⟩] else bif (a.Ay==3) then[⟨1,0⟩,⟨1,1⟩] else bif (a.Ay != 1) then[] else
 bif (a.Bl==1) then[⟨0,0⟩,⟨1,1⟩] else bif (a.Bl==2) then[⟨0,1⟩,⟨1,0⟩] else[⟨0,0⟩,⟨0,1⟩,⟨1,0⟩,⟨1,1⟩]
theorem qye {a:qL}{n:Nat}:qfJ n a=V (transL a):=by
 unfold qfJ transL;cases (a.Ay==2)
 ·cases (a.Ay==3)
  ·cases (a.Ay != 1)
   ·cases (a.Bl==1)
    ·cases (a.Bl==2)<;>rfl
    ·rfl
   ·rfl
  ·rfl
 ·rfl
theorem qsD {a:qL}:(transL a).length≤4:=by
 unfold transL;cases (a.Ay==2)
 ·cases (a.Ay==3)
  ·cases (a.Ay != 1)
   ·cases (a.Bl==1)
    ·cases (a.Bl==2)<;>simp
    ·simp
   ·simp
  ·simp
 ·simp
def b01 (x:Int):Prop:=x=0∨x=1
theorem qt2 {a:qL}{t:qU}(h:t ∈ transL a):b01 t.e0∧b01 t.e1:=by
 have main:∀ t ∈ [(⟨0,0⟩:qU),⟨0,1⟩,⟨1,0⟩,⟨1,1⟩],b01 t.e0∧b01 t.e1:=by
  intro t ht;simp only[Ja,jQ,or_false] at ht;rcases ht with rfl|rfl|rfl|rfl<;>simp[b01]
 refine main t ?_;unfold transL at h;revert h;cases (a.Ay==2)
 ·cases (a.Ay==3)
  ·cases (a.Ay != 1)
   ·cases (a.Bl==1)
    ·cases (a.Bl==2)
     ·exact fun h=>h
     ·intro h;simp at h;rcases h with rfl|rfl<;>simp
    ·intro h;simp at h;rcases h with rfl|rfl<;>simp
   ·intro h;simp at h
  ·intro h;simp at h;rcases h with rfl|rfl<;>simp
 ·intro h;simp at h;rcases h with rfl|rfl<;>simp
def al1 (first:Int)(k:Nat)(a:qL)(t:qU):qv:=⟨2*(first+a.Bf)+t.e0,2*(first+a.To)+t.e1,1,(k:Int)⟩
def arcLs (first:Int)(k:Nat)(a:qL):List qv:=(transL a).map (al1 first k a)
def cellLs (c:qA)(first:Int)(j:Nat):List qv:=fm (fun k=>arcLs first k (gt c.As k)) j
def instLs (b:qe)(j:Nat):List qv:=fm (fun i=>cellLs (cellAt b (i:Int)) (off b.Aa i:Int) (cellAt b (i:Int)).As.length) j
theorem qq2 {first:Int}{k:Nat}{a:qL}:(arcLs first k a).length≤4:=by unfold arcLs;rw[jy];exact qsD
theorem qub {b:qe}(h:blockB b=true){i:Nat}(hi:i<b.Aa.Ab.length):Ev (fun n=>qfI n b (gt b.Aa.Ab i) (off b.Aa i:Int)) (cellLs (cellAt b (i:Int)) (off b.Aa i:Int) (cellAt b (i:Int)).As.length):=by
 have hd:=qaA h;have hs:=qai hd;obtain⟨⟨c0,c1⟩,hnl,hcb⟩:=qim hd hi;have ha:=qpD hcb;have hpb:=(qhS (qj2 hcb)).1;have hoff:off b.Aa i≤78:=by
  have:=qbl hs;rw[qh4] at this;have:=qwJ (d:=b.Aa) (show i≤b.Aa.Ab.length by omega);omega
 show Ev _ (cellLs (gt b.Ar.Ap (gt b.Aa.Ab i).Bo.toNat) (off b.Aa i:Int) (gt b.Ar.Ap (gt b.Aa.Ab i).Bo.toNat).As.length);generalize hc:gt b.Ar.Ap (gt b.Aa.Ab i).Bo.toNat=c at hnl hcb ha hpb ⊢;have hL:Ev (fun n=>qbt (off b.Aa i:Int) c n ([]:List qv) 0) (cellLs c (off b.Aa i:Int) c.As.length,(c.As.length:Int)):=by
  refine loopF (Lf:=qbt (off b.Aa i:Int) c) (S:=cellLs c (off b.Aa i:Int)) (len:=c.As.length) (fun n=>?_) (fun j hj X hX=>?_)
  ·simp only[qbt,ql (je _),cond_false]
  ·have hk:=qog hcb hj;have hcl:(cellLs c (off b.Aa i:Int) j).length≤4*j:=qqN fun _ _=>qq2;simp only[qbt,qk hj,cond_true,qC hj,jd,qye,wS j];have hL2:Ev (fun n=>qbw (off b.Aa i:Int) (j:Int) (gt c.As j) (transL (gt c.As j)) n (cellLs c (off b.Aa i:Int) j) 0) (cellLs c (off b.Aa i:Int) (j+1),((transL (gt c.As j)).length:Int)):=by
    have h4:=qsD (a:=gt c.As j);have:=loopF (Lf:=qbw (off b.Aa i:Int) (j:Int) (gt c.As j) (transL (gt c.As j))) (S:=fun k=>cellLs c (off b.Aa i:Int) j++((transL (gt c.As j)).take k).map (al1 (off b.Aa i:Int) j (gt c.As j))) (len:=(transL (gt c.As j)).length) (fin:=(cellLs c (off b.Aa i:Int) (j+1),((transL (gt c.As j)).length:Int))) (fun n=>by
      simp only[qbw,ql (je _),cond_false,jG];show V (cellLs c _ j++arcLs _ j _,_)=V (fm _ (j+1),_);rw[qle];rfl)
     (fun k hk2 X hX=>by
      have ht:=qt2 (a:=gt c.As j) (t:=gt (transL (gt c.As j)) k) (by rw[qgv hk2];exact jq hk2);have e0:W64 (W64 (2*W64 ((off b.Aa i:Int)+(gt c.As j).Bf))+(gt (transL (gt c.As j)) k).e0)=2*((off b.Aa i:Int)+(gt c.As j).Bf)+(gt (transL (gt c.As j)) k).e0:=by
       rcases ht.1 with e|e<;>rw[e,wO ((off b.Aa i:Int)+(gt c.As j).Bf),qF (x:=2*((off b.Aa i:Int)+(gt c.As j).Bf)) (by omega) (by omega),qF (by omega) (by omega)]
      have e1:W64 (W64 (2*W64 ((off b.Aa i:Int)+(gt c.As j).To))+(gt (transL (gt c.As j)) k).e1)=2*((off b.Aa i:Int)+(gt c.As j).To)+(gt (transL (gt c.As j)) k).e1:=by
       rcases ht.2 with e|e<;>rw[e,wO ((off b.Aa i:Int)+(gt c.As j).To),qF (x:=2*((off b.Aa i:Int)+(gt c.As j).To)) (by omega) (by omega),qF (by omega) (by omega)]
      simp only[qbw,qk hk2,cond_true,qC hk2,jd,e0,e1,wS k];rw[qcS (by rw[jh,jy,jP,jt];omega),jr];have:((transL (gt c.As j)).take k).map (al1 (off b.Aa i:Int) j (gt c.As j))++[al1 (off b.Aa i:Int) j (gt c.As j) (gt (transL (gt c.As j)) k)]=((transL (gt c.As j)).take (k+1)).map (al1 (off b.Aa i:Int) j (gt c.As j)):=qgy hk2;have this2:((transL (gt c.As j)).take k).map (al1 (off b.Aa i:Int) j (gt c.As j))++[(⟨2*((off b.Aa i:Int)+(gt c.As j).Bf)+(gt (transL (gt c.As j)) k).e0,2*((off b.Aa i:Int)+(gt c.As j).To)+(gt (transL (gt c.As j)) k).e1,1,(j:Int)⟩:qv)]=((transL (gt c.As j)).take (k+1)).map (al1 (off b.Aa i:Int) j (gt c.As j)):=this;rw[this2];exact hX)
    simpa using this
   exact Ev.bind hL2 hX
 unfold qfI;rw[qfW c0 c1,hc];simp only[jd];exact Ev.bind hL .done
def dvN (d:qg)(k:Nat):Nat:=((List.range (places d).length).find? fun j=>drvQ d (k:Int) j).getD 0
theorem qjk {l:qt}{d:qg}(h:designB l d=true){k:Nat}(hk:k<d.Ai.length):dvN d k<(places d).length∧drvQ d (k:Int) (dvN d k)=true:=by
 obtain⟨j,hj,hn,hdr⟩:=qAT h (k:=(k:Int)) (by omega) (by omega);unfold dvN;cases hf:(List.range (places d).length).find? fun j=>drvQ d (k:Int) j with
 | none=>
  have:=List.find?_eq_none.1 hf j (List.mem_range.2 hj);exact absurd (by unfold drvQ;rw[hn,hdr];simp) this
 | some i=>exact⟨List.mem_range.1 (List.mem_of_find?_eq_some hf),by have:=List.find?_some hf;exact this⟩
theorem qob {d:qg}{k:Int}{j:Nat}:drvQ d k j=true↔(gt (places d) j).net=k∧(gt (places d) j).drives=true:=by unfold drvQ;simp
theorem qvK {l:qt}{d:qg}(h:designB l d=true){k:Nat}(hk:k<d.Ai.length){j:Nat}(hj:j<(places d).length)(hn:(gt (places d) j).net=(k:Int))(hd:(gt (places d) j).drives=true):dvN d k=j:=by
 obtain⟨h1,h2⟩:=qjk h hk;obtain⟨h3,h4⟩:=qob.1 h2;exact qu5 h h1 hj (by rw[h3,hn]) h4 hd
def wl1 (dv:Nat)(s:Int)(k:Nat):List qv:=[⟨2*(dv:Int),2*s,2,(k:Int)⟩,⟨2*(dv:Int)+1,2*s+1,2,(k:Int)⟩]
def wlN (b:qe)(i j:Nat):List qv:=fm (fun k=>wl1 (dvN b.Aa i) (at0 (skL b i) k) k) j
def wireLs (b:qe)(j:Nat):List qv:=fm (fun i=>wlN b i (skL b i).length) j
def linksL (b:qe):List qv:=instLs b b.Aa.Ab.length++wireLs b b.Af.length
def load0 (b:qe)(i:Nat):Int:=gt (loadsL b i) 0
def viewE (b:qe)(ex:List Int):Tview:=⟨b,places b.Aa,linksL b,pre (load0 b) b.Af.length,pre (exactL b) b.Af.length,ex⟩
def viewV (b:qe):Tview:=viewE b []
theorem qjX {b:qe}(h:blockB b=true){j:Nat}(hj:j≤b.Aa.Ab.length):(instLs b j).length≤32*j:=by
 refine qqN fun i hi=>?_;obtain⟨_,_,hcb⟩:=qim (qaA h) (show i<b.Aa.Ab.length by omega);have ha:=qpD hcb;have:(cellLs (cellAt b (i:Int)) (off b.Aa i:Int) (cellAt b (i:Int)).As.length).length≤4*(cellAt b (i:Int)).As.length:=qqN fun _ _=>qq2;have e:(cellAt b (i:Int)).As.length≤8:=ha;omega
theorem quJ {b:qe}{i j:Nat}:(wlN b i j).length≤2*j:=qqN fun _ _=>je _
theorem qpG {b:qe}(h:blockB b=true){j:Nat}:(wireLs b j).length≤156*j:=by
 refine qqN fun i _=>?_;have:=quJ (b:=b) (i:=i) (j:=(skL b i).length);have:=qh9 h (i:=i);omega
theorem qnE {b:qe}(h:blockB b=true):(linksL b).length≤10000:=by
 have hs:=qai (qaA h);have h1:=hs.ni;have h2:=hs.nn;have h3:=qj1 h;have h4:=qjX h (je _);have h5:=qpG h (j:=b.Af.length);unfold linksL;rw[jh];omega
theorem qwa {b:qe}(h:blockB b=true):Ev (fun n=>qk7 n b) (V (viewV b)):=by
 have hd:=qaA h;have hs:=qai hd;have hl:=qbl hs;have hni:=hs.ni;have hnn:=hs.nn;have hwl:=qj1 h;have e1:Ev (fun n=>qep b n ([]:List qv) 0 0) (instLs b b.Aa.Ab.length,(off b.Aa b.Aa.Ab.length:Int),(b.Aa.Ab.length:Int)):=by
  have:=loopF (τ:=List qv×Int) (Lf:=fun n t j=>qep b n t.1 t.2 j) (S:=fun j=>(instLs b j,(off b.Aa j:Int))) (len:=b.Aa.Ab.length) (fin:=(instLs b b.Aa.Ab.length,(off b.Aa b.Aa.Ab.length:Int),(b.Aa.Ab.length:Int))) (fun n=>by simp only[qep,ql (je _),cond_false])
   (fun j hj X hX=>by
    have hil:=qjX h (show j≤b.Aa.Ab.length by omega);have hil1:=qjX h (show j+1≤b.Aa.Ab.length by omega);have hoff:=qlQ (d:=b.Aa) (i:=j);have hof:off b.Aa (j+1)≤78:=by
     rw[qh4] at hl;have:=qwJ (d:=b.Aa) (show j+1≤b.Aa.Ab.length by omega);omega
    simp only[qep,qk hj,cond_true,qC hj,jd,qbB,wS j];refine Ev.bind (qub h hj) ?_;have e:instLs b j++cellLs (cellAt b (j:Int)) (off b.Aa j:Int) (cellAt b (j:Int)).As.length=instLs b (j+1):=qle.symm;rw[qcS (by rw[←jh,e];omega),e,qF (by omega) (by omega),show(off b.Aa j:Int)+((gt b.Aa.Ab j).Ai.length:Int)=((off b.Aa (j+1):Nat):Int) by omega];exact hX)
  exact this
 have hm1:mkS (b.Af.length:Int) (0:Int)=V (vecI (fun _=>0) b.Af.length):=qtP (by omega);have hm2:mkS (b.Af.length:Int) ([]:List Int)=V (pre (fun _=>[]) b.Af.length):=by
  rw[qmw (by omega)]
  congr 1
  refine Jf (by simp[pre]) fun i h1 h2=>?_;simp[pre]
 have e2:Ev (fun n=>qdk (places b.Aa) n (pre (fun _=>[]) b.Af.length) (vecI (fun _=>0) b.Af.length) 0) (pre (fun i=>skL b i) b.Af.length,vecI (fun k=>(dvN b.Aa k:Int)) b.Af.length,((places b.Aa).length:Int)):=by
  have hdv:∀ k,k<b.Af.length→dvN b.Aa k<(places b.Aa).length:=fun k hk=>(qjk hd (by omega)).1;have:=loopF (τ:=List (List Int)×List Int) (Lf:=fun n t j=>qdk (places b.Aa) n t.1 t.2 j) (S:=fun j=>(pre (fun i=>sinksL b.Aa (i:Int) j) b.Af.length,vecI (fun k=>if dvN b.Aa k<j then(dvN b.Aa k:Int) else 0) b.Af.length)) (len:=(places b.Aa).length)
   (fin:=(pre (fun i=>skL b i) b.Af.length,vecI (fun k=>(dvN b.Aa k:Int)) b.Af.length,((places b.Aa).length:Int))) (fun n=>by
    simp only[qdk,ql (je _),cond_false];rw[qfZ (g:=fun k=>(dvN b.Aa k:Int)) (fun k hk=>if_pos (hdv k hk))]
    rfl)
   (fun j hj X hX=>by
    obtain⟨n0,n1⟩:=qnM hd hj;obtain⟨k0,hk0⟩:∃ k0:Nat,(gt (places b.Aa) j).net=(k0:Int):=⟨_,qfn n0⟩;have hkl:k0<b.Af.length:=by omega
    simp only[qdk,qk hj,cond_true,qC hj,jd,hk0,wS j,qoz hkl,qjP (f:=fun i=>sinksL b.Aa (i:Int) j) hkl];cases hdr:(gt (places b.Aa) j).drives
    ·have e5:pre (fun i=>sinksL b.Aa (i:Int) (j+1)) b.Af.length=setS (pre (fun i=>sinksL b.Aa (i:Int) j) b.Af.length) (k0:Int) (sinksL b.Aa (k0:Int) j++[(j:Int)]):=by
      rw[qqa];refine qir fun k hk=>?_;rw[qkQ];unfold snkQ;rw[hk0,hdr];by_cases hkk:k=k0
      ·subst hkk;rw[if_pos Z];simp
      ·rw[if_neg hkk,show(((k0:Int)==(k:Int))&&!false)=false by simp;omega];simp
     have e6:vecI (fun k=>if dvN b.Aa k<j+1 then(dvN b.Aa k:Int) else 0) b.Af.length=vecI (fun k=>if dvN b.Aa k<j then(dvN b.Aa k:Int) else 0) b.Af.length:=by
      refine qfZ fun k hk=>?_;have hne:dvN b.Aa k ≠ j:=fun e=>by
       have:=(qob.1 (qjk hd (k:=k) (by omega)).2).2;rw[e,hdr] at this;cases this
      by_cases h1:dvN b.Aa k<j
      ·rw[if_pos h1,if_pos (by omega)]
      ·rw[if_neg h1,if_neg (by omega)]
     rw[e5,e6] at hX;simp only[cond_false];have hsl:(sinksL b.Aa (k0:Int) j).length≤j:=by rw[qjW];exact qgz
     rw[qcS (by rw[jt];omega)];exact hX
    ·have e5:pre (fun i=>sinksL b.Aa (i:Int) (j+1)) b.Af.length=pre (fun i=>sinksL b.Aa (i:Int) j) b.Af.length:=by
      refine qir fun k hk=>?_;rw[qkQ];unfold snkQ;rw[hdr];simp
     have hj0:=qvK hd (show k0<b.Aa.Ai.length by omega) hj hk0 hdr;have e6:vecI (fun k=>if dvN b.Aa k<j+1 then(dvN b.Aa k:Int) else 0) b.Af.length=setS (vecI (fun k=>if dvN b.Aa k<j then(dvN b.Aa k:Int) else 0) b.Af.length) (k0:Int) (j:Int):=by
      rw[qsT];refine qfZ fun k hk=>?_;by_cases hkk:k=k0
      ·subst hkk;rw[if_pos Z,hj0,if_pos (by omega)]
      ·rw[if_neg hkk];have hne:dvN b.Aa k ≠ j:=fun e=>by
        have:=(qob.1 (qjk hd (k:=k) (by omega)).2).1;rw[e,hk0] at this;omega
       by_cases h1:dvN b.Aa k<j
       ·rw[if_pos h1,if_pos (by omega)]
       ·rw[if_neg h1,if_neg (by omega)]
     rw[e5,e6] at hX;exact hX)
  simpa [sinksL,pre,vecI] using this
 have hL5:∀ (i k:Nat) (s:Int) (t:List qv),i<b.Af.length→0≤s→s≤78→t.length≤1000000→Ev (fun n=>qed (vecI (fun k=>(dvN b.Aa k:Int)) b.Af.length) (i:Int) (k:Int) s n t 0) (t++wl1 (dvN b.Aa i) s k,2):=by
  intro i k s t hi hs0 hs1 ht;have hdv:=(qjk hd (k:=i) (by omega)).1;have hy:idx (vecI (fun k=>(dvN b.Aa k:Int)) b.Af.length) (i:Int)=V (dvN b.Aa i:Int):=qoz hi;refine Ev.succ ?_;simp only[qed,hy,jd];refine Ev.tt Z ?_;rw[wO (2*(dvN b.Aa i:Int)),wO (2*s),wO (2*(dvN b.Aa i:Int)+0),wO (2*s+0),qcS (by rw[jt];omega)];simp only[jd];refine Ev.succ ?_;simp only[qed,hy,jd];refine Ev.tt Z ?_;rw[show W64 (0+1)=1 from rfl,wO (2*(dvN b.Aa i:Int)),wO (2*s),wO (2*(dvN b.Aa i:Int)+1),wO (2*s+1),qcS (by rw[jh,jt,jt];omega)];simp only[jd];refine Ev.succ ?_;simp only[qed];refine Ev.ff Z (Ev.now ?_);unfold wl1;rw[jr,Ji,Ji]
  rfl
 have hL4:∀ (i:Nat) (t:List qv),i<b.Af.length→t.length≤900000→Ev (fun n=>qej (vecI (fun k=>(dvN b.Aa k:Int)) b.Af.length) (i:Int) (skL b i) n t 0) (t++wlN b i (skL b i).length,((skL b i).length:Int)):=by
  intro i t hi ht;have hsm:=qh9 h (i:=i);have:=loopF (Lf:=qej (vecI (fun k=>(dvN b.Aa k:Int)) b.Af.length) (i:Int) (skL b i)) (S:=fun k=>t++wlN b i k) (len:=(skL b i).length) (fin:=(t++wlN b i (skL b i).length,((skL b i).length:Int))) (fun n=>by simp only[qej,ql (je _),cond_false])
   (fun k hk X hX=>by
    obtain⟨y,hy,ey,_⟩:=qqP hk;have hwn:=quJ (b:=b) (i:=i) (j:=k);simp only[qej,qk hk,cond_true,qay hk,jd,wS k];refine Ev.bind (hL5 i k (at0 (skL b i) k) (t++wlN b i k) hi (by omega) (by omega) (by rw[jh];omega)) ?_;rw[jr,show wlN b i k++wl1 (dvN b.Aa i) (at0 (skL b i) k) k=wlN b i (k+1) from qle.symm];exact hX)
  simpa [wlN,fm] using this
 have e3:Ev (fun n=>qei b (pre (fun i=>skL b i) b.Af.length) (vecI (fun k=>(dvN b.Aa k:Int)) b.Af.length) n ([]:List (List Int)) ([]:List Int) (instLs b b.Aa.Ab.length) 0) (pre (exactL b) b.Af.length,pre (load0 b) b.Af.length,linksL b,(b.Af.length:Int)):=by
  have hil:=qjX h (je _);have:=loopF (τ:=List (List Int)×List Int×List qv) (Lf:=fun n t j=>qei b (pre (fun i=>skL b i) b.Af.length) (vecI (fun k=>(dvN b.Aa k:Int)) b.Af.length) n t.1 t.2.1 t.2.2 j) (S:=fun j=>(pre (exactL b) j,pre (load0 b) j,instLs b b.Aa.Ab.length++wireLs b j)) (len:=b.Af.length)
   (fin:=(pre (exactL b) b.Af.length,pre (load0 b) b.Af.length,linksL b,(b.Af.length:Int))) (fun n=>by simp only[qei,ql (je _),cond_false];rfl)
   (fun j hj X hX=>by
    have hw:=qbF h hj;have hlo:=hw.lo;have hll:=qnu h hj;have hwl2:=qpG h (j:=j);simp only[qei,qk hj,cond_true,wS j];refine Ev.bind (qqh h hj) ?_;rw[show idx (loadsL b j) (0:Int)=V (load0 b j) from qC (j:=0) (by omega)];simp only[jd];rw[qus (by omega)];simp only[jd];refine Ev.bind (qsx h hj) ?_;rw[qus (by omega),qjP (f:=fun i=>skL b i) hj];simp only[jd];refine Ev.bind (hL4 j _ hj (by rw[jh];omega)) ?_;rw[jr,show wireLs b j++wlN b j (skL b j).length=wireLs b (j+1) from qle.symm];exact hX)
  simpa [wireLs,fm,pre] using this
 unfold qk7;refine Ev.bind (qoS hs) (Ev.bind e1 ?_);rw[hm1,hm2];simp only[jd];exact Ev.bind e2 (Ev.bind e3 .done)
end Go.Fw


namespace Go.Fw
open Go Go.Proofs Go.Proofs.Tryz
open Go.RowKit (Below)
set_option maxRecDepth 100000
set_option maxHeartbeats 1600000
variable {n:Nat}{w:World}{cs1 cs2 cs3 cs4 cs5 cs6 cs7 cs8 cs9:List Value}
def qbG (b:qe)(a:(List qh)):Nat→Int→Option (Flow Bool Int)
 | 0,_=>U
 | n+1,c=>
  bif decide (c<(a.length:Int)) then
   (idx a c).bind fun d=>
   (
    (qaB n d.A 0 (W64 ((b.Aa.Ai.length:Int)-1))).bind fun f=>
    bif (!f) then V true else
    (qaB n d.B (W64 (d.A+1)) (W64 ((b.Aa.Ai.length:Int)-1))).bind fun g=>
    bif (!g) then V true else
    (qaB n d.Bp 1 10000).bind fun h=>
    V (!h)).bind fun b2=>
   bif b2 then V (.ret false) else
   bif decide (c > 0) then
    (idx a (W64 (c-1))).bind fun i=>
    bif decide (i.A > d.A) then V (.ret false) else
    (idx a (W64 (c-1))).bind fun k=>
    bif (k.A==d.A) then
     (idx a (W64 (c-1))).bind fun l=>
     bif decide (l.B ≥ d.B) then V (.ret false) else
     qbG b a n (W64 (c+1))
    else
     qbG b a n (W64 (c+1))
   else
    qbG b a n (W64 (c+1))
  else
   V (.nxt c)
def qhp (n:Nat)(b:qe)(a:(List qh)):Option Bool:=
 (qbG b a n 0).bind fun o=>match o with
 | .ret r=>V r
 | .nxt _=>
  V (decide ((a.length:Int)≤20))
theorem qom {a:qe}{b:(List qh)}(o:Ro w a cs1)(p:Ro w b cs2){r:Bool}(F:qhp n a b=V r):RetV prog 78 [GoT.v qe cs1,GoT.v (List qh) cs2] w r:=by
 obtain⟨_,_,_,_,_,_,_,_,_,_,rfl,_,_,_,_,_⟩:=qE o;obtain⟨W,R,rfl,k⟩:=p;refine zV 83 func78 Z fun h=>zSR (qw h Z Z fun _ _ h=>X1 15 0 h Z ?_);obtain⟨T,F,c⟩:=qd F;refine qn ?_;replace h:=h.pick [] Z;refine rL (fun m e w'=>∃(i:Int),qbG a b m i=V T∧e=[(1,.slice W b.length R),(5,.int .i64 (a.Aa.Ai.length:Int)),(6,.int .i64 i)]∧SH w w' []) n ⟨_,F,rfl,h⟩ Z ?_;rintro S _ _ ⟨i,F,rfl,h⟩;rcases S with _|S
 ·cases F
 refine X0 8 Z (qi Z F ?_ ?_)<;>intro F
 ·refine X0 7 Z ?_;obtain⟨X,_,F,y,_,_,_,_,C,J,N,s⟩:=k.ix F;obtain rfl:=qV N;refine zxe C J y Z (zc 0 (s.below h.below) Z (qp qa h Z Z Z fun _ f h=>zs 0 h Z fun _ h=>zNSS ?_));obtain⟨l,g,_,F,d⟩:=bindE F;refine qaT (fun e w'=>∃(b2:Bool),l b2=V T∧e=[(1,.slice W b.length R),(5,.int .i64 (a.Aa.Ai.length:Int)),(6,.int .i64 i),(7,.pointer (V ⟨f,0,U⟩)),(44,.bool b2)]∧SH w w' [Ch.box f (qkO X) 101]) ?_ ?_
  ·refine X1 5 0 h Z (zcB h F qah Z fun _ _ h F=>zp2 Z (qj (t:=28) F Z ?_ ?_))<;>intro F
   ·refine X0 17 Z ?_;obtain rfl:=qb F;exact rG ⟨_,d,rfl,h⟩ Z
   refine X2 15 0 0 h Z (zcB h F qah Z fun _ _ h F=>X0 4 Z (qj (t:=39) F Z ?_ ?_))<;>intro F
   ·refine X0 6 Z ?_;obtain rfl:=qb F;exact rG ⟨_,d,rfl,h⟩ Z
   refine X1 5 0 h Z (zcB h F qah Z fun _ _ h F=>X0 4 Z ?_);obtain rfl:=qb F;exact rG ⟨_,d,rfl,h⟩ Z
  rintro _ _ ⟨b2,F,rfl,h⟩;subst g;refine qi Z F ?_ ?_<;>intro F
  ·refine X0 4 Z ?_;obtain rfl:=qb F;replace F:=c;exact rb h F Z
  refine zKS (rD (zd3 Z (qaY (t:=47) F Z ?_ ?_)))<;>intro F
  ·refine Y0 7 Z ?_;obtain⟨_,_,F,z,_,_,_,_,D,K,O,u⟩:=k.ix F;obtain rfl:=qV O;refine zdxe D K z Z (Y0 3 Z (zdc 0 (u.below h.below) Z (Y1 4 0 h Z ?_)));refine Y0 4 Z (qaY (t:=57) F Z ?_ ?_)<;>intro F
   ·refine Y0 23 Z (dN h fun _ h=>qb9 Z Z (X0 4 Z ?_));obtain rfl:=qb F;replace F:=c;exact rb h F Z
   refine Y0 7 Z ?_;obtain⟨_,_,F,A,_,_,_,_,H,L,P,v⟩:=k.ix F;obtain rfl:=qV P;refine zdxe H L A Z (Y0 3 Z (zdc 0 (v.below h.below) Z (Y1 4 0 h Z ?_)));refine Y0 4 Z (qaY (t:=67) F Z ?_ ?_)<;>intro F
   ·refine Y0 7 Z ?_;obtain⟨_,_,F,B,_,_,_,_,I,M,Q,x⟩:=k.ix F;obtain rfl:=qV Q;refine zdxe I M B Z (Y0 3 Z (zdc 1 (x.below h.below) Z (Y1 4 0 h Z ?_)));refine Y0 7 Z (dN h fun _ h=>qi Z F ?_ ?_)<;>intro F
    ·refine X0 4 Z ?_;obtain rfl:=qb F;replace F:=c;exact rb h F Z
    refine X0 7 Z ?_;replace h:=h.pick [] Z;exact rK ⟨_,F,rfl,h⟩ Z
   refine Y0 14 Z (dN h fun _ h=>qbL Z Z (X0 7 Z ?_));replace h:=h.pick [] Z;exact rK ⟨_,F,rfl,h⟩ Z
  refine Y0 32 Z (dN h fun _ h=>qbL Z Z (X0 7 Z ?_));replace h:=h.pick [] Z;exact rK ⟨_,F,rfl,h⟩ Z
 refine qr Z ?_;obtain rfl:=qb F;replace F:=c;exact X0 7 Z (rb h F Z)
def qiB (vals:(List Int)):Nat→Int→Option (Flow Int Int)
 | 0,_=>U
 | n+1,a=>
  bif decide (a<(vals.length:Int)) then
   (idx vals a).bind fun b=>
   bif (b != 0) then V (.ret b) else
   qiB vals n (W64 (a+1))
  else
   V (.nxt a)
def qnq (n:Nat)(vals:(List Int)):Option Int:=
 (qiB vals n 0).bind fun o=>match o with
 | .ret r=>V r
 | .nxt _=>
  V 0
theorem qs5 {vals:(List Int)}(b:Ro w vals cs1){r:Int}(F:qnq n vals=V r):RetV prog 150 [GoT.v (List Int) cs1] w r:=by
 obtain⟨p,l,rfl,s⟩:=b;refine zV 18 func150 Z fun h=>X0 15 Z ?_;obtain⟨o,F,a⟩:=qd F;refine qn (rL (fun m e w'=>∃(i:Int),qiB vals m i=V o∧e=[(3,.int .i64 0),(6,.slice p vals.length l),(7,.int .i64 (vals.length:Int)),(8,.int .i64 i)]∧SH w w' []) n ⟨_,F,rfl,h⟩ Z ?_);rintro k _ _ ⟨i,F,rfl,h⟩;rcases k with _|k
 ·cases F
 refine X0 5 Z (qi Z F ?_ ?_)<;>intro F
 ·refine zKSBSR ?_;obtain⟨_,_,F,d,_,_,_,_,f,g,rfl,c⟩:=s.ix F;refine zxe f g d Z (zc 0 (c.below h.below) Z (X0 8 Z (qi Z F ?_ ?_)))<;>intro F
  ·refine X0 5 Z ?_;obtain rfl:=qb F;replace F:=a;exact ri h F Z
  exact X0 6 Z (rK ⟨_,F,rfl,h⟩ Z)
 refine qr Z ?_;obtain rfl:=qb F;replace F:=a;exact X0 5 Z (ri h F Z)
def qeh (_:Nat)(x:Int):Option Bool:=
 V (x != x)
theorem qgH {x:Int}  {r:Bool}(F:qeh n x=V r):RetV prog 212 [.int .i64 x] w r:=by
 exact zV 6 func212 Z fun h=>X0 11 Z (rb h F Z)
def qfN (n:Nat)(x:Int)(y:Int):Option Int:=
 (qeh n x).bind fun b=>
 (qeh n y).bind fun a=>
 bif b then
  bif a then V 0 else
  V (-1)
 else
  bif a then V 1 else
  bif decide (x<y) then V (-1) else
  bif decide (x > y) then V 1 else
  V 0
theorem qkK {x:Int}{y:Int}  {r:Int}(F:qfN n x y=V r):RetV prog 151 [.int .i64 x,.int .i64 y] w r:=by
 refine zV 20 func151 Z fun h=>X0 7 Z (zcB h F qgH Z fun _ _ h F=>X0 5 Z (zcB h F qgH Z fun _ _ h F=>X0 7 Z (qi Z F ?_ ?_)))<;>intro F
 ·refine X0 5 Z (qi Z F ?_ ?_)<;>intro F
  ·exact X0 4 Z (ri h F Z)
  exact X0 5 Z (ri h F Z)
 refine X0 6 Z (qi Z F ?_ ?_)<;>intro F
 ·exact X0 4 Z (ri h F Z)
 refine X0 8 Z (qi Z F ?_ ?_)<;>intro F
 ·exact X0 4 Z (ri h F Z)
 refine X0 8 Z (qi Z F ?_ ?_)<;>intro F
 ·exact X0 4 Z (ri h F Z)
 exact X0 5 Z (ri h F Z)
def qaZ (a:qe)(b:(List qh)):Nat→Int→Option (Flow Bool Int)
 | 0,_=>U
 | n+1,c=>
  bif decide (c<(b.length:Int)) then
   (idx b c).bind fun d=>
   (
    (qcj n (⟨a.Aa.Ab,a.Aa.Ai,a.Aa.Ah⟩:qg) d.A).bind fun i=>
    bif (!i) then V true else
    (qcj n (⟨a.Aa.Ab,a.Aa.Ai,a.Aa.Ah⟩:qg) d.B).bind fun k=>
    bif (!k) then V true else
    bif decide (d.A ≥ d.B) then V true else
    (qaU n d.Bp 1 10000).bind fun l=>
    V (!l)).bind fun b2=>
   bif b2 then V (.ret false) else
   bif decide (c > 0) then
    (idx b (W64 (c-1))).bind fun m=>
    (idx b (W64 (c-1))).bind fun o=>
    (qfN n m.A d.A).bind fun f=>
    (qfN n o.B d.B).bind fun g=>
    (qnq n ([f,g]:List Int)).bind fun h=>
    bif decide (h ≥ 0) then V (.ret false) else
    qaZ a b n (W64 (c+1))
   else
    qaZ a b n (W64 (c+1))
  else
   V (.nxt c)
def qcK (n:Nat)(b:qe)(a:(List qh)):Option Bool:=
 (qaZ b a n 0).bind fun o=>match o with
 | .ret r=>V r
 | .nxt _=>
  V (decide ((a.length:Int)≤20))
theorem qlT {b:qe}{a:(List qh)}(v:Ro w b cs1)(x:Ro w a cs2){r:Bool}(F:qcK n b a=V r):RetV prog 95 [GoT.v qe cs1,GoT.v (List qh) cs2] w r:=by
 obtain⟨Y,P,p2,Q,p3,R,p4,S,p5,T,rfl,_,s2,s3,s4,_⟩:=qE v;obtain⟨s,p,rfl,O⟩:=x;refine zV 70 func95 Z fun h=>zSR (qw h Z Z fun _ c h=>X0 9 Z ?_);obtain⟨X,F,f⟩:=qd F;refine qn (rL (fun m e w'=>∃(o:Int),qaZ b a m o=V X∧e=[(1,.slice s a.length p),(2,.pointer (V ⟨c,0,U⟩)),(7,.slice s a.length p),(8,.int .i64 (a.length:Int)),(9,.int .i64 o)]∧SH w w' [Ch.box c (qJ b Y p2 p3 p4 p5 P Q R S T) 57]) n ⟨_,F,rfl,h⟩ Z ?_);rintro W _ _ ⟨o,F,rfl,h⟩;rcases W with _|W
 ·cases F
 refine X0 5 Z (qi Z F ?_ ?_)<;>intro F
 ·refine X0 6 Z ?_;obtain⟨y1,_,F,B,_,_,_,_,C,I,L,y⟩:=O.ix F;obtain rfl:=qV L;refine zxe C I B Z (zc 0 (y.below h.below) Z (qp qa h Z Z Z fun _ g h=>zp1 Z (zs 0 h Z fun _ h=>zNSS ?_)));obtain⟨u,i,_,F,d⟩:=bindE F;refine qaT (fun e w'=>∃(b2:Bool),u b2=V X∧e=[(1,.slice s a.length p),(2,.pointer (V ⟨c,0,U⟩)),(5,.int .i64 o),(6,.pointer (V ⟨g,0,U⟩)),(7,.slice s a.length p),(8,.int .i64 (a.length:Int)),(9,.int .i64 o),(40,.bool b2)]∧SH w w' [Ch.box g (qkO y1) 101,Ch.box c (qJ b Y p2 p3 p4 p5 P Q R S T) 57]) ?_ ?_
  ·refine X2 5 1 0 h Z (zcB h F (qdV (qav _ (h.oldS s2) (h.oldS s3) (h.oldS s4))) Z fun _ _ h F=>zp2 Z (qj (t:=20) F Z ?_ ?_))<;>intro F
   ·refine X0 21 Z ?_;obtain rfl:=qb F;exact rG ⟨_,d,rfl,h⟩ Z
   refine X2 9 1 0 h Z (zcB h F (qdV (qav _ (h.oldS s2) (h.oldS s3) (h.oldS s4))) Z fun _ _ h F=>X0 4 Z (qj (t:=28) F Z ?_ ?_))<;>intro F
   ·refine X0 13 Z ?_;obtain rfl:=qb F;exact rG ⟨_,d,rfl,h⟩ Z
   refine X2 12 0 0 h Z (qj (t:=35) F Z ?_ ?_)<;>intro F
   ·refine X0 6 Z ?_;obtain rfl:=qb F;exact rG ⟨_,d,rfl,h⟩ Z
   refine X1 5 0 h Z (zcB h F qaJ Z fun _ _ h F=>X0 4 Z ?_);obtain rfl:=qb F;exact rG ⟨_,d,rfl,h⟩ Z
  rintro _ _ ⟨b2,F,rfl,h⟩;subst i;refine qi Z F ?_ ?_<;>intro F
  ·refine X0 4 Z ?_;obtain rfl:=qb F;replace F:=f;exact rb h F Z
  refine zKS (rA [] [0] h Z fun _ h=>M0 7 [0,1,2] (h.pick [0] Z) Z (qAs (t:=43) F Z ?_ ?_))<;>intro F
  ·refine qfF 3 Z (by kernel_rfl) (bits 25 15) (by kernel_rfl) (by kernel_rfl) (fun w' hw=>v_p qa Z w') (h.pick [0] Z) Z (qfF 4 Z (by kernel_rfl) (bits 25 31) (by kernel_rfl) (by kernel_rfl) (fun w' hw=>v_p qa Z w') (h.pick [0] Z) Z (qfF 5 Z (by kernel_rfl) (bits 25 63) (by kernel_rfl) (by kernel_rfl) (fun w' hw=>v_p qa Z w') (h.pick [0] Z) Z ?_));obtain⟨_,_,F,k,_,_,_,_,D,J,M,z⟩:=O.ix F;obtain rfl:=qV M;refine qfF 6 Z (by kernel_rfl) (bits 25 127) (by kernel_rfl) (by kernel_rfl) (fun w' hw=>qv7 qa D J ⟨k.1,k.2.1⟩ Z Z Z Z Z Z) (h.pick [0] Z) Z (qfF 7 Z (by kernel_rfl) (bits 25 255) (by kernel_rfl) (by kernel_rfl) (fun w' hw=>v_p qa Z w') (h.pick [0] Z) Z (qfF 8 Z (by kernel_rfl) (bits 25 511) (by kernel_rfl) (by kernel_rfl) (fun w' hw=>qia qa (z.below hw.below) (j:=0) Z Z Z) (h.pick [0] Z) Z (qfF 9 Z (by kernel_rfl) (bits 25 1023) (by kernel_rfl) (by kernel_rfl) (fun w' hw=>v_p qa Z w') (h.pick [0] Z) Z (qfF 10 Z (by kernel_rfl) (bits 25 2047) (by kernel_rfl) (by kernel_rfl) (fun w' hw=>qia qa (hw.box 0 Z) (j:=0) Z Z Z) (h.pick [0] Z) Z (qfF 12 Z (by kernel_rfl) (bits 25 6143) (by kernel_rfl) (by kernel_rfl) (fun w' hw=>v_p qa Z w') (h.pick [0] Z) Z (qfF 13 Z (by kernel_rfl) (bits 25 14335) (by kernel_rfl) (by kernel_rfl) (fun w' hw=>v_p qa Z w') (h.pick [0] Z) Z (qfF 14 Z (by kernel_rfl) (bits 25 30719) (by kernel_rfl) (by kernel_rfl) (fun w' hw=>v_p qa Z w') (h.pick [0] Z) Z ?_)))))));obtain⟨_,_,F,l,_,_,_,_,H,K,N,A⟩:=O.ix F;obtain rfl:=qV N;refine qfF 15 Z (by kernel_rfl) (bits 25 63487) (by kernel_rfl) (by kernel_rfl) (fun w' hw=>qv7 qa H K ⟨l.1,l.2.1⟩ Z Z Z Z Z Z) (h.pick [0] Z) Z (qfF 16 Z (by kernel_rfl) (bits 25 129023) (by kernel_rfl) (by kernel_rfl) (fun w' hw=>v_p qa Z w') (h.pick [0] Z) Z (qfF 17 Z (by kernel_rfl) (bits 25 260095) (by kernel_rfl) (by kernel_rfl) (fun w' hw=>qia qa (A.below hw.below) (j:=1) Z Z Z) (h.pick [0] Z) Z (qfF 18 Z (by kernel_rfl) (bits 25 522239) (by kernel_rfl) (by kernel_rfl) (fun w' hw=>v_p qa Z w') (h.pick [0] Z) Z (qfF 19 Z (by kernel_rfl) (bits 25 1046527) (by kernel_rfl) (by kernel_rfl) (fun w' hw=>qia qa (hw.box 0 Z) (j:=1) Z Z Z) (h.pick [0] Z) Z (Ao 11 1048575 Z (X0 1 Z (zcI h F qkK Z fun r1 _ h F=>Ag (h.pick [0] Z) (Ao 20 2097151 Z (X0 1 Z (zcI h F qkK Z fun r2 _ h F=>Ag (h.pick [0] Z) (Ao 21 4194303 Z (X0 1 Z (qG qa [.tmp 52,.tmp 61] _ ([r1,r2]:List Int) h Z Z Z Z Z Z Z Z Z ⟨rfl,rfl,trivial⟩ Z fun _ _ _ h=>Ag (h.pick [1] Z) (Ao 22 8388607 Z (X0 1 Z (zcI h F (qs5 (h.own 0 Z)) Z fun _ _ h F=>Ag (h.pick [1] Z) (qfF 23 Z (by kernel_rfl) (bits 25 16777215) (by kernel_rfl) (by kernel_rfl) (fun w' hw=>v_p qa Z w') (h.pick [1] Z) Z (M0 33554431 [24] (h.pick [1] Z) Z (Ad (qi Z F ?_ ?_))))))))))))))))))))<;>intro F
   ·refine X0 4 Z ?_;obtain rfl:=qb F;replace F:=f;exact rb h F Z
   refine X0 6 Z ?_;replace h:=h.pick [2] Z;exact rK ⟨_,F,rfl,h⟩ Z
  refine qiE 3 Z (by kernel_rfl) Z (bits 25 15) (by kernel_rfl) (by kernel_rfl) (h.pick [0] Z) Z (qiE 4 Z (by kernel_rfl) Z (bits 25 31) (by kernel_rfl) (by kernel_rfl) (h.pick [0] Z) Z (qiE 5 Z (by kernel_rfl) Z (bits 25 63) (by kernel_rfl) (by kernel_rfl) (h.pick [0] Z) Z (qiE 6 Z (by kernel_rfl) Z (bits 25 127) (by kernel_rfl) (by kernel_rfl) (h.pick [0] Z) Z (qiE 7 Z (by kernel_rfl) Z (bits 25 255) (by kernel_rfl) (by kernel_rfl) (h.pick [0] Z) Z (qiE 8 Z (by kernel_rfl) Z (bits 25 511) (by kernel_rfl) (by kernel_rfl) (h.pick [0] Z) Z (qiE 9 Z (by kernel_rfl) Z (bits 25 1023) (by kernel_rfl) (by kernel_rfl) (h.pick [0] Z) Z (qiE 10 Z (by kernel_rfl) Z (bits 25 2047) (by kernel_rfl) (by kernel_rfl) (h.pick [0] Z) Z (qiE 11 Z (by kernel_rfl) Z (bits 25 4095) (by kernel_rfl) (by kernel_rfl) (h.pick [0] Z) Z (qiE 12 Z (by kernel_rfl) Z (bits 25 8191) (by kernel_rfl) (by kernel_rfl) (h.pick [0] Z) Z (qiE 13 Z (by kernel_rfl) Z (bits 25 16383) (by kernel_rfl) (by kernel_rfl) (h.pick [0] Z) Z (qiE 14 Z (by kernel_rfl) Z (bits 25 32767) (by kernel_rfl) (by kernel_rfl) (h.pick [0] Z) Z (qiE 15 Z (by kernel_rfl) Z (bits 25 65535) (by kernel_rfl) (by kernel_rfl) (h.pick [0] Z) Z (qiE 16 Z (by kernel_rfl) Z (bits 25 131071) (by kernel_rfl) (by kernel_rfl) (h.pick [0] Z) Z (qiE 17 Z (by kernel_rfl) Z (bits 25 262143) (by kernel_rfl) (by kernel_rfl) (h.pick [0] Z) Z (qiE 18 Z (by kernel_rfl) Z (bits 25 524287) (by kernel_rfl) (by kernel_rfl) (h.pick [0] Z) Z (qiE 19 Z (by kernel_rfl) Z (bits 25 1048575) (by kernel_rfl) (by kernel_rfl) (h.pick [0] Z) Z (qiE 20 Z (by kernel_rfl) Z (bits 25 2097151) (by kernel_rfl) (by kernel_rfl) (h.pick [0] Z) Z (qiE 21 Z (by kernel_rfl) Z (bits 25 4194303) (by kernel_rfl) (by kernel_rfl) (h.pick [0] Z) Z (qiE 22 Z (by kernel_rfl) Z (bits 25 8388607) (by kernel_rfl) (by kernel_rfl) (h.pick [0] Z) Z (qiE 23 Z (by kernel_rfl) Z (bits 25 16777215) (by kernel_rfl) (by kernel_rfl) (h.pick [0] Z) Z (M0 33554431 [24] (h.pick [0] Z) Z (Ad (qbL Z Z (X0 6 Z ?_))))))))))))))))))))))));replace h:=h.pick [1] Z;exact rK ⟨_,F,rfl,h⟩ Z
 refine qr Z ?_;obtain rfl:=qb F;replace F:=f;exact X0 7 Z (rb h F Z)
end Go.Fw


namespace Go.Fw
open Go Go.Proofs Go.Proofs.Tryz
open Go.RowKit (Below)
set_option maxRecDepth 100000
set_option maxHeartbeats 1600000
variable {n:Nat}{w:World}{cs1 cs2 cs3 cs4 cs5 cs6 cs7 cs8 cs9:List Value}
def qhi (n:Nat)(b:qe):Option Int:=
 (qcr n (⟨b.Aa.Ab,b.Aa.Ai,b.Aa.Ah⟩:qg)).bind fun a=>
 V (W64 (2*(a.length:Int)))
theorem qjY {b:qe}(a:Ro w b cs1){r:Int}(F:qhi n b=V r):RetV prog 83 [GoT.v qe cs1] w r:=by
 obtain⟨_,_,_,_,_,_,_,_,_,_,rfl,_,s2,c,d,_⟩:=qE a;exact zV 8 func83 Z fun h=>zSR (qw h Z Z fun _ _ h=>X1 6 0 h Z (zcL h F (qch (qav _ (h.oldS s2) (h.oldS c) (h.oldS d))) Z fun _ _ _ _ _ h F=>X0 4 Z (ri h F Z)))
def qjg (n:Nat)(s:qc):Option Bool:=
 (qaB n s.Am (-1000000000) 1000000000).bind fun a=>
 bif a then
  (qaB n s.Au (-1000000000) 1000000000).bind fun b=>
  bif b then V (decide (s.Am≤s.Au)) else
  V false
 else
  V false
theorem ql4 {s:qc}(a:Ro w s cs1){r:Bool}(F:qjg n s=V r):RetV prog 85 [GoT.v qc cs1] w r:=by
 obtain rfl:=qu a;refine zV 18 func85 Z fun h=>zSR (qw h Z Z fun _ _ h=>X1 6 0 h Z (zcB h F qah Z fun _ _ h F=>zp1 Z (qj (t:=6) F Z ?_ ?_)))<;>intro F
 ·refine X1 5 0 h Z (zcB h F qah Z fun _ _ h F=>zp2 Z (qj (t:=11) F Z ?_ ?_))<;>intro F
  ·exact X2 13 0 0 h Z (rb h F Z)
  exact X0 8 Z (rb h F Z)
 exact X0 13 Z (rb h F Z)
def qiJ (_:Nat)(s:qc):Option Bool:=
 bif decide (s.Am ≥ 0) then
  bif decide (s.Am≤s.Au) then V (decide (s.Au≤1000000)) else
  V false
 else
  V false
theorem qm4 {s:qc}(a:Ro w s cs1){r:Bool}(F:qiJ n s=V r):RetV prog 203 [GoT.v qc cs1] w r:=by
 obtain rfl:=qu a;refine zV 18 func203 Z fun h=>zSR (qw h Z Z fun _ _ h=>X1 8 0 h Z (qj (t:=6) F Z ?_ ?_))<;>intro F
 ·refine X2 12 0 0 h Z (qj (t:=13) F Z ?_ ?_)<;>intro F
  ·exact X1 9 0 h Z (rb h F Z)
  exact X0 6 Z (rb h F Z)
 exact X0 13 Z (rb h F Z)
def qbZ (list:(List qf))(b:Int):Nat→Int→Option (Flow Bool Int)
 | 0,_=>U
 | n+1,a=>
  bif decide (a<(list.length:Int)) then
   (idx list a).bind fun o=>
   (qaB n o.Bm 0 (W64 (b-1))).bind fun h=>
   bif (!h) then V (.ret false) else
   bif decide (a > 0) then
    (idx list (W64 (a-1))).bind fun p=>
    (idx list a).bind fun r=>
    bif decide (p.Bm ≥ r.Bm) then V (.ret false) else
    (idx list a).bind fun c=>
    (qjg n (⟨c.Ac.Am,c.Ac.Au⟩:qc)).bind fun i=>
    bif (!i) then V (.ret false) else
    (idx list a).bind fun d=>
    (qiJ n (⟨d.Aq.Am,d.Aq.Au⟩:qc)).bind fun k=>
    bif (!k) then V (.ret false) else
    qbZ list b n (W64 (a+1))
   else
    (idx list a).bind fun f=>
    (qjg n (⟨f.Ac.Am,f.Ac.Au⟩:qc)).bind fun l=>
    bif (!l) then V (.ret false) else
    (idx list a).bind fun g=>
    (qiJ n (⟨g.Aq.Am,g.Aq.Au⟩:qc)).bind fun m=>
    bif (!m) then V (.ret false) else
    qbZ list b n (W64 (a+1))
  else
   V (.nxt a)
def qhb (n:Nat)(b:qe)(list:(List qf)):Option Bool:=
 (qhi n b).bind fun a=>
 (qbZ list a n 0).bind fun o=>match o with
 | .ret r=>V r
 | .nxt _=>
  V true
theorem qpu {b:qe}{list:(List qf)}(d:Ro w b cs1)(l:Ro w list cs2){r:Bool}(F:qhb n b list=V r):RetV prog 133 [GoT.v qe cs1,GoT.v (List qf) cs2] w r:=by
 obtain⟨_,_,_,_,_,_,_,_,_,_,rfl,_,_,_,_,_⟩:=qE d;obtain⟨p6,k6,rfl,c⟩:=l;refine zV 60 func133 Z fun h=>zSR (qw h Z Z fun _ _ h=>X1 5 0 h Z (zcI h F (qjY (h.old d)) Z fun r1 _ h F=>X0 7 Z ?_));obtain⟨o1,F,a⟩:=qd F;refine qn ?_;replace h:=h.pick [] Z;refine rL (fun m e w'=>∃(i1:Int),qbZ list r1 m i1=V o1∧e=[(1,.slice p6 list.length k6),(5,.int .i64 r1),(6,.int .i64 i1)]∧SH w w' []) n ⟨_,F,rfl,h⟩ Z ?_;rintro m1 _ _ ⟨i1,F,rfl,h⟩;rcases m1 with _|m1
 ·cases F
 refine X0 8 Z (qi Z F ?_ ?_)<;>intro F
 ·refine X0 4 Z (rD (zd2 Z ?_));obtain⟨_,_,F,z,_,_,_,_,J,Q,a3,o⟩:=c.ix F;obtain rfl:=qac a3;refine zdxe J Q z Z (zd1 Z (zdc 0 (o.below h.below) Z (zd2 Z ?_)));obtain⟨r2,a4,F⟩:=qd F;refine qbn r2 (vsB _) (cB 130 Z) (fun _ hb=>qah  a4) Z Z Z Z (zd2 Z (qaY (t:=24) F Z ?_ ?_))<;>intro F
  ·refine Y0 35 Z (dN h fun _ h=>qb9 Z Z (X0 4 Z ?_));obtain rfl:=qb F;replace F:=a;exact rb h F Z
  refine Y0 6 Z (qaY (t:=27) F Z ?_ ?_)<;>intro F
  ·refine Y0 7 Z ?_;obtain⟨_,_,F,A,_,_,_,_,K,R,a5,p⟩:=c.ix F;obtain rfl:=qac a5;refine zdxe K R A Z (Y0 3 Z (zdc 0 (p.below h.below) Z (Y0 5 Z ?_)));obtain⟨_,_,F,B,_,_,_,_,L,S,a6,s⟩:=c.ix F;obtain rfl:=qac a6;refine zdxe L S B Z (Y0 3 Z (zdc 0 (s.below h.below) Z (Y0 6 Z (qaY (t:=42) F Z ?_ ?_))))<;>intro F
   ·refine Y0 17 Z (dN h fun _ h=>qb9 Z Z (X0 4 Z ?_));obtain rfl:=qb F;replace F:=a;exact rb h F Z
   refine Y0 5 Z ?_;obtain⟨_,_,F,C,_,_,_,_,M,T,a7,u⟩:=c.ix F;obtain rfl:=qac a7;refine zdxe M T C Z (Y0 3 Z (zdc 1 (u.below h.below) Z (Y0 1 Z ?_)));obtain⟨r3,a8,F⟩:=qd F;refine qbn r3 (vsB _) (cB 85 Z) (fun _ hb=>ql4 (qB _) a8) Z Z Z Z (Y0 4 Z (qaY (t:=51) F Z ?_ ?_))<;>intro F
   ·refine Y0 8 Z (dN h fun _ h=>qb9 Z Z (X0 4 Z ?_));obtain rfl:=qb F;replace F:=a;exact rb h F Z
   refine Y0 5 Z ?_;obtain⟨_,_,F,D,_,_,_,_,N,W,a9,v⟩:=c.ix F;obtain rfl:=qac a9;refine zdxe N W D Z (Y0 3 Z (zdc 3 (v.below h.below) Z (Y0 1 Z ?_)));obtain⟨r4,b3,F⟩:=qd F;refine qbn r4 (vsB _) (cB 203 Z) (fun _ hb=>qm4 (qB _) b3) Z Z Z Z (Y0 3 Z (dN h fun _ h=>qi Z F ?_ ?_))<;>intro F
   ·refine X0 4 Z ?_;obtain rfl:=qb F;replace F:=a;exact rb h F Z
   exact X0 7 Z (rK ⟨_,F,rfl,h⟩ Z)
  refine Y0 21 Z ?_;obtain⟨_,_,F,H,_,_,_,_,O,X,f,x⟩:=c.ix F;obtain rfl:=qac f;refine zdxe O X H Z (Y0 3 Z (zdc 1 (x.below h.below) Z (Y0 1 Z ?_)));obtain⟨r5,g,F⟩:=qd F;refine qbn r5 (vsB _) (cB 85 Z) (fun _ hb=>ql4 (qB _) g) Z Z Z Z (Y0 4 Z (qaY (t:=51) F Z ?_ ?_))<;>intro F
  ·refine Y0 8 Z (dN h fun _ h=>qb9 Z Z (X0 4 Z ?_));obtain rfl:=qb F;replace F:=a;exact rb h F Z
  refine Y0 5 Z ?_;obtain⟨_,_,F,I,_,_,_,_,P,Y,i,y⟩:=c.ix F;obtain rfl:=qac i;refine zdxe P Y I Z (Y0 3 Z (zdc 3 (y.below h.below) Z (Y0 1 Z ?_)));obtain⟨r6,k,F⟩:=qd F;refine qbn r6 (vsB _) (cB 203 Z) (fun _ hb=>qm4 (qB _) k) Z Z Z Z (Y0 3 Z (dN h fun _ h=>qi Z F ?_ ?_))<;>intro F
  ·refine X0 4 Z ?_;obtain rfl:=qb F;replace F:=a;exact rb h F Z
  exact X0 7 Z (rK ⟨_,F,rfl,h⟩ Z)
 refine qr Z ?_;obtain rfl:=qb F;replace F:=a;exact X0 4 Z (rb h F Z)
def qmy (n:Nat)(t:Int):Option Bool:=
 (qaU n t (-1000000000) 1000000000).bind fun a=>
 V a
theorem qoq {t:Int}  {r:Bool}(F:qmy n t=V r):RetV prog 167 [.int .i64 t] w r:=by
 exact zV 5 func167 Z fun h=>X0 7 Z (zcB h F qaJ Z fun _ _ h F=>X0 2 Z (rb h F Z))
def qh5 (n:Nat)(s:qc):Option Bool:=
 (qmy n s.Am).bind fun a=>
 bif a then
  (qmy n s.Au).bind fun b=>
  bif b then V (decide (s.Am≤s.Au)) else
  V false
 else
  V false
theorem qjp {s:qc}(a:Ro w s cs1){r:Bool}(F:qh5 n s=V r):RetV prog 100 [GoT.v qc cs1] w r:=by
 obtain rfl:=qu a;refine zV 18 func100 Z fun h=>zSR (qw h Z Z fun _ _ h=>X1 6 0 h Z (zcB h F qoq Z fun _ _ h F=>zp1 Z (qj (t:=6) F Z ?_ ?_)))<;>intro F
 ·refine X1 5 0 h Z (zcB h F qoq Z fun _ _ h F=>zp2 Z (qj (t:=11) F Z ?_ ?_))<;>intro F
  ·exact X2 13 0 0 h Z (rb h F Z)
  exact X0 8 Z (rb h F Z)
 exact X0 13 Z (rb h F Z)
def qmi (n:Nat)(a_n:Int):Option Bool:=
 (qaU n a_n 0 1000000).bind fun a=>
 V a
theorem qoC {a_n:Int}  {r:Bool}(F:qmi n a_n=V r):RetV prog 274 [.int .i64 a_n] w r:=by
 exact zV 5 func274 Z fun h=>X0 7 Z (zcB h F qaJ Z fun _ _ h F=>X0 2 Z (rb h F Z))
def qiL (n:Nat)(s:qc):Option Bool:=
 (qh5 n s).bind fun a=>
 bif a then
  (qmi n s.Am).bind fun b=>
  bif b then
   (qmi n s.Au).bind fun c=>
   V c
  else
   V false
 else
  V false
theorem qnh {s:qc}(a:Ro w s cs1){r:Bool}(F:qiL n s=V r):RetV prog 220 [GoT.v qc cs1] w r:=by
 obtain rfl:=qu a;refine zV 15 func220 Z fun h=>zSR (qw h Z Z fun _ _ h=>X1 5 0 h Z (zcB h F (qjp (h.old a)) Z fun _ _ h F=>zp1 Z (qj (t:=5) F Z ?_ ?_)))<;>intro F
 ·refine X1 5 0 h Z (zcB h F qoC Z fun _ _ h F=>zp2 Z (qj (t:=10) F Z ?_ ?_))<;>intro F
  ·exact X1 5 0 h Z (zcB h F qoC Z fun _ _ h F=>X0 3 Z (rb h F Z))
  exact X0 6 Z (rb h F Z)
 exact X0 11 Z (rb h F Z)
def qew (_:Nat)(list:(List Tplace)):Option Int:=
 V (list.length:Int)
theorem qmc {list:(List Tplace)}(a:Ro w list cs1){r:Int}(F:qew n list=V r):RetV prog 227 [GoT.v (List Tplace) cs1] w r:=by
 obtain⟨_,_,rfl,_⟩:=a;exact zV 5 func227 Z fun h=>X0 10 Z (ri h F Z)
def qdi (n:Nat)(v:(Option Tview)):Option Int:=
 (v).bind fun b=>
 (qew n b.places).bind fun a=>
 V (W64 (2*a))
theorem qgQ {v:(Option Tview)}(a:Ro w v cs1){r:Int}(F:qdi n v=V r):RetV prog 161 [GoT.v (Option Tview) cs1] w r:=by
 obtain⟨_,rfl,g⟩:=qbV a;refine zV 9 func161 Z fun h=>X0 7 Z ?_;obtain⟨_,d,F⟩:=qd F;obtain⟨_,f,_,rfl,-,c,b⟩:=PtR.get g d;obtain⟨_,_,_,_,_,_,_,_,_,_,_,_,_,_,_,_,_,_,_,_,rfl,_,_,_,_,_,i,_,_,_,_⟩:=qcB c;exact zp2 Z (zc 5 (b.below h.below) Z (zcI h F (qmc ⟨_,_,rfl,(h.oldS i)⟩) Z fun _ _ h F=>X0 3 Z (ri h F Z)))
def qj6 (n:Nat)(v:(Option Tview))(node:Int):Option Bool:=
 (qdi n v).bind fun a=>
 (qaU n node 0 (W64 (a-1))).bind fun b=>
 V b
theorem qpj {v:(Option Tview)}{node:Int}(a:Ro w v cs1){r:Bool}(F:qj6 n v node=V r):RetV prog 222 [GoT.v (Option Tview) cs1,.int .i64 node] w r:=by
 obtain⟨_,rfl,b⟩:=qbV a;exact zV 10 func222 Z fun h=>X0 8 Z (zcI h F (qgQ (h.old b)) Z fun _ _ h F=>zp1 Z (zcB h F qaJ Z fun _ _ h F=>X0 2 Z (rb h F Z)))
def qa6 (v:(Option Tview))(list:(List qf)):Nat→Int→Option (Flow Bool Int)
 | 0,_=>U
 | n+1,a=>
  bif decide (a<(list.length:Int)) then
   (idx list a).bind fun b=>
   (qj6 n v b.Bm).bind fun c=>
   bif (!c) then V (.ret false) else
   (qh5 n (⟨b.Ac.Am,b.Ac.Au⟩:qc)).bind fun d=>
   bif (!d) then V (.ret false) else
   (qiL n (⟨b.Aq.Am,b.Aq.Au⟩:qc)).bind fun f=>
   bif (!f) then V (.ret false) else
   bif decide (a > 0) then
    (idx list (W64 (a-1))).bind fun g=>
    bif decide (g.Bm ≥ b.Bm) then V (.ret false) else
    qa6 v list n (W64 (a+1))
   else
    qa6 v list n (W64 (a+1))
  else
   V (.nxt a)
def qdW (n:Nat)(v:(Option Tview))(list:(List qf)):Option Bool:=
 (qa6 v list n 0).bind fun o=>match o with
 | .ret r=>V r
 | .nxt _=>
  V true
theorem qnc {v:(Option Tview)}{list:(List qf)}(b:Ro w v cs1)(c:Ro w list cs2){r:Bool}(F:qdW n v list=V r):RetV prog 158 [GoT.v (Option Tview) cs1,GoT.v (List qf) cs2] w r:=by
 obtain⟨I,rfl,M⟩:=qbV b;obtain⟨D,B,rfl,s2⟩:=c;refine zV 47 func158 Z fun h=>X0 11 Z ?_;obtain⟨H,F,a⟩:=qd F;refine qn (rL (fun m e w'=>∃(A:Int),qa6 v list m A=V H∧e=[(0,.pointer I),(1,.slice D list.length B),(7,.slice D list.length B),(8,.int .i64 (list.length:Int)),(9,.int .i64 A)]∧SH w w' []) n ⟨_,F,rfl,h⟩ Z ?_);rintro C _ _ ⟨A,F,rfl,h⟩;rcases C with _|C
 ·cases F
 refine X0 5 Z (qi Z F ?_ ?_)<;>intro F
 ·refine X0 6 Z ?_;obtain⟨_,_,F,g,_,_,_,_,k,o,s,d⟩:=s2.ix F;obtain rfl:=qac s;refine zxe k o g Z (zc 0 (d.below h.below) Z (qp qa h Z Z Z fun _ _ h=>zp1 Z (zs 0 h Z fun _ h=>zNS (rD (Y1 3 0 h Z ?_)))));obtain⟨J,u,F⟩:=qd F;refine qbn J (vsB _) (cB 222 Z) (fun _ hb=>qpj ((h.ext hb).old M) u) Z Z Z Z (zd2 Z (qaY (t:=19) F Z ?_ ?_))<;>intro F
  ·refine Y0 26 Z (dN h fun _ h=>qb9 Z Z (X0 4 Z ?_));obtain rfl:=qb F;replace F:=a;exact rb h F Z
  refine Y1 4 0 h Z ?_;refine Y0 1 Z ?_;obtain⟨K,x,F⟩:=qd F;refine qbn K (vsB _) (cB 100 Z) (fun _ hb=>qjp (qB _) x) Z Z Z Z (Y0 4 Z (qaY (t:=25) F Z ?_ ?_))<;>intro F
  ·refine Y0 20 Z (dN h fun _ h=>qb9 Z Z (X0 4 Z ?_));obtain rfl:=qb F;replace F:=a;exact rb h F Z
  refine Y1 4 0 h Z ?_;refine Y0 1 Z ?_;obtain⟨L,y,F⟩:=qd F;refine qbn L (vsB _) (cB 220 Z) (fun _ hb=>qnh (qB _) y) Z Z Z Z (Y0 4 Z (qaY (t:=31) F Z ?_ ?_))<;>intro F
  ·refine Y0 14 Z (dN h fun _ h=>qb9 Z Z (X0 4 Z ?_));obtain rfl:=qb F;replace F:=a;exact rb h F Z
  refine Y0 6 Z (qaY (t:=34) F Z ?_ ?_)<;>intro F
  ·refine Y0 7 Z ?_;obtain⟨_,_,F,i,_,_,_,_,l,p,z,f⟩:=s2.ix F;obtain rfl:=qac z;refine zdxe l p i Z (Y0 3 Z (zdc 0 (f.below h.below) Z (Y1 4 0 h Z ?_)));refine Y0 5 Z (dN h fun _ h=>qi Z F ?_ ?_)<;>intro F
   ·refine X0 4 Z ?_;obtain rfl:=qb F;replace F:=a;exact rb h F Z
   refine X0 6 Z ?_;replace h:=h.pick [] Z;exact rK ⟨_,F,rfl,h⟩ Z
  refine Y0 12 Z (dN h fun _ h=>qbL Z Z (X0 6 Z ?_));replace h:=h.pick [] Z;exact rK ⟨_,F,rfl,h⟩ Z
 refine qr Z ?_;obtain rfl:=qb F;replace F:=a;exact X0 4 Z (rb h F Z)
def qlP (_:Nat)(a:(List qf))(left:Int):Option Int:=
 bif decide ((W64 (left-(a.length:Int)))<0) then V (-1) else
 V (W64 (left-(a.length:Int)))
theorem qpU {a:(List qf)}{left:Int}(b:Ro w a cs1){r:Int}(F:qlP n a left=V r):RetV prog 7 [GoT.v (List qf) cs1,.int .i64 left] w r:=by
 obtain⟨_,_,rfl,_⟩:=b;refine zV 12 func7 Z fun h=>X0 18 Z (qi Z F ?_ ?_)<;>intro F
 ·exact X0 4 Z (ri h F Z)
 exact X0 6 Z (ri h F Z)
def qkI (_:Nat)(a:qc):Option qc:=
 V (⟨a.Am,a.Au⟩:qc)
theorem qoI {a:qc}(b:Ro w a cs1){r:qc}(F:qkI n a=V r):RetV prog 93 [GoT.v qc cs1] w r:=by
 obtain rfl:=qu b;refine zV 11 func93 Z fun h=>zSR (qw h Z Z fun _ _ h=>qp qa h Z Z Z fun _ _ h=>zNSR (qp qa h Z Z Z fun _ _ h=>X1 6 2 h Z (zs 0 h Z fun _ h=>X1 6 2 h Z (zs 0 h Z fun _ h=>X1 4 0 h Z (zs 1 h Z fun _ h=>qcU ?_)))));obtain rfl:=qb F;exact qX qa (ρ:=qc) [GoT.v qc (qdK a)] h ⟨⟨_,_,_,rfl,rfl,h.box 1 Z,rfl⟩,trivial⟩ (PV.done h (qad (qy (S:=fun _=>False) (qB (⟨a.Am,a.Au⟩:qc)))))
def qiA (n:Nat)(a:qf):Option qf:=
 (qkI n (⟨a.Ac.Am,a.Ac.Au⟩:qc)).bind fun b=>
 (qkI n (⟨a.Aq.Am,a.Aq.Au⟩:qc)).bind fun c=>
 V (⟨a.Bm,(⟨b.Am,b.Au⟩:qc),(⟨c.Am,c.Au⟩:qc)⟩:qf)
theorem qqw {a:qf}(d:Ro w a cs1){r:qf}(F:qiA n a=V r):RetV prog 41 [GoT.v qf cs1] w r:=by
 obtain rfl:=qac d;refine zV 16 func41 Z fun h=>zSR (qw h Z Z fun _ _ h=>qp qa h Z Z Z fun _ _ h=>zNSR (qp qa h Z Z Z fun _ _ h=>X1 6 2 h Z (zs 0 h Z fun _ h=>X1 5 2 h Z (zcO h F (qoI (qB _)) Z fun b _ _ _ h F=>?_))));obtain rfl:=qu (h.own 0 Z);refine zp1 Z (zs 1 h Z fun _ h=>X1 5 3 h Z (zcO h F (qoI (qB _)) Z fun c _ _ _ h F=>?_));obtain rfl:=qu (h.own 0 Z);refine zp1 Z (zs 2 h Z fun _ h=>X1 4 2 h Z (zs 3 h Z fun _ h=>qcU ?_));obtain rfl:=qb F;exact qX qa (ρ:=qf) [GoT.v qf [.int .i64 a.Bm,.int .i64 b.Am,.int .i64 b.Au,.int .i64 c.Am,.int .i64 c.Au]] h ⟨⟨_,_,_,rfl,rfl,h.box 3 Z,rfl⟩,trivial⟩ (PV.done h (qad (qy (S:=fun _=>False) (qaP (⟨a.Bm,(⟨b.Am,b.Au⟩:qc),(⟨c.Am,c.Au⟩:qc)⟩:qf)))))
def qfE (a:(List qf)):Nat→(List qf)→Int→Option ((List qf)×Int)
 | 0,_,_=>U
 | n+1,c,b=>
  bif decide (b<(a.length:Int)) then
   (idx a b).bind fun f=>
   (qiA n f).bind fun d=>
   (idx c b).bind fun _=>
   qfE a n (setS c b d) (W64 (b+1))
  else
   V (c,b)
def qfb (n:Nat)(a:(List qf)):Option (List qf):=
 (mkS (a.length:Int) ((⟨0,(⟨0,0⟩:qc),(⟨0,0⟩:qc)⟩:qf):qf)).bind fun b=>
 (qfE a n b 0).bind fun o=>match o with
 | (c,_)=>
  V c
theorem qaX {a:(List qf)}(k:Ro w a cs1){r:(List qf)}(F:qfb n a=V r):RetV prog 13 [GoT.v (List qf) cs1] w r:=by
 obtain⟨K,I,rfl,L⟩:=k;refine zV 23 func13 Z fun h=>X0 8 Z ?_;obtain⟨g,b,F⟩:=qd F;obtain⟨D,H,b⟩:=qR b;refine qas qa qf h Z Z Z Z Z Z Z Z Z D H b Z fun _ S1 B h=>X0 7 Z ?_;obtain⟨J,F,i⟩:=qd F;refine qn (rL (fun m e w'=>∃(z:(List qf)) (y:Int),qfE a m z y=V J∧e=[(0,.slice K a.length I),(3,.slice B g.length g.length),(4,.int .i64 y)]∧SH w w' [Ch.own S1 (z:List qf) [.slice B g.length g.length]]) n ⟨_,_,F,rfl,h⟩ Z ?_);rintro A _ _ ⟨z,y,F,rfl,h⟩;rcases A with _|A
 ·cases F
 refine X0 8 Z (qi Z F ?_ ?_)<;>intro F
 ·refine X0 8 Z ?_;obtain⟨M,_,F,p,_,_,_,_,s,t,u,l⟩:=L.ix F;obtain rfl:=qac u;refine zxe s t p Z (zc 0 (l.below h.below) Z (zcO h F (qqw (qaP M)) Z fun C _ _ _ h F=>?_));obtain rfl:=qac (h.own 0 Z);obtain⟨N,x,F,c,_,_,_,_,d,f,v,o⟩:=(h.sl 1 Z).1.ix F;obtain rfl:=qac v;refine zx d f ⟨c.1,qD c.2.1 (h.sl 1 Z).2⟩ Z (qao qa 1 0 C h Z x d f (qaP N) o Z Z Z (qaP C) Z Z Z fun _ h=>X0 7 Z ?_);replace h:=h.pick [1] Z;exact rK ⟨_,_,F,rfl,h⟩ Z
 refine qr Z ?_;obtain rfl:=qb F;replace F:=i;refine X0 5 Z ?_;obtain rfl:=qb F;exact rO 0 h Z ⟨rfl,trivial⟩
def qhC (_:Nat)(a:qc)(b:qc):Option Bool:=
 bif (a.Am != b.Am) then V false else
 bif (a.Au != b.Au) then V false else
 V true
theorem qlR {a:qc}{b:qc}(c:Ro w a cs1)(d:Ro w b cs2){r:Bool}(F:qhC n a b=V r):RetV prog 106 [GoT.v qc cs1,GoT.v qc cs2] w r:=by
 obtain rfl:=qu c;obtain rfl:=qu d;refine zV 15 func106 Z fun h=>zSR (qw h Z Z fun _ _ h=>qw h Z Z fun _ _ h=>X2 11 1 0 h Z (qi Z F ?_ ?_))<;>intro F
 ·exact X0 4 Z (rb h F Z)
 refine X2 10 1 0 h Z (qi Z F ?_ ?_)<;>intro F
 ·exact X0 4 Z (rb h F Z)
 exact X0 5 Z (rb h F Z)
def qiK (n:Nat)(a:qf)(b:qf):Option Bool:=
 bif (a.Bm != b.Bm) then V false else
 (qhC n (⟨a.Ac.Am,a.Ac.Au⟩:qc) (⟨b.Ac.Am,b.Ac.Au⟩:qc)).bind fun c=>
 bif (!c) then V false else
 (qhC n (⟨a.Aq.Am,a.Aq.Au⟩:qc) (⟨b.Aq.Am,b.Aq.Au⟩:qc)).bind fun d=>
 bif (!d) then V false else
 V true
theorem qq4 {a:qf}{b:qf}(c:Ro w a cs1)(d:Ro w b cs2){r:Bool}(F:qiK n a b=V r):RetV prog 55 [GoT.v qf cs1,GoT.v qf cs2] w r:=by
 obtain rfl:=qac c;obtain rfl:=qac d;refine zV 22 func55 Z fun h=>zSR (qw h Z Z fun _ _ h=>qw h Z Z fun _ _ h=>X2 11 1 0 h Z (qi Z F ?_ ?_))<;>intro F
 ·exact X0 4 Z (rb h F Z)
 refine X2 8 1 0 h Z (zcB h F (qlR (qB _) (qB _)) Z fun _ _ h F=>X0 2 Z (qi Z F ?_ ?_))<;>intro F
 ·exact X0 4 Z (rb h F Z)
 refine X2 8 1 0 h Z (zcB h F (qlR (qB _) (qB _)) Z fun _ _ h F=>X0 2 Z (qi Z F ?_ ?_))<;>intro F
 ·exact X0 4 Z (rb h F Z)
 exact X0 5 Z (rb h F Z)
def qfM (a:(List qf))(b:(List qf)):Nat→Int→Option (Flow Bool Int)
 | 0,_=>U
 | n+1,c=>
  bif decide (c<(a.length:Int)) then
   (idx a c).bind fun f=>
   (idx b c).bind fun g=>
   (qiK n f g).bind fun d=>
   bif (!d) then V (.ret false) else
   qfM a b n (W64 (c+1))
  else
   V (.nxt c)
def qjn (n:Nat)(a:(List qf))(b:(List qf)):Option Bool:=
 bif ((a.length:Int) != (b.length:Int)) then V false else
 (qfM a b n 0).bind fun o=>match o with
 | .ret r=>V r
 | .nxt _=>
  V true
theorem qqn {a:(List qf)}{b:(List qf)}(d:Ro w a cs1)(f:Ro w b cs2){r:Bool}(F:qjn n a b=V r):RetV prog 19 [GoT.v (List qf) cs1,GoT.v (List qf) cs2] w r:=by
 obtain⟨D,A,rfl,J⟩:=d;obtain⟨H,B,rfl,s2⟩:=f;refine zV 27 func19 Z fun h=>X0 13 Z (qi Z F ?_ ?_)<;>intro F
 ·exact X0 4 Z (rb h F Z)
 refine X0 6 Z ?_;obtain⟨C,F,c⟩:=qd F;refine qn (rL (fun m e w'=>∃(y:Int),qfM a b m y=V C∧e=[(0,.slice D a.length A),(1,.slice H b.length B),(5,.int .i64 y)]∧SH w w' []) n ⟨_,F,rfl,h⟩ Z ?_);rintro z _ _ ⟨y,F,rfl,h⟩;rcases z with _|z
 ·cases F
 refine X0 8 Z (qi Z F ?_ ?_)<;>intro F
 ·refine X0 4 Z (rD (zd2 Z ?_));obtain⟨K,_,F,k,_,_,_,_,o,s,u,g⟩:=J.ix F;obtain rfl:=qac u;refine zdxe o s k Z (zdc 0 (g.below h.below) Z (zd2 Z ?_));obtain⟨L,_,F,l,_,_,_,_,p,t,v,i⟩:=s2.ix F;obtain rfl:=qac v;refine zdxe p t l Z (zdc 0 (i.below h.below) Z ?_);obtain⟨I,x,F⟩:=qd F;refine qbn I (vsB _) (cB 55 Z) (fun _ hb=>qq4 (qaP K) (qaP L) x) Z Z Z Z (zd1 Z (dN h fun _ h=>qi Z F ?_ ?_))<;>intro F
  ·refine X0 4 Z ?_;obtain rfl:=qb F;replace F:=c;exact rb h F Z
  exact X0 7 Z (rK ⟨_,F,rfl,h⟩ Z)
 refine qr Z ?_;obtain rfl:=qb F;replace F:=c;exact X0 4 Z (rb h F Z)
def qm5 (_:Nat)(list:(List Bool)):Option Int:=
 V (list.length:Int)
theorem qo5 {list:(List Bool)}(a:Ro w list cs1){r:Int}(F:qm5 n list=V r):RetV prog 218 [GoT.v (List Bool) cs1] w r:=by
 obtain⟨_,_,rfl,_⟩:=a;exact zV 5 func218 Z fun h=>X0 10 Z (ri h F Z)
def qhn (_:Nat)(list:(List qc)):Option Int:=
 V (list.length:Int)
theorem qiN {list:(List qc)}(a:Ro w list cs1){r:Int}(F:qhn n list=V r):RetV prog 219 [GoT.v (List qc) cs1] w r:=by
 obtain⟨_,_,rfl,_⟩:=a;exact zV 5 func219 Z fun h=>X0 10 Z (ri h F Z)
def qfj (a:qq):Nat→Int→Option (Flow Bool Int)
 | 0,_=>U
 | n+1,b=>
  bif decide (b<(a.Aj.length:Int)) then
   (idx a.Aj b).bind fun h=>
   (idx a.Ac b).bind fun i=>
   (qh5 n i).bind fun f=>
   bif (!f) then V (.ret false) else
   (idx a.Aq b).bind fun k=>
   (qiL n k).bind fun g=>
   bif (!g) then V (.ret false) else
   bif (!h) then
    (idx a.Ac b).bind fun c=>
    bif (!((c.Am==0)&&(c.Au==0))) then V (.ret false) else
    (idx a.Aq b).bind fun d=>
    bif (!((d.Am==0)&&(d.Au==0))) then V (.ret false) else
    qfj a n (W64 (b+1))
   else
    qfj a n (W64 (b+1))
  else
   V (.nxt b)
def qlY (n:Nat)(b:(Option Tview))(a:qq):Option Bool:=
 (qdi n b).bind fun c=>
 (
  (qm5 n a.Aj).bind fun d=>
  bif (d != c) then V true else
  (qhn n a.Ac).bind fun f=>
  bif (f != c) then V true else
  (qhn n a.Aq).bind fun g=>
  V (g != c)).bind fun b1=>
 bif b1 then V false else
 (qfj a n 0).bind fun o=>match o with
 | .ret r=>V r
 | .nxt _=>
  V true
theorem qn7 {f:(Option Tview)}{a:qq}(k:Ro w f cs1)(l:Ro w a cs2){r:Bool}(F:qlY n f a=V r):RetV prog 156 [GoT.v (Option Tview) cs1,GoT.v qq cs2] w r:=by
 obtain⟨_,rfl,s1⟩:=qbV k;obtain⟨X,W,p3,k2,p4,k3,rfl,s2,Y,s4⟩:=qM l;refine zV 76 func156 Z fun h=>zSR (qw h Z Z fun _ c h=>X0 5 Z (zcI h F (qgQ (h.old s1)) Z fun _ _ h F=>X0 4 Z ?_));obtain⟨i,g,_,F,d⟩:=bindE F;refine qaT (fun e w'=>∃(b1:Bool),i b1=V r∧e=[(3,.pointer (V ⟨c,0,U⟩)),(28,.bool b1)]∧SH w w' [Ch.box c (qI a X p3 p4 W k2 k3) 45]) ?_ ?_
 ·refine X1 3 0 h Z (zcI h F (qo5 ⟨_,_,rfl,(h.oldS s2)⟩) Z fun _ _ h F=>zp3 Z (qj (t:=15) F Z ?_ ?_))<;>intro F
  ·refine X0 14 Z ?_;obtain rfl:=qb F;exact rG ⟨_,d,rfl,h⟩ Z
  refine X1 5 0 h Z (zcI h F (qiN ⟨_,_,rfl,(h.oldS Y)⟩) Z fun _ _ h F=>X0 6 Z (qj (t:=22) F Z ?_ ?_))<;>intro F
  ·refine X0 7 Z ?_;obtain rfl:=qb F;exact rG ⟨_,d,rfl,h⟩ Z
  refine X1 5 0 h Z (zcI h F (qiN ⟨_,_,rfl,(h.oldS s4)⟩) Z fun _ _ h F=>X0 6 Z ?_);obtain rfl:=qb F;exact rG ⟨_,d,rfl,h⟩ Z
 rintro _ _ ⟨b1,F,rfl,h⟩;subst g;refine qi Z F ?_ ?_<;>intro F
 ·exact X0 4 Z (rb h F Z)
 refine X1 9 0 h Z ?_;obtain⟨o1,F,b⟩:=qd F;refine qn (rL (fun m e w'=>∃(T:Int),qfj a m T=V o1∧e=[(3,.pointer (V ⟨c,0,U⟩)),(30,.slice X a.Aj.length W),(31,.int .i64 (a.Aj.length:Int)),(32,.int .i64 T)]∧SH w w' [Ch.box c (qI a X p3 p4 W k2 k3) 45]) n ⟨_,F,rfl,h⟩ Z ?_);rintro m1 _ _ ⟨T,F,rfl,h⟩;rcases m1 with _|m1
 ·cases F
 refine X0 5 Z (qi Z F ?_ ?_)<;>intro F
 ·refine X0 6 Z ?_;obtain⟨_,_,F,x,_,_,_,_,C,K,rfl,o⟩:=s2.ix F;refine zxe C K x Z (zc 0 (o.below h.below) Z (X1 8 0 h Z ?_));obtain⟨y2,_,F,y,_,_,_,_,D,L,P,p⟩:=Y.ix F;obtain rfl:=qu P;refine zxe D L y Z (zc 0 (p.below h.below) Z (zcB h F (qjp (qB y2)) Z fun _ _ h F=>zp2 Z (qj (t:=44) F Z ?_ ?_)))<;>intro F
  ·refine X0 31 Z (qb9 Z Z (X0 4 Z ?_));obtain rfl:=qb F;replace F:=b;exact rb h F Z
  refine X1 7 0 h Z ?_;obtain⟨y3,_,F,z,_,_,_,_,H,M,Q,s⟩:=s4.ix F;obtain rfl:=qu Q;refine zxe H M z Z (X0 1 Z (zc 0 (s.below h.below) Z (X0 1 Z (zcB h F (qnh (qB y3)) Z fun _ _ h F=>X0 4 Z (qj (t:=53) F Z ?_ ?_)))))<;>intro F
  ·refine X0 22 Z (qb9 Z Z (X0 4 Z ?_));obtain rfl:=qb F;replace F:=b;exact rb h F Z
  refine X0 6 Z (qj (t:=56) F Z ?_ ?_)<;>intro F
  ·refine X1 7 0 h Z ?_;obtain⟨_,_,F,A,_,_,_,_,I,N,R,u⟩:=Y.ix F;obtain rfl:=qu R;refine zxe I N A Z (X0 1 Z (zc 0 (u.below h.below) Z (X0 1 Z (r_v (qaf qa [] [] Z Z Z Z Z Z Z Z) Z (X0 1 Z (r_v (qyC (by kernel_rfl) Z Z) Z (X0 2 Z (qj (t:=64) F Z ?_ ?_))))))))<;>intro F
   ·refine X0 13 Z (qb9 Z Z (X0 4 Z ?_));obtain rfl:=qb F;replace F:=b;exact rb h F Z
   refine X1 7 0 h Z ?_;obtain⟨_,_,F,B,_,_,_,_,J,O,S,v⟩:=s4.ix F;obtain rfl:=qu S;refine zxe J O B Z (X0 1 Z (zc 0 (v.below h.below) Z (X0 1 Z (r_v (qaf qa [] [] Z Z Z Z Z Z Z Z) Z (X0 1 Z (r_v (qyC (by kernel_rfl) Z Z) Z (X0 6 Z (qi Z F ?_ ?_))))))))<;>intro F
   ·refine X0 4 Z ?_;obtain rfl:=qb F;replace F:=b;exact rb h F Z
   exact X0 6 Z (rK ⟨_,F,rfl,h⟩ Z)
  exact X0 20 Z (qbL Z Z (X0 6 Z (rK ⟨_,F,rfl,h⟩ Z)))
 refine qr Z ?_;obtain rfl:=qb F;replace F:=b;exact X0 4 Z (rb h F Z)
def qhm (_:Nat)(list:(List qv)):Option Int:=
 V (list.length:Int)
theorem qmO {list:(List qv)}(a:Ro w list cs1){r:Int}(F:qhm n list=V r):RetV prog 221 [GoT.v (List qv) cs1] w r:=by
 obtain⟨_,_,rfl,_⟩:=a;exact zV 5 func221 Z fun h=>X0 10 Z (ri h F Z)
def qe9 (n:Nat)(v:(Option Tview))(list:(List Int)):Option Bool:=
 (v).bind fun d=>
 (qhm n d.links).bind fun a=>
 (qbY n list 0 (W64 (a-1))).bind fun b=>
 bif b then
  (qd1 n list).bind fun c=>
  V c
 else
  V false
theorem qn4 {v:(Option Tview)}{list:(List Int)}(a:Ro w v cs1)(b:Ro w list cs2){r:Bool}(F:qe9 n v list=V r):RetV prog 157 [GoT.v (Option Tview) cs1,GoT.v (List Int) cs2] w r:=by
 obtain⟨_,rfl,i⟩:=qbV a;obtain⟨_,_,rfl,s2⟩:=b;refine zV 17 func157 Z fun h=>X0 8 Z ?_;obtain⟨_,f,F⟩:=qd F;obtain⟨_,g,_,rfl,-,d,c⟩:=PtR.get i f;obtain⟨_,_,_,_,_,_,_,_,_,_,_,_,_,_,_,_,_,_,_,_,rfl,_,_,_,_,_,_,k,_,_,_⟩:=qcB d;refine zp2 Z (zc 6 (c.below h.below) Z (zcI h F (qmO ⟨_,_,rfl,(h.oldS k)⟩) Z fun _ _ h F=>zp1 Z (zcB h F (qcl ⟨_,_,rfl,(h.oldS s2)⟩) Z fun _ _ h F=>zp1 Z (qj (t:=13) F Z ?_ ?_))))<;>intro F
 ·exact X0 3 Z (zcB h F (qhP ⟨_,_,rfl,(h.oldS s2)⟩) Z fun _ _ h F=>X0 3 Z (rb h F Z))
 exact X0 5 Z (rb h F Z)
def qb5 (broken:(List Int)):Nat→(List Bool)→Int→Option ((List Bool)×Int)
 | 0,_,_=>U
 | n+1,b,a=>
  bif decide (a<(broken.length:Int)) then
   (idx broken a).bind fun c=>
   (idx b c).bind fun _=>
   qb5 broken n (setS b c false) (W64 (a+1))
  else
   V (b,a)
def qb0 (c:(List Bool)):Nat→(List Bool)→Int→Option ((List Bool)×Int)
 | 0,_,_=>U
 | n+1,b,a=>
  bif decide (a<(c.length:Int)) then
   (idx b a).bind fun _=>
   qb0 c n (setS b a true) (W64 (a+1))
  else
   V (b,a)
def qhy (n:Nat)(v:(Option Tview))(broken:(List Int)):Option (Option Tgraph):=
 (v).bind fun d=>
 (mkS (d.links.length:Int) (false:Bool)).bind fun a=>
 (qb0 a n a 0).bind fun o=>match o with
 | (b,_)=>
  (qb5 broken n b 0).bind fun o=>match o with
  | (c,_)=>
   V (V (⟨v,c⟩:Tgraph))
theorem qn6 {n:Nat}{w:World}{v:(Option Tview)}{broken:(List Int)}{cs1:List Value}(C:Ro w v cs1){cs2:List Value}(D:Ro w broken cs2){r:(Option Tgraph)}(F:qhy n v broken=V r):RetZ prog 159 [GoT.v (Option Tview) cs1,GoT.v (List Int) cs2] w (fun us L=>∃(d:Nat) (X:Nat→Prop) (x:Option Addr) (f:Nat) (u:Nat) (y:List Bool),r=(V (⟨v,y⟩:Tgraph))∧us=[GoT.v (Option Tgraph) [.pointer (V ⟨d,0,U⟩)]]∧L=[Ch.box d (cs1++[.slice x f u]) 110,Ch.own X (y:List Bool) [.slice x f u]]):=by
 obtain⟨_,rfl,s1⟩:=qbV C;obtain⟨p2,k1,rfl,s2⟩:=D;refine qmI func159 Z (m:=47) Z Z (fun h=>?_);refine X0 8 Z ?_;obtain⟨_,Q,F⟩:=qd F;obtain⟨b1,t,_,rfl,-,P,H⟩:=PtR.get s1 Q;obtain⟨_,_,_,_,_,_,_,_,_,_,_,_,_,_,_,_,_,_,_,_,rfl,_,_,_,_,_,_,_,_,_,_⟩:=qcB P;refine zp2 Z (zc 6 (H.below h.below) Z (zp1 Z ?_));obtain⟨b,g,F⟩:=qd F;obtain⟨g1,g2,g⟩:=qR g;refine qas qa Bool h Z Z Z Z Z Z Z Z Z g1 g2 g Z fun _ S1 c h=>r_v (qaf qa [0,1] [.tmp 9,.tmp 15] Z Z Z Z Z Z Z Z) Z (qw h Z Z fun _ a h=>X1 12 0 h Z ?_);obtain⟨o1,F,A⟩:=qd F;refine qn (rL (fun m e w'=>∃(Y:(List Bool)) (T:Int),qb0 b m Y T=V o1∧e=[(1,.slice p2 broken.length k1),(5,.pointer (V ⟨a,0,U⟩)),(22,.int .i64 (b.length:Int)),(23,.int .i64 T)]∧SH w w' [Ch.box a [.pointer (V ⟨b1,t,U⟩),.slice c b.length b.length] 110,Ch.own S1 (Y:List Bool) [.slice c b.length b.length]]) n ⟨_,_,F,rfl,h⟩ Z ?_);rintro m1 _ _ ⟨Y,T,F,rfl,h⟩;rcases m1 with _|m1
 ·cases F
 refine X0 5 Z (qi Z F ?_ ?_)<;>intro F
 ·refine X1 14 0 h Z ?_;obtain⟨_,R,F,i,_,_,_,_,l,p,rfl,I⟩:=(h.sl 1 Z).1.ix F;exact zx l p ⟨i.1,qD i.2.1 (h.sl 1 Z).2⟩ Z (qao qa 1 0 true h Z R l p Z I Z Z Z Z Z Z Z fun _ h=>X0 6 Z (rK ⟨_,_,F,rfl,h⟩ Z))
 refine qr Z ?_;obtain rfl:=qb F;replace F:=A;refine X0 7 Z ?_;obtain⟨o2,F,B⟩:=qd F;refine qn (rL (fun m e w'=>∃(z:(List Bool)) (W:Int),qb5 broken m z W=V o2∧e=[(5,.pointer (V ⟨a,0,U⟩)),(33,.slice p2 broken.length k1),(34,.int .i64 (broken.length:Int)),(35,.int .i64 W)]∧SH w w' [Ch.box a [.pointer (V ⟨b1,t,U⟩),.slice c b.length b.length] 110,Ch.own S1 (z:List Bool) [.slice c b.length b.length]]) n ⟨_,_,F,rfl,h⟩ Z ?_);rintro m2 _ _ ⟨z,W,F,rfl,h⟩;rcases m2 with _|m2
 ·cases F
 refine X0 5 Z (qi Z F ?_ ?_)<;>intro F
 ·refine zKSBSR ?_;obtain⟨_,_,F,M,_,_,_,_,N,O,rfl,J⟩:=s2.ix F;refine zxe N O M Z (zc 0 (J.below h.below) Z (X1 8 0 h Z ?_));obtain⟨_,S,F,k,_,_,_,_,o,s,rfl,K⟩:=(h.sl 1 Z).1.ix F;exact zx o s ⟨k.1,qD k.2.1 (h.sl 1 Z).2⟩ Z (qao qa 1 0 false h Z S o s Z K Z Z Z Z Z Z Z fun _ h=>X0 6 Z (rK ⟨_,_,F,rfl,h⟩ Z))
 refine qr Z ?_;obtain rfl:=qb F;replace F:=B;refine X0 5 Z ?_;obtain rfl:=qb F;exact qmT qa [GoT.v (Option Tgraph) [.pointer (V ⟨a,0,U⟩)]] h ⟨rfl,trivial⟩ ⟨a,S1,c,b.length,b.length,z,rfl,rfl,rfl⟩
def qdg (s:(List Int))(v:Int):Nat→Int→Option (Flow Int Int)
 | 0,_=>U
 | n+1,a=>
  bif decide (a<(s.length:Int)) then
   (idx s a).bind fun b=>
   bif (v==b) then V (.ret a) else
   qdg s v n (W64 (a+1))
  else
   V (.nxt a)
def qid (n:Nat)(s:(List Int))(v:Int):Option Int:=
 (qdg s v n 0).bind fun o=>match o with
 | .ret r=>V r
 | .nxt _=>
  V (-1)
theorem qo4 {s:(List Int)}{v:Int}(b:Ro w s cs1){r:Int}(F:qid n s v=V r):RetV prog 225 [GoT.v (List Int) cs1,.int .i64 v] w r:=by
 obtain⟨p,l,rfl,t⟩:=b;refine zV 19 func225 Z fun h=>X0 11 Z ?_;obtain⟨o,F,a⟩:=qd F;refine qn (rL (fun m e w'=>∃(i:Int),qdg s v m i=V o∧e=[(0,.slice p s.length l),(1,.int .i64 v),(7,.int .i64 (s.length:Int)),(8,.int .i64 i)]∧SH w w' []) n ⟨_,F,rfl,h⟩ Z ?_);rintro k _ _ ⟨i,F,rfl,h⟩;rcases k with _|k
 ·cases F
 refine X0 5 Z (qi Z F ?_ ?_)<;>intro F
 ·refine X0 13 Z ?_;obtain⟨_,_,F,d,_,_,_,_,f,g,rfl,c⟩:=t.ix F;refine zxe f g d Z (zc 0 (c.below h.below) Z (X0 2 Z (qi Z F ?_ ?_)))<;>intro F
  ·refine X0 5 Z ?_;obtain rfl:=qb F;replace F:=a;exact ri h F Z
  exact X0 6 Z (rK ⟨_,F,rfl,h⟩ Z)
 refine qr Z ?_;obtain rfl:=qb F;replace F:=a;exact X0 4 Z (ri h F Z)
def qjJ (_:Nat)(l:qv)(a:Int):Option Bool:=
 V (l.Bf==a)
theorem qon {l:qv}{g:Int}(a:Ro w l cs1){f:Option Addr}(b:Ro w (V g) [.pointer f]){r:Bool}(F:qjJ n l g=V r):RetV prog 275 [GoT.v qv cs1,.pointer f] w r:=by
 obtain rfl:=qbd a;obtain⟨_,i,_,rfl,-,d,c⟩:=PtR.get b Z;obtain rfl:=d;exact zV 8 func275 Z fun h=>zSR (qw h Z Z fun _ _ h=>X1 6 0 h Z (zc 0 (c.below h.below) Z (X0 3 Z (rb h F Z))))
def qN (is_0:Int)(d:Tgraph)(b:Tview):Nat→(List Int)→Int→Option ((List Int)×Int)
 | 0,_,_=>U
 | n+1,c,a=>
  bif decide (a<(b.links.length:Int)) then
   (idx b.links a).bind fun h=>
   (idx d.live a).bind fun i=>
   bif i then
    (qjJ n h is_0).bind fun f=>
    bif f then
     (appS c ([a]:List Int)).bind fun g=>
     qN is_0 d b n g (W64 (a+1))
    else
     qN is_0 d b n c (W64 (a+1))
   else
    qN is_0 d b n c (W64 (a+1))
  else
   V (c,a)
def qct (n:Nat)(g:(Option Tgraph))(is_0:Int):Option (List Int):=
 (g).bind fun a=>
 (a.view).bind fun c=>
 (qN is_0 a c n ([]:List Int) 0).bind fun o=>match o with
 | (b,_)=>
  V b
theorem qhX {g:(Option Tgraph)}{is_0:Int}(o:Ro w g cs1){S:Option Addr}(f:Ro w (V is_0) [.pointer S]){r:(List Int)}(F:qct n g is_0=V r):RetV prog 223 [GoT.v (Option Tgraph) cs1,.func (.func 275) #[] #[.pointer S]] w r:=by
 obtain⟨_,rfl,s1⟩:=qbV o;obtain⟨b1,L,_,rfl,-,C,_⟩:=PtR.get f Z;obtain rfl:=C;refine zV 39 func223 Z fun h=>X0 12 Z ?_;obtain⟨y1,J,F⟩:=qd F;obtain⟨b2,M,_,rfl,-,D,i⟩:=PtR.get s1 J;obtain⟨_,_,_,rfl,s2,s3⟩:=qjf D;refine zp2 Z (zc 0 (i.below h.below) Z ?_);obtain⟨Q,K,F⟩:=qd F;obtain⟨_,Y,_,rfl,-,H,p⟩:=PtR.get s2 K;obtain⟨_,_,_,_,_,_,_,_,_,_,_,_,N,W,_,_,_,_,_,_,rfl,_,_,_,_,_,_,O,_,_,_⟩:=qcB H;refine zp2 Z (zc 6 (p.below h.below) Z (X0 3 Z ?_));replace h:=h.nil (α:=Int);obtain⟨X,F,l⟩:=qd F;refine qn (rL (fun m e w'=>∃(S1:Nat→Prop) (d:Option Addr) (c:Nat) (b:Nat) (P:(List Int)) (k:Int),qN is_0 y1 Q m P k=V X∧e=[(0,.pointer (V ⟨b2,M,U⟩)),(1,.func (.func 275) #[] #[.pointer (V ⟨b1,L,U⟩)]),(5,.slice d c b),(14,.slice N Q.links.length W),(15,.int .i64 (Q.links.length:Int)),(16,.int .i64 k)]∧SH w w' [Ch.own S1 (P:List Int) [.slice d c b]]) n ⟨_,_,_,_,_,_,F,rfl,h⟩ Z ?_);rintro R _ _ ⟨S1,d,c,b,P,k,F,rfl,h⟩;obtain rfl:=(h.sl 0 Z).2;rcases R with _|R
 ·cases F
 refine X0 5 Z (qi Z F ?_ ?_)<;>intro F
 ·refine X0 6 Z ?_;obtain⟨y3,_,F,v,_,_,_,_,y,A,I,s⟩:=O.ix F;obtain rfl:=qbd I;refine zxe y A v Z (zc 0 (s.below h.below) Z (qp qa h Z Z Z fun _ _ h=>zp1 Z (zs 0 h Z fun _ h=>X0 6 Z (zc 1 (i.below h.below) Z (zp1 Z ?_)))));obtain⟨_,_,F,x,_,_,_,_,z,B,rfl,u⟩:=s3.ix F;refine zxe z B x Z (zc 0 (u.below h.below) Z (zp1 Z (qj (t:=28) F Z ?_ ?_)))<;>intro F
  ·refine X1 5 0 h Z (zcB h F (qon (qcm y3) (h.old f)) Z fun _ _ h F=>X0 2 Z (qi Z F ?_ ?_))<;>intro F
   ·refine X0 3 Z (qG qa [.tmp 34] _ ([k]:List Int) h Z Z Z Z Z Z Z Z Z ⟨rfl,trivial⟩ Z fun _ _ _ h=>?_);obtain⟨_,a,F⟩:=qd F;obtain⟨T,a⟩:=qaD a;refine qcs qa 2 h Z (h.sl 0 Z).1 (h.sl 0 Z).2 Z Z Z Z Z Z Z Z Z T a Z fun _ _ _ _ h=>X0 7 Z ?_;replace h:=h.pick [2] Z;exact rK ⟨_,_,_,_,_,_,F,rfl,h⟩ Z
   refine X0 6 Z ?_;replace h:=h.pick [1] Z;exact rK ⟨_,_,_,_,_,_,F,rfl,h⟩ Z
  refine X0 5 Z (qbL Z Z (X0 6 Z ?_));replace h:=h.pick [1] Z;exact rK ⟨_,_,_,_,_,_,F,rfl,h⟩ Z
 refine qr Z ?_;obtain rfl:=qb F;replace F:=l;refine X0 5 Z ?_;obtain rfl:=qb F;exact rO 0 h Z ⟨rfl,trivial⟩
def qiT (n:Nat)(g:(Option Tgraph))(node:Int):Option (List Int):=
 (qct n g node).bind fun a=>
 V a
theorem qpA {g:(Option Tgraph)}{node:Int}(a:Ro w g cs1){r:(List Int)}(F:qiT n g node=V r):RetV prog 226 [GoT.v (Option Tgraph) cs1,.int .i64 node] w r:=by
 obtain⟨_,rfl,b⟩:=qbV a;refine zV 8 func226 Z fun h=>zSR (qw h Z Z fun _ _ h=>X0 6 Z (zcL h F (qhX (h.old b) (qcW (x:=node) 0 h Z Z)) Z fun _ _ _ _ _ h F=>X0 2 Z ?_));obtain rfl:=qb F;exact rO 0 h Z ⟨rfl,trivial⟩
def qiX (_:Nat)(_:qv):Option Bool:=
 V true
theorem qnZ {a:qv}(b:Ro w a cs1){r:Bool}(F:qiX n a=V r):RetV prog 224 [GoT.v qv cs1] w r:=by
 obtain rfl:=qbd b;exact zV 3 func224 Z fun h=>zSR (qw h Z Z fun _ _ h=>X0 6 Z (rb h F Z))
def qK (d:Tgraph)(b:Tview):Nat→(List Int)→Int→Option ((List Int)×Int)
 | 0,_,_=>U
 | n+1,c,a=>
  bif decide (a<(b.links.length:Int)) then
   (idx b.links a).bind fun h=>
   (idx d.live a).bind fun i=>
   bif i then
    (qiX n h).bind fun f=>
    bif f then
     (appS c ([a]:List Int)).bind fun g=>
     qK d b n g (W64 (a+1))
    else
     qK d b n c (W64 (a+1))
   else
    qK d b n c (W64 (a+1))
  else
   V (c,a)
def qbp (n:Nat)(g:(Option Tgraph)):Option (List Int):=
 (g).bind fun a=>
 (a.view).bind fun c=>
 (qK a c n ([]:List Int) 0).bind fun o=>match o with
 | (b,_)=>
  V b
theorem qhA {g:(Option Tgraph)}(l:Ro w g cs1){r:(List Int)}(F:qbp n g=V r):RetV prog 223 [GoT.v (Option Tgraph) cs1,.func (.func 224) #[] #[]] w r:=by
 obtain⟨_,rfl,T⟩:=qbV l;refine zV 39 func223 Z fun h=>X0 12 Z ?_;obtain⟨X,H,F⟩:=qd F;obtain⟨b1,J,_,rfl,-,B,f⟩:=PtR.get T H;obtain⟨_,_,_,rfl,s2,W⟩:=qjf B;refine zp2 Z (zc 0 (f.below h.below) Z ?_);obtain⟨N,I,F⟩:=qd F;obtain⟨_,S,_,rfl,-,C,o⟩:=PtR.get s2 I;obtain⟨_,_,_,_,_,_,_,_,_,_,_,_,K,Q,_,_,_,_,_,_,rfl,_,_,_,_,_,_,L,_,_,_⟩:=qcB C;refine zp2 Z (zc 6 (o.below h.below) Z (X0 3 Z ?_));replace h:=h.nil (α:=Int);obtain⟨R,F,k⟩:=qd F;refine qn (rL (fun m e w'=>∃(S1:Nat→Prop) (d:Option Addr) (c:Nat) (b:Nat) (M:(List Int)) (i:Int),qK X N m M i=V R∧e=[(0,.pointer (V ⟨b1,J,U⟩)),(1,.func (.func 224) #[] #[]),(5,.slice d c b),(14,.slice K N.links.length Q),(15,.int .i64 (N.links.length:Int)),(16,.int .i64 i)]∧SH w w' [Ch.own S1 (M:List Int) [.slice d c b]]) n ⟨_,_,_,_,_,_,F,rfl,h⟩ Z ?_);rintro O _ _ ⟨S1,d,c,b,M,i,F,rfl,h⟩;obtain rfl:=(h.sl 0 Z).2;rcases O with _|O
 ·cases F
 refine X0 5 Z (qi Z F ?_ ?_)<;>intro F
 ·refine X0 6 Z ?_;obtain⟨Y,_,F,u,_,_,_,_,x,z,D,p⟩:=L.ix F;obtain rfl:=qbd D;refine zxe x z u Z (zc 0 (p.below h.below) Z (qp qa h Z Z Z fun _ _ h=>zp1 Z (zs 0 h Z fun _ h=>X0 6 Z (zc 1 (f.below h.below) Z (zp1 Z ?_)))));obtain⟨_,_,F,v,_,_,_,_,y,A,rfl,s⟩:=W.ix F;refine zxe y A v Z (zc 0 (s.below h.below) Z (zp1 Z (qj (t:=28) F Z ?_ ?_)))<;>intro F
  ·refine X1 5 0 h Z (zcB h F (qnZ (qcm Y)) Z fun _ _ h F=>X0 2 Z (qi Z F ?_ ?_))<;>intro F
   ·refine X0 3 Z (qG qa [.tmp 34] _ ([i]:List Int) h Z Z Z Z Z Z Z Z Z ⟨rfl,trivial⟩ Z fun _ _ _ h=>?_);obtain⟨_,a,F⟩:=qd F;obtain⟨P,a⟩:=qaD a;refine qcs qa 2 h Z (h.sl 0 Z).1 (h.sl 0 Z).2 Z Z Z Z Z Z Z Z Z P a Z fun _ _ _ _ h=>X0 7 Z ?_;replace h:=h.pick [2] Z;exact rK ⟨_,_,_,_,_,_,F,rfl,h⟩ Z
   refine X0 6 Z ?_;replace h:=h.pick [1] Z;exact rK ⟨_,_,_,_,_,_,F,rfl,h⟩ Z
  refine X0 5 Z (qbL Z Z (X0 6 Z ?_));replace h:=h.pick [1] Z;exact rK ⟨_,_,_,_,_,_,F,rfl,h⟩ Z
 refine qr Z ?_;obtain rfl:=qb F;replace F:=k;refine X0 5 Z ?_;obtain rfl:=qb F;exact rO 0 h Z ⟨rfl,trivial⟩
def qcg (g:Tgraph)(d:(List Int)):Nat→(List Int)→Int→Option ((List Int)×Int)
 | 0,_,_=>U
 | n+1,c,b=>
  bif decide (b<(d.length:Int)) then
   (idx d b).bind fun h=>
   (g.view).bind fun i=>
   (idx i.links h).bind fun a=>
   (idx c a.To).bind fun f=>
   (idx c a.To).bind fun _=>
   qcg g d n (setS c a.To (W64 (f-1))) (W64 (b+1))
  else
   V (c,b)
def qcd (a:(Option Tgraph))(h:Tgraph)(f:(List Int)):Nat→(List Int)→(List Int)→Int→Option (Flow ((List Int)×Bool) ((List Int)×(List Int)×Int))
 | 0,_,_,_=>U
 | n+1,g,c,d=>
  bif decide (d<(f.length:Int)) then
   (qid n c 0).bind fun b=>
   bif decide (b<0) then V (.ret ([],false)) else
   (idx c b).bind fun _=>
   (appS g ([b]:List Int)).bind fun k=>
   (qiT n a b).bind fun i=>
   (qcg h i n (setS c b (-1)) 0).bind fun o=>match o with
   | (l,_)=>
    qcd a h f n k l (W64 (d+1))
  else
   V (.nxt (g,c,d))
def qce (f:Tgraph)(c:(List Int)):Nat→(List Int)→Int→Option ((List Int)×Int)
 | 0,_,_=>U
 | n+1,b,a=>
  bif decide (a<(c.length:Int)) then
   (idx c a).bind fun g=>
   (f.view).bind fun h=>
   (idx h.links g).bind fun d=>
   (idx b d.To).bind fun i=>
   (idx b d.To).bind fun _=>
   qce f c n (setS b d.To (W64 (i+1))) (W64 (a+1))
  else
   V (b,a)
def qin (n:Nat)(a:(Option Tgraph)):Option ((List Int)×Bool):=
 (a).bind fun b=>
 (qdi n b.view).bind fun d=>
 (mkS d (0:Int)).bind fun c=>
 (qbp n a).bind fun f=>
 (qce b f n c 0).bind fun o=>match o with
 | (g,_)=>
  (qcd a b c n ([]:List Int) g 0).bind fun o=>match o with
  | .ret r=>V r
  | .nxt (h,_,_)=>
   V (h,true)
theorem qpc {d:(Option Tgraph)}(ha1:Ro w d cs1){r:((List Int)×Bool)}(F:qin n d=V r):RetV prog 160 [GoT.v (Option Tgraph) cs1] w r:=by
 obtain⟨_,rfl,s1⟩:=qbV ha1;refine zV 83 func160 Z fun h=>X0 8 Z ?_;obtain⟨y1,hy1,F⟩:=qd F;obtain⟨b1,l,_,rfl,-,hr1,f⟩:=PtR.get s1 hy1;obtain⟨_,_,_,rfl,s2,_⟩:=qjf hr1;refine zp2 Z (zc 0 (f.below h.below) Z (zcI h F (qgQ (h.old s2)) Z fun _ _ h F=>?_));obtain⟨a,g,F⟩:=qd F;obtain⟨g1,g2,g⟩:=qR g;refine qas qa Int h Z Z Z Z Z Z Z Z Z g1 g2 g Z fun _ S1 o h=>X0 6 Z (zcL h F (qhA (h.old s1)) Z fun r2 _ S2 p5 k2 h F=>X0 3 Z ?_);obtain⟨o1,F,hK1⟩:=qd F;refine qn (rL (fun m e w'=>∃(x2:(List Int)) (i1:Int),qce y1 r2 m x2 i1=V o1∧e=[(0,.pointer (V ⟨b1,l,U⟩)),(4,.slice o a.length a.length),(18,.slice p5 r2.length k2),(19,.int .i64 (r2.length:Int)),(20,.int .i64 i1)]∧SH w w' [Ch.own S2 (r2:List Int) [.slice p5 r2.length k2],Ch.own S1 (x2:List Int) [.slice o a.length a.length]]) n ⟨_,_,F,rfl,h⟩ Z ?_);rintro m1 _ _ ⟨x2,i1,F,rfl,h⟩;rcases m1 with _|m1
 ·cases F
 refine X0 5 Z (qi Z F ?_ ?_)<;>intro F
 ·refine zKSBSR ?_;obtain⟨_,_,F,z,_,_,_,_,hp1,hq1,rfl,hc3⟩:=(h.sl 0 Z).1.ix F;refine zx hp1 hq1 ⟨z.1,qD z.2.1 (h.sl 0 Z).2⟩ Z (zc 0 hc3 Z (X0 7 Z (zc 0 (f.below h.below) Z ?_)));obtain⟨_,hy3,F⟩:=qd F;obtain⟨_,o_3,_,rfl,-,hr5,hc4⟩:=PtR.get s2 hy3;obtain⟨_,_,_,_,_,_,_,_,_,_,_,_,_,_,_,_,_,_,_,_,rfl,_,_,_,_,_,_,s10,_,_,_⟩:=qcB hr5;refine zp2 Z (zc 6 (hc4.below h.below) Z (zp1 Z ?_));obtain⟨_,_,F,he2,_,_,_,_,hp2,hq2,hr6,hc5⟩:=s10.ix F;obtain rfl:=qbd hr6;refine zxe hp2 hq2 he2 Z (zp1 Z (zc 1 (hc5.below h.below) Z ?_));obtain⟨y5,_,F,A,_,_,_,_,hp3,hq3,rfl,hc6⟩:=(h.sl 1 Z).1.ix F;refine zx hp3 hq3 ⟨A.1,qD A.2.1 (h.sl 1 Z).2⟩ Z (zc 0 hc6 Z (zp1 Z ?_));obtain⟨_,hy6,F,B,_,_,_,_,J,M,rfl,hc7⟩:=(h.sl 1 Z).1.ix F;exact zx J M ⟨B.1,qD B.2.1 (h.sl 1 Z).2⟩ Z (qao qa 1 0 (W64 (y5+1)) h Z hy6 J M Z hc7 Z Z Z Z Z Z Z fun _ h=>X0 6 Z (rK ⟨_,_,F,rfl,h⟩ Z))
 refine qr Z ?_;obtain rfl:=qb F;replace F:=hK1;refine X0 11 Z ?_;replace h:=h.nil (α:=Int);obtain⟨o2,F,p⟩:=qd F;refine qn ?_;replace h:=h.pick [0,2] Z;refine rL (fun m e w'=>∃(S3:Nat→Prop) (c:Option Addr) (k:Nat) (b:Nat) (x3:(List Int)) (x4:(List Int)) (i2:Int),qcd d y1 a m x3 x4 i2=V o2∧e=[(0,.pointer (V ⟨b1,l,U⟩)),(4,.slice o a.length a.length),(7,.slice c k b),(42,.int .i64 (a.length:Int)),(43,.int .i64 i2)]∧SH w w' [Ch.own S3 (x3:List Int) [.slice c k b],Ch.own S1 (x4:List Int) [.slice o a.length a.length]]) n ⟨_,_,_,_,_,_,_,F,rfl,h⟩ Z ?_;rintro m2 _ _ ⟨S3,c,k,b,x3,x4,i2,F,rfl,h⟩;obtain rfl:=(h.sl 0 Z).2;rcases m2 with _|m2
 ·cases F
 refine X0 5 Z (qi Z F ?_ ?_)<;>intro F
 ·refine X0 6 Z (zcI h F (qo4 (h.own 1 Z)) Z fun r3 _ h F=>X0 8 Z (qi Z F ?_ ?_))<;>intro F
  ·refine X0 5 Z ?_;obtain rfl:=qb F;replace F:=p;obtain rfl:=qb F;exact qX qa (ρ:=((List Int)×Bool)) [GoT.v (List Int) [.slice U 0 0],GoT.v Bool [.bool false]] h ⟨rfl,rfl,trivial⟩ (PV.done h (qP h qeF (qad (qy (S:=fun _=>False) Z)) (by rfl)))
  refine X0 5 Z ?_;obtain⟨_,hy7,F,C,_,_,_,_,K,N,rfl,s⟩:=(h.sl 1 Z).1.ix F;refine zx K N ⟨C.1,qD C.2.1 (h.sl 1 Z).2⟩ Z (qao qa 1 0 (-1) h Z hy7 K N Z s Z Z Z Z Z Z Z fun _ h=>X0 5 Z (qG qa [.tmp 53] _ ([r3]:List Int) h Z Z Z Z Z Z Z Z Z ⟨rfl,trivial⟩ Z fun _ _ _ h=>?_));obtain⟨x5,i,F⟩:=qd F;obtain⟨g3,i⟩:=qaD i;refine qcs qa 1 h Z (h.sl 0 Z).1 (h.sl 0 Z).2 Z Z Z Z Z Z Z Z Z g3 i Z fun _ X T S5 h=>X0 6 Z (zcL h F (qpA (h.old s1)) Z fun r4 _ S6 Y W h F=>X0 3 Z ?_);obtain⟨o3,F,hK3⟩:=qd F;refine qn ?_;replace h:=h.pick [0,2,3] Z;refine rL (fun m e w'=>∃(x6:(List Int)) (i3:Int),qcg y1 r4 m x6 i3=V o3∧e=[(0,.pointer (V ⟨b1,l,U⟩)),(4,.slice o a.length a.length),(7,.slice X x5.length T),(42,.int .i64 (a.length:Int)),(43,.int .i64 i2),(58,.slice Y r4.length W),(59,.int .i64 (r4.length:Int)),(60,.int .i64 i3)]∧SH w w' [Ch.own S6 (r4:List Int) [.slice Y r4.length W],Ch.own S5 (x5:List Int) [.slice X x5.length T],Ch.own S1 (x6:List Int) [.slice o a.length a.length]]) m2 ⟨_,_,F,rfl,h⟩ Z ?_;rintro m3 _ _ ⟨x6,i3,F,rfl,h⟩;rcases m3 with _|m3
  ·cases F
  refine X0 5 Z (qi Z F ?_ ?_)<;>intro F
  ·refine zKSBSR ?_;obtain⟨_,_,F,D,_,_,_,_,hp6,hq6,rfl,t⟩:=(h.sl 0 Z).1.ix F;refine zx hp6 hq6 ⟨D.1,qD D.2.1 (h.sl 0 Z).2⟩ Z (zc 0 t Z (X0 7 Z (zc 0 (f.below h.below) Z ?_)));obtain⟨_,hy9,F⟩:=qd F;obtain⟨_,o_9,_,rfl,-,P,u⟩:=PtR.get s2 hy9;obtain⟨_,_,_,_,_,_,_,_,_,_,_,_,_,_,_,_,_,_,_,_,rfl,_,_,_,_,_,_,s20,_,_,_⟩:=qcB P;refine zp2 Z (zc 6 (u.below h.below) Z (zp1 Z ?_));obtain⟨_,_,F,he7,_,_,_,_,hp7,hq7,Q,v⟩:=s20.ix F;obtain rfl:=qbd Q;refine zxe hp7 hq7 he7 Z (zp1 Z (zc 1 (v.below h.below) Z ?_));obtain⟨y11,_,F,H,_,_,_,_,hp8,hq8,rfl,x⟩:=(h.sl 2 Z).1.ix F;refine zx hp8 hq8 ⟨H.1,qD H.2.1 (h.sl 2 Z).2⟩ Z (zc 0 x Z (zp1 Z ?_));obtain⟨_,R,F,I,_,_,_,_,L,O,rfl,y⟩:=(h.sl 2 Z).1.ix F;exact zx L O ⟨I.1,qD I.2.1 (h.sl 2 Z).2⟩ Z (qao qa 2 0 (W64 (y11-1)) h Z R L O Z y Z Z Z Z Z Z Z fun _ h=>X0 6 Z (rK ⟨_,_,F,rfl,h⟩ Z))
  refine qr Z ?_;obtain rfl:=qb F;replace F:=hK3;refine X0 5 Z ?_;replace h:=h.pick [1,2] Z;exact rK ⟨_,_,_,_,_,_,_,F,rfl,h⟩ Z
 refine qr Z ?_;obtain rfl:=qb F;replace F:=p;refine X0 6 Z ?_;obtain rfl:=qb F;exact qX qa (ρ:=((List Int)×Bool)) [GoT.v (List Int) [.slice c x3.length b],GoT.v Bool [.bool true]] h ⟨rfl,rfl,trivial⟩ (PV.done h (qP h (qak 0 h Z) (qad (qy (S:=fun _=>False) Z)) (by rfl)))
def qgt (n:Nat)(b:qe)(c:qz)(broken:(List Int))(sources:(List qf))(t:(Option qq)):Option ((Option Tgraph)×(List Int)×Int):=
 (
  (qgC n b).bind fun p=>
  bif (!p) then V true else
  (qfY n c).bind fun d=>
  V (!d)).bind fun b1=>
 bif b1 then V (U,[],1) else
 (qk7 n b).bind fun a=>
 (
  bif (!(t).isNone) then
   (t).bind fun r=>
   (qlY n a r).bind fun m=>
   V (!m)
  else
   V false).bind fun b2=>
 bif b2 then V (U,[],1) else
 (
  (qe9 n a broken).bind fun k=>
  bif (!k) then V true else
  (qdW n a sources).bind fun l=>
  V (!l)).bind fun g=>
 bif g then V (U,[],2) else
 (qhy n a broken).bind fun f=>
 (qin n f).bind fun o=>match o with
  | (h,i)=>
   bif (!i) then V (U,[],7) else
   V (f,h,0)
theorem qoK {n:Nat}{w:World}{b:qe}{c:qz}{broken:(List Int)}{sources:(List qf)}{t:(Option qq)}{cs1:List Value}(c3:Ro w b cs1){cs2:List Value}(ha2:Ro w c cs2){cs3:List Value}(ha3:Ro w broken cs3){cs4:List Value}(ha4:Ro w sources cs4){cs5:List Value}(ha5:Ro w t cs5){r:((Option Tgraph)×(List Int)×Int)}(F:qgt n b c broken sources t=V r):RetZ prog 97 [GoT.v qe cs1,GoT.v qz cs2,GoT.v (List Int) cs3,GoT.v (List qf) cs4,GoT.v (Option qq) cs5] w (fun us L=>(∃(ui1:Int),r=(U,[],ui1)∧us=[GoT.v (Option Tgraph) [.pointer U],GoT.v (List Int) [.slice U 0 0],GoT.v Int [.int .i64 ui1]]∧L=[])∨(∃(uS1:Nat→Prop) (up2:Option Addr) (a6:Nat) (uk4:Nat) (ux5:List Int) (W:Nat) (uS7:Nat→Prop) (up8:Option Addr) (a7:Nat) (X:Nat) (b6:List Bool) (uS12:Nat→Prop) (a8:Option Addr) (O:Nat) (Y:Nat) (b7:List (List Int)) (uS17:Nat→Prop) (a9:Option Addr) (P:Nat) (a3:Nat) (b8:List Int) (uS22:Nat→Prop) (b4:Option Addr) (Q:Nat) (a4:Nat) (b9:List qv) (N:Nat) (uS28:Nat→Prop) (b5:Option Addr) (R:Nat) (a5:Nat) (c0:List Tplace),r=((V (⟨(V (⟨b,c0,b9,b8,b7,[]⟩:Tview)),b6⟩:Tgraph)),ux5,0)∧us=[GoT.v (Option Tgraph) [.pointer (V ⟨W,0,U⟩)],GoT.v (List Int) [.slice up2 a6 uk4],GoT.v Int [.int .i64 0]]∧L=[Ch.own uS1 (ux5:List Int) [.slice up2 a6 uk4],Ch.box W [.pointer (V ⟨N,0,U⟩),.slice up8 a7 X] 110,Ch.own uS7 (b6:List Bool) [.slice up8 a7 X],Ch.own uS12 (b7:List (List Int)) [.slice a8 O Y],Ch.own uS17 (b8:List Int) [.slice a9 P a3],Ch.own uS22 (b9:List qv) [.slice b4 Q a4],Ch.box N (cs1++[.slice b5 R a5,.slice b4 Q a4,.slice a9 P a3,.slice a8 O Y,.slice U 0 0]) 115,Ch.own uS28 (c0:List Tplace) [.slice b5 R a5]])):=by
 obtain⟨M,K,D,C,y,u,z,v,I,H,rfl,s1,s2,s3,s4,s5⟩:=qE c3;obtain rfl:=qag ha2;obtain⟨p6,k6,rfl,s6⟩:=ha3;obtain⟨p7,k7,rfl,s7⟩:=ha4;obtain⟨p8,rfl,s8⟩:=qbV ha5;refine qmI func97 Z (m:=61) Z Z (fun h=>?_);refine zSR (qw h Z Z fun _ c1 h=>qw h Z Z fun _ _ h=>X0 6 Z ?_);obtain⟨KF3,hKF3,_,F,hK3⟩:=bindE F;refine qaT (fun e w'=>∃(b1:Bool),KF3 b1=V r∧e=[(2,.slice p6 broken.length k6),(3,.slice p7 sources.length k7),(4,.pointer p8),(5,.pointer (V ⟨c1,0,U⟩)),(24,.bool b1)]∧SH w w' [Ch.box c1 (qJ b M D y z I K C u v H) 57]) ?_ ?_
 ·refine X1 2 1 h Z (zcB h F (qnW (h.old c3)) Z fun _ _ h F=>zp2 Z (qj (t:=20) F Z ?_ ?_))<;>intro F
  ·refine X0 5 Z ?_;replace h:=h.pick [1] Z;obtain rfl:=qb F;exact rG ⟨_,hK3,rfl,h⟩ Z
  refine X1 3 0 h Z (zcB h F (qne (h.old ha2)) Z fun _ _ h F=>X0 4 Z ?_);replace h:=h.pick [1] Z;obtain rfl:=qb F;exact rG ⟨_,hK3,rfl,h⟩ Z
 rintro _ _ ⟨b1,F,rfl,h⟩;subst hKF3;refine qi Z F ?_ ?_<;>intro F
 ·refine X0 6 Z ?_;obtain rfl:=qb F;replace h:=h.pick [] Z;exact qmT qa [GoT.v (Option Tgraph) [.pointer U],GoT.v (List Int) [.slice U 0 0],GoT.v Int [.int .i64 1]] h ⟨rfl,rfl,rfl,trivial⟩ (.inl ⟨1,rfl,rfl,rfl⟩)
 refine X1 4 0 h Z ?_;obtain⟨_,hr1,F⟩:=qd F;refine qrZ (cB 155 Z) (qqJ (h.old c3) hr1) Z Z Z Z ?_;rintro _ _ _ hs1 ⟨S1,p,ln1,o,g,S2,a,ln2,A,l,S3,f,ln3,d,s,J,S4,k,ln4,i,B,rfl,rfl,rfl⟩;replace h:SH _ _ [Ch.own S1 (g:List (List Int)) [.slice p ln1 o],Ch.own S2 (l:List Int) [.slice a ln2 A],Ch.own S3 (s:List qv) [.slice f ln3 d],Ch.box J [.slice M b.Ar.Ap.length K,.slice D b.Aa.Ab.length C,.slice y b.Aa.Ai.length u,.slice z b.Aa.Ah.length v,.slice I b.Af.length H,.slice k ln4 i,.slice f ln3 d,.slice a ln2 A,.slice p ln1 o,.slice U 0 0] 115,Ch.own S4 (B:List Tplace) [.slice k ln4 i],Ch.box c1 (qJ b M D y z I K C u v H) 57]:=SH.appendN h hs1 ⟨fun _ h=>h,⟨fun _ h=>h,⟨fun _ h=>h,⟨fun _ h=>h,⟨fun _ h=>h,trivial⟩⟩⟩⟩⟩;obtain rfl:=(h.sl 0 Z).2;obtain rfl:=(h.sl 1 Z).2;obtain rfl:=(h.sl 2 Z).2;obtain rfl:=(h.sl 4 Z).2;refine X0 5 Z ?_;obtain⟨KF2,hKF2,_,F,hK2⟩:=bindE F;refine qaT (fun e w'=>∃(b2:Bool),KF2 b2=V r∧e=[(2,.slice p6 broken.length k6),(3,.slice p7 sources.length k7),(13,.pointer (V ⟨J,0,U⟩)),(27,.bool b2)]∧SH w w' [Ch.own S1 (g:List (List Int)) [.slice p g.length o],Ch.own S2 (l:List Int) [.slice a l.length A],Ch.own S3 (s:List qv) [.slice f s.length d],Ch.box J [.slice M b.Ar.Ap.length K,.slice D b.Aa.Ab.length C,.slice y b.Aa.Ai.length u,.slice z b.Aa.Ah.length v,.slice I b.Af.length H,.slice k B.length i,.slice f s.length d,.slice a l.length A,.slice p g.length o,.slice U 0 0] 115,Ch.own S4 (B:List Tplace) [.slice k B.length i]]) ?_ ?_
 ·refine X0 2 Z ?_;have hn1:=PtR.isNone s8;refine r_v (qzw qa Z Z Z Z hn1) Z (zp1 Z (qj (t:=30) F Z ?_ ?_))<;>intro F
  ·refine X0 5 Z ?_;obtain⟨y1,hy1,F⟩:=qd F;obtain⟨_,o_1,_,rfl,-,hr9,hc5⟩:=PtR.get s8 hy1;obtain⟨_,_,_,_,_,_,rfl,s9,s10,s11⟩:=qM hr9;refine X0 2 Z (zc 0 (hc5.below h.below) Z (X0 1 Z (zcB h F (qn7 (qcW (x:=(⟨(⟨(⟨b.Ar.Ap⟩:qt),(⟨b.Aa.Ab,b.Aa.Ai,b.Aa.Ah⟩:qg),b.Af⟩:qe),B,s,l,g,[]⟩:Tview)) 3 h Z (⟨[.slice M b.Ar.Ap.length K,.slice D b.Aa.Ab.length C,.slice y b.Aa.Ai.length u,.slice z b.Aa.Ah.length v,.slice I b.Af.length H],[.slice k B.length i,.slice f s.length d,.slice a l.length A,.slice p g.length o,.slice U 0 0],rfl,⟨[.slice M b.Ar.Ap.length K],[.slice D b.Aa.Ab.length C,.slice y b.Aa.Ai.length u,.slice z b.Aa.Ah.length v,.slice I b.Af.length H],rfl,⟨_,_,rfl,(h.oldS s1)⟩,⟨[.slice D b.Aa.Ab.length C,.slice y b.Aa.Ai.length u,.slice z b.Aa.Ah.length v],[.slice I b.Af.length H],rfl,⟨[.slice D b.Aa.Ab.length C],[.slice y b.Aa.Ai.length u,.slice z b.Aa.Ah.length v],rfl,⟨_,_,rfl,(h.oldS s2)⟩,⟨[.slice y b.Aa.Ai.length u],[.slice z b.Aa.Ah.length v],rfl,⟨_,_,rfl,(h.oldS s3)⟩,⟨_,_,rfl,(h.oldS s4)⟩⟩⟩,⟨_,_,rfl,(h.oldS s5)⟩⟩⟩,⟨[.slice k B.length i],[.slice f s.length d,.slice a l.length A,.slice p g.length o,.slice U 0 0],rfl,(h.own 4 Z),⟨[.slice f s.length d],[.slice a l.length A,.slice p g.length o,.slice U 0 0],rfl,(h.own 2 Z),⟨[.slice a l.length A],[.slice p g.length o,.slice U 0 0],rfl,(h.own 1 Z),⟨[.slice p g.length o],[.slice U 0 0],rfl,(h.own 0 Z),⟨_,_,rfl,qoY⟩⟩⟩⟩⟩⟩)) (quV y1 (h.oldS s9) (h.oldS s10) (h.oldS s11))) Z fun _ _ h F=>X0 5 Z ?_)));replace h:=h.pick [0,1,2,3,4] Z;obtain rfl:=qb F;exact rG ⟨_,hK2,rfl,h⟩ Z
  refine X0 9 Z ?_;replace h:=h.pick [0,1,2,3,4] Z;obtain rfl:=qb F;exact rG ⟨_,hK2,rfl,h⟩ Z
 rintro _ _ ⟨b2,F,rfl,h⟩;subst hKF2;refine qi Z F ?_ ?_<;>intro F
 ·refine X0 6 Z ?_;obtain rfl:=qb F;replace h:=h.pick [] Z;exact qmT qa [GoT.v (Option Tgraph) [.pointer U],GoT.v (List Int) [.slice U 0 0],GoT.v Int [.int .i64 1]] h ⟨rfl,rfl,rfl,trivial⟩ (.inl ⟨1,rfl,rfl,rfl⟩)
 refine qcx ?_;obtain⟨KF1,hKF1,_,F,hK1⟩:=bindE F;refine qaT (fun e w'=>∃(b3:Bool),KF1 b3=V r∧e=[(2,.slice p6 broken.length k6),(13,.pointer (V ⟨J,0,U⟩)),(38,.bool b3)]∧SH w w' [Ch.own S1 (g:List (List Int)) [.slice p g.length o],Ch.own S2 (l:List Int) [.slice a l.length A],Ch.own S3 (s:List qv) [.slice f s.length d],Ch.box J [.slice M b.Ar.Ap.length K,.slice D b.Aa.Ab.length C,.slice y b.Aa.Ai.length u,.slice z b.Aa.Ah.length v,.slice I b.Af.length H,.slice k B.length i,.slice f s.length d,.slice a l.length A,.slice p g.length o,.slice U 0 0] 115,Ch.own S4 (B:List Tplace) [.slice k B.length i]]) ?_ ?_
 ·refine X0 3 Z (zcB h F (qn4 (qcW (x:=(⟨(⟨(⟨b.Ar.Ap⟩:qt),(⟨b.Aa.Ab,b.Aa.Ai,b.Aa.Ah⟩:qg),b.Af⟩:qe),B,s,l,g,[]⟩:Tview)) 3 h Z (⟨[.slice M b.Ar.Ap.length K,.slice D b.Aa.Ab.length C,.slice y b.Aa.Ai.length u,.slice z b.Aa.Ah.length v,.slice I b.Af.length H],[.slice k B.length i,.slice f s.length d,.slice a l.length A,.slice p g.length o,.slice U 0 0],rfl,⟨[.slice M b.Ar.Ap.length K],[.slice D b.Aa.Ab.length C,.slice y b.Aa.Ai.length u,.slice z b.Aa.Ah.length v,.slice I b.Af.length H],rfl,⟨_,_,rfl,(h.oldS s1)⟩,⟨[.slice D b.Aa.Ab.length C,.slice y b.Aa.Ai.length u,.slice z b.Aa.Ah.length v],[.slice I b.Af.length H],rfl,⟨[.slice D b.Aa.Ab.length C],[.slice y b.Aa.Ai.length u,.slice z b.Aa.Ah.length v],rfl,⟨_,_,rfl,(h.oldS s2)⟩,⟨[.slice y b.Aa.Ai.length u],[.slice z b.Aa.Ah.length v],rfl,⟨_,_,rfl,(h.oldS s3)⟩,⟨_,_,rfl,(h.oldS s4)⟩⟩⟩,⟨_,_,rfl,(h.oldS s5)⟩⟩⟩,⟨[.slice k B.length i],[.slice f s.length d,.slice a l.length A,.slice p g.length o,.slice U 0 0],rfl,(h.own 4 Z),⟨[.slice f s.length d],[.slice a l.length A,.slice p g.length o,.slice U 0 0],rfl,(h.own 2 Z),⟨[.slice a l.length A],[.slice p g.length o,.slice U 0 0],rfl,(h.own 1 Z),⟨[.slice p g.length o],[.slice U 0 0],rfl,(h.own 0 Z),⟨_,_,rfl,qoY⟩⟩⟩⟩⟩⟩)) ⟨_,_,rfl,(h.oldS s6)⟩) Z fun _ _ h F=>zp2 Z (qj (t:=43) F Z ?_ ?_))<;>intro F
  ·refine X0 7 Z ?_;obtain rfl:=qb F;exact rG ⟨_,hK1,rfl,h⟩ Z
  refine X0 5 Z (zcB h F (qnc (qcW (x:=(⟨(⟨(⟨b.Ar.Ap⟩:qt),(⟨b.Aa.Ab,b.Aa.Ai,b.Aa.Ah⟩:qg),b.Af⟩:qe),B,s,l,g,[]⟩:Tview)) 3 h Z (⟨[.slice M b.Ar.Ap.length K,.slice D b.Aa.Ab.length C,.slice y b.Aa.Ai.length u,.slice z b.Aa.Ah.length v,.slice I b.Af.length H],[.slice k B.length i,.slice f s.length d,.slice a l.length A,.slice p g.length o,.slice U 0 0],rfl,⟨[.slice M b.Ar.Ap.length K],[.slice D b.Aa.Ab.length C,.slice y b.Aa.Ai.length u,.slice z b.Aa.Ah.length v,.slice I b.Af.length H],rfl,⟨_,_,rfl,(h.oldS s1)⟩,⟨[.slice D b.Aa.Ab.length C,.slice y b.Aa.Ai.length u,.slice z b.Aa.Ah.length v],[.slice I b.Af.length H],rfl,⟨[.slice D b.Aa.Ab.length C],[.slice y b.Aa.Ai.length u,.slice z b.Aa.Ah.length v],rfl,⟨_,_,rfl,(h.oldS s2)⟩,⟨[.slice y b.Aa.Ai.length u],[.slice z b.Aa.Ah.length v],rfl,⟨_,_,rfl,(h.oldS s3)⟩,⟨_,_,rfl,(h.oldS s4)⟩⟩⟩,⟨_,_,rfl,(h.oldS s5)⟩⟩⟩,⟨[.slice k B.length i],[.slice f s.length d,.slice a l.length A,.slice p g.length o,.slice U 0 0],rfl,(h.own 4 Z),⟨[.slice f s.length d],[.slice a l.length A,.slice p g.length o,.slice U 0 0],rfl,(h.own 2 Z),⟨[.slice a l.length A],[.slice p g.length o,.slice U 0 0],rfl,(h.own 1 Z),⟨[.slice p g.length o],[.slice U 0 0],rfl,(h.own 0 Z),⟨_,_,rfl,qoY⟩⟩⟩⟩⟩⟩)) ⟨_,_,rfl,(h.oldS s7)⟩) Z fun _ _ h F=>X0 5 Z ?_);obtain rfl:=qb F;exact rG ⟨_,hK1,rfl,h⟩ Z
 rintro _ _ ⟨b3,F,rfl,h⟩;subst hKF1;refine qi Z F ?_ ?_<;>intro F
 ·refine X0 6 Z ?_;obtain rfl:=qb F;replace h:=h.pick [] Z;exact qmT qa [GoT.v (Option Tgraph) [.pointer U],GoT.v (List Int) [.slice U 0 0],GoT.v Int [.int .i64 2]] h ⟨rfl,rfl,rfl,trivial⟩ (.inl ⟨2,rfl,rfl,rfl⟩)
 refine X0 6 Z ?_;obtain⟨_,hr2,F⟩:=qd F;refine qrZ (cB 159 Z) (qn6 (qcW (x:=(⟨(⟨(⟨b.Ar.Ap⟩:qt),(⟨b.Aa.Ab,b.Aa.Ai,b.Aa.Ah⟩:qg),b.Af⟩:qe),B,s,l,g,[]⟩:Tview)) 3 h Z (⟨[.slice M b.Ar.Ap.length K,.slice D b.Aa.Ab.length C,.slice y b.Aa.Ai.length u,.slice z b.Aa.Ah.length v,.slice I b.Af.length H],[.slice k B.length i,.slice f s.length d,.slice a l.length A,.slice p g.length o,.slice U 0 0],rfl,⟨[.slice M b.Ar.Ap.length K],[.slice D b.Aa.Ab.length C,.slice y b.Aa.Ai.length u,.slice z b.Aa.Ah.length v,.slice I b.Af.length H],rfl,⟨_,_,rfl,(h.oldS s1)⟩,⟨[.slice D b.Aa.Ab.length C,.slice y b.Aa.Ai.length u,.slice z b.Aa.Ah.length v],[.slice I b.Af.length H],rfl,⟨[.slice D b.Aa.Ab.length C],[.slice y b.Aa.Ai.length u,.slice z b.Aa.Ah.length v],rfl,⟨_,_,rfl,(h.oldS s2)⟩,⟨[.slice y b.Aa.Ai.length u],[.slice z b.Aa.Ah.length v],rfl,⟨_,_,rfl,(h.oldS s3)⟩,⟨_,_,rfl,(h.oldS s4)⟩⟩⟩,⟨_,_,rfl,(h.oldS s5)⟩⟩⟩,⟨[.slice k B.length i],[.slice f s.length d,.slice a l.length A,.slice p g.length o,.slice U 0 0],rfl,(h.own 4 Z),⟨[.slice f s.length d],[.slice a l.length A,.slice p g.length o,.slice U 0 0],rfl,(h.own 2 Z),⟨[.slice a l.length A],[.slice p g.length o,.slice U 0 0],rfl,(h.own 1 Z),⟨[.slice p g.length o],[.slice U 0 0],rfl,(h.own 0 Z),⟨_,_,rfl,qoY⟩⟩⟩⟩⟩⟩)) ⟨_,_,rfl,(h.oldS s6)⟩ hr2) Z Z Z Z ?_;rintro _ _ _ hs2 ⟨c2,S5,T,ln5,S,x5,rfl,rfl,rfl⟩;replace h:SH _ _ [Ch.box c2 [.pointer (V ⟨J,0,U⟩),.slice T ln5 S] 110,Ch.own S5 (x5:List Bool) [.slice T ln5 S],Ch.own S1 (g:List (List Int)) [.slice p g.length o],Ch.own S2 (l:List Int) [.slice a l.length A],Ch.own S3 (s:List qv) [.slice f s.length d],Ch.box J [.slice M b.Ar.Ap.length K,.slice D b.Aa.Ab.length C,.slice y b.Aa.Ai.length u,.slice z b.Aa.Ah.length v,.slice I b.Af.length H,.slice k B.length i,.slice f s.length d,.slice a l.length A,.slice p g.length o,.slice U 0 0] 115,Ch.own S4 (B:List Tplace) [.slice k B.length i]]:=SH.appendN h hs2 ⟨fun _ h=>h,⟨fun _ h=>h,trivial⟩⟩;obtain rfl:=(h.sl 1 Z).2;refine X0 5 Z ?_;obtain⟨r3,hr3,F⟩:=qd F;obtain⟨r4,r5⟩:=r3;refine qaF (r4,r5) h (cB 160 Z) (qpc (qcW (x:=(⟨(V (⟨(⟨(⟨b.Ar.Ap⟩:qt),(⟨b.Aa.Ab,b.Aa.Ai,b.Aa.Ah⟩:qg),b.Af⟩:qe),B,s,l,g,[]⟩:Tview)),x5⟩:Tgraph)) 0 h Z (⟨[.pointer (V ⟨J,0,U⟩)],[.slice T x5.length S],rfl,(qcW (x:=(⟨(⟨(⟨b.Ar.Ap⟩:qt),(⟨b.Aa.Ab,b.Aa.Ai,b.Aa.Ah⟩:qg),b.Af⟩:qe),B,s,l,g,[]⟩:Tview)) 5 h Z (⟨[.slice M b.Ar.Ap.length K,.slice D b.Aa.Ab.length C,.slice y b.Aa.Ai.length u,.slice z b.Aa.Ah.length v,.slice I b.Af.length H],[.slice k B.length i,.slice f s.length d,.slice a l.length A,.slice p g.length o,.slice U 0 0],rfl,⟨[.slice M b.Ar.Ap.length K],[.slice D b.Aa.Ab.length C,.slice y b.Aa.Ai.length u,.slice z b.Aa.Ah.length v,.slice I b.Af.length H],rfl,⟨_,_,rfl,(h.oldS s1)⟩,⟨[.slice D b.Aa.Ab.length C,.slice y b.Aa.Ai.length u,.slice z b.Aa.Ah.length v],[.slice I b.Af.length H],rfl,⟨[.slice D b.Aa.Ab.length C],[.slice y b.Aa.Ai.length u,.slice z b.Aa.Ah.length v],rfl,⟨_,_,rfl,(h.oldS s2)⟩,⟨[.slice y b.Aa.Ai.length u],[.slice z b.Aa.Ah.length v],rfl,⟨_,_,rfl,(h.oldS s3)⟩,⟨_,_,rfl,(h.oldS s4)⟩⟩⟩,⟨_,_,rfl,(h.oldS s5)⟩⟩⟩,⟨[.slice k B.length i],[.slice f s.length d,.slice a l.length A,.slice p g.length o,.slice U 0 0],rfl,(h.own 6 Z),⟨[.slice f s.length d],[.slice a l.length A,.slice p g.length o,.slice U 0 0],rfl,(h.own 4 Z),⟨[.slice a l.length A],[.slice p g.length o,.slice U 0 0],rfl,(h.own 3 Z),⟨[.slice p g.length o],[.slice U 0 0],rfl,(h.own 2 Z),⟨_,_,rfl,qoY⟩⟩⟩⟩⟩⟩)),(h.own 1 Z)⟩)) hr3) Z Z Z Z fun _ _ _ hv1 hr4=>?_;obtain⟨S7,_,p14,k13,_,rfl,hv2,hr5⟩:=hv1.consL hr4;obtain⟨rfl,h⟩:=hv2.lastB hr5;refine X0 12 Z (qi Z F ?_ ?_)<;>intro F
 ·refine X0 6 Z ?_;obtain rfl:=qb F;replace h:=h.pick [] Z;exact qmT qa [GoT.v (Option Tgraph) [.pointer U],GoT.v (List Int) [.slice U 0 0],GoT.v Int [.int .i64 7]] h ⟨rfl,rfl,rfl,trivial⟩ (.inl ⟨7,rfl,rfl,rfl⟩)
 refine X0 9 Z ?_;obtain rfl:=qb F;exact qmT qa [GoT.v (Option Tgraph) [.pointer (V ⟨c2,0,U⟩)],GoT.v (List Int) [.slice p14 r4.length k13],GoT.v Int [.int .i64 0]] h ⟨rfl,rfl,rfl,trivial⟩ (.inr ⟨S7,p14,r4.length,k13,r4,c2,S5,T,x5.length,S,x5,S1,p,g.length,o,g,S2,a,l.length,A,l,S3,f,s.length,d,s,J,S4,k,B.length,i,B,rfl,rfl,rfl⟩)
def qb7 (a:Int)(c:(List Bool))(d:(List Bool)):Nat→Int→Option Int
 | 0,_=>U
 | n+1,b=>
  bif decide (b<a) then
   (idx c b).bind fun f=>
   bif f then qb7 a c d n (W64 (b+1)) else
   (idx d b).bind fun g=>
   bif g then qb7 a c d n (W64 (b+1)) else
   V b
  else
   V b
def qcI (a:(List qv))(b:(List Bool))(f:(List Bool)):Nat→(List Bool)→Int→Option ((List Bool)×Int)
 | 0,_,_=>U
 | n+1,d,c=>
  bif decide (c<(a.length:Int)) then
   (
    (idx b c).bind fun h=>
    bif h then
     (idx a c).bind fun i=>
     (idx f i.Bf).bind fun k=>
     V (!k)
    else
     V false).bind fun b1=>
   bif b1 then
    (idx a c).bind fun g=>
    (idx d g.To).bind fun _=>
    qcI a b f n (setS d g.To true) (W64 (c+1))
   else
    qcI a b f n d (W64 (c+1))
  else
   V (d,c)
def qeN (a:Int)(b:(List qv))(c:(List Bool)):Nat→(List Bool)→(List Int)→Option (Flow ((List Int)×Bool) ((List Bool)×(List Int)))
 | 0,_,_=>U
 | n+1,d,g=>
  bif decide ((g.length:Int)<a) then
   (mkS a (false:Bool)).bind fun h=>
   (qcI b c d n h 0).bind fun o=>match o with
   | (i,_)=>
    (qb7 a d i n 0).bind fun f=>
    bif (f==a) then V (.ret (([]:List Int),false)) else
    (idx d f).bind fun _=>
    (appS g ([f]:List Int)).bind fun k=>
    qeN a b c n (setS d f true) k
  else
   V (.nxt (d,g))
def qiy (n:Nat)(a:Int)(b:(List qv))(c:(List Bool)):Option ((List Int)×Bool):=
 (mkS a (false:Bool)).bind fun d=>
 (qeN a b c n d ([]:List Int)).bind fun o=>match o with
 | .ret r=>V r
 | .nxt (_,f)=>
  V (f,true)
theorem qqV {b:Int}{c:(List qv)}{d:(List Bool)}(ha1:Ro w c cs1)(ha2:Ro w d cs2){r:((List Int)×Bool)}(F:qiy n b c d=V r):RetV prog 204 [.int .i64 b,GoT.v (List qv) cs1,GoT.v (List Bool) cs2] w r:=by
 obtain⟨p1,X,rfl,s1⟩:=ha1;obtain⟨p2,Y,rfl,s2⟩:=ha2;refine zV 79 func204 Z fun h=>X0 7 Z (qG qa [] _ ([]:List Int) h Z Z Z Z Z Z Z Z Z trivial Z fun _ _ _ h=>X0 5 Z ?_);obtain⟨a,p,F⟩:=qd F;obtain⟨g1,g2,p⟩:=qR p;refine qas qa Bool h Z Z Z Z Z Z Z Z Z g1 g2 p Z fun _ S2 l h=>X0 3 Z ?_;obtain⟨o1,F,A⟩:=qd F;refine qn (rL (fun m e w'=>∃(o:(List Bool)) (x:Nat→Prop) (i:Option Addr) (v:Nat) (g:Nat) (f:(List Int)),qeN b c d m o f=V o1∧e=[(0,.int .i64 b),(1,.slice p1 c.length X),(2,.slice p2 d.length Y),(8,.slice i v g),(9,.slice l a.length a.length)]∧SH w w' [Ch.own S2 (o:List Bool) [.slice l a.length a.length],Ch.own x (f:List Int) [.slice i v g]]) n ⟨_,_,_,_,_,_,F,rfl,h⟩ Z ?_);rintro m1 _ _ ⟨o,x,i,v,g,f,F,rfl,h⟩;obtain rfl:=(h.sl 1 Z).2;rcases m1 with _|m1
 ·cases F
 refine X0 8 Z (qi Z F ?_ ?_)<;>intro F
 ·refine X0 5 Z ?_;obtain⟨k,s,F⟩:=qd F;obtain⟨g3,g4,s⟩:=qR s;refine qas qa Bool h Z Z Z Z Z Z Z Z Z g3 g4 s Z fun _ S4 y h=>X0 7 Z ?_;obtain⟨o2,F,hK2⟩:=qd F;refine qn (rL (fun m e w'=>∃(z:(List Bool)) (i1:Int),qcI c d o m z i1=V o2∧e=[(0,.int .i64 b),(1,.slice p1 c.length X),(2,.slice p2 d.length Y),(8,.slice i f.length g),(9,.slice l a.length a.length),(10,.slice y k.length k.length),(11,.int .i64 i1)]∧SH w w' [Ch.own S4 (z:List Bool) [.slice y k.length k.length],Ch.own S2 (o:List Bool) [.slice l a.length a.length],Ch.own x (f:List Int) [.slice i f.length g]]) m1 ⟨_,_,F,rfl,h⟩ Z ?_);rintro m2 _ _ ⟨z,i1,F,rfl,h⟩;rcases m2 with _|m2
  ·cases F
  refine X0 8 Z (qi Z F ?_ ?_)<;>intro F
  ·refine X0 4 Z ?_;obtain⟨KF1,D,_,F,B⟩:=bindE F;refine qaT (fun e w'=>∃(b1:Bool),KF1 b1=V o2∧e=[(0,.int .i64 b),(1,.slice p1 c.length X),(2,.slice p2 d.length Y),(8,.slice i f.length g),(9,.slice l a.length a.length),(10,.slice y k.length k.length),(11,.int .i64 i1),(42,.bool b1)]∧SH w w' [Ch.own S4 (z:List Bool) [.slice y k.length k.length],Ch.own S2 (o:List Bool) [.slice l a.length a.length],Ch.own x (f:List Int) [.slice i f.length g]]) ?_ ?_
   ·refine X0 3 Z ?_;obtain⟨_,_,F,he3,_,_,_,_,hp3,hq3,rfl,hc6⟩:=s2.ix F;refine zxe hp3 hq3 he3 Z (zc 0 (hc6.below h.below) Z (zp1 Z (qj (t:=32) F Z ?_ ?_)))<;>intro F
    ·refine X0 7 Z ?_;obtain⟨_,_,F,he4,_,_,_,_,hp4,hq4,hr4,hc7⟩:=s1.ix F;obtain rfl:=qbd hr4;refine zxe hp4 hq4 he4 Z (X0 3 Z (zc 0 (hc7.below h.below) Z (X0 1 Z ?_)));obtain⟨_,_,F,M,_,_,_,_,hp5,hq5,rfl,hc8⟩:=(h.sl 1 Z).1.ix F;refine zx hp5 hq5 ⟨M.1,qD M.2.1 (h.sl 1 Z).2⟩ Z (X0 1 Z (zc 0 hc8 Z (X0 4 Z ?_)));obtain rfl:=qb F;exact rG ⟨_,B,rfl,h⟩ Z
    refine X0 11 Z ?_;obtain rfl:=qb F;exact rG ⟨_,B,rfl,h⟩ Z
   rintro _ _ ⟨b1,F,rfl,h⟩;subst D;refine qi Z F ?_ ?_<;>intro F
   ·refine X0 4 Z ?_;obtain⟨_,_,F,he1,_,_,_,_,hp1,hq1,hr1,hc4⟩:=s1.ix F;obtain rfl:=qbd hr1;refine zxe hp1 hq1 he1 Z (zp1 Z (zc 1 (hc4.below h.below) Z ?_));obtain⟨_,hy2,F,L,_,_,_,_,Q,T,rfl,hc5⟩:=(h.sl 0 Z).1.ix F;exact zx Q T ⟨L.1,qD L.2.1 (h.sl 0 Z).2⟩ Z (qao qa 0 0 true h Z hy2 Q T Z hc5 Z Z Z Z Z Z Z fun _ h=>X0 7 Z (rK ⟨_,_,F,rfl,h⟩ Z))
   exact X0 7 Z (rK ⟨_,_,F,rfl,h⟩ Z)
  refine qr Z ?_;obtain rfl:=qb F;replace F:=hK2;refine X0 5 Z ?_;obtain⟨KF2,H,o4,F,C⟩:=bindE F;refine qaT (fun e w'=>∃(i3:Int),KF2 i3=V o1∧e=[(0,.int .i64 b),(1,.slice p1 c.length X),(2,.slice p2 d.length Y),(8,.slice i f.length g),(9,.slice l a.length a.length),(12,.int .i64 i3)]∧SH w w' [Ch.own S2 (o:List Bool) [.slice l a.length a.length],Ch.own x (f:List Int) [.slice i f.length g]]) ?_ ?_
  ·refine qn (rL (fun m e w'=>∃(i4:Int),qb7 b o z m i4=V o4∧e=[(0,.int .i64 b),(1,.slice p1 c.length X),(2,.slice p2 d.length Y),(8,.slice i f.length g),(9,.slice l a.length a.length),(10,.slice y k.length k.length),(12,.int .i64 i4)]∧SH w w' [Ch.own S4 (z:List Bool) [.slice y k.length k.length],Ch.own S2 (o:List Bool) [.slice l a.length a.length],Ch.own x (f:List Int) [.slice i f.length g]]) m1 ⟨_,F,rfl,h⟩ Z ?_);rintro m3 _ _ ⟨i4,F,rfl,h⟩;rcases m3 with _|m3
   ·cases F
   refine X0 7 Z (qj (t:=53) F Z ?_ ?_)<;>intro F
   ·refine X0 5 Z ?_;obtain⟨_,_,F,O,_,_,_,_,hp7,hq7,rfl,J⟩:=(h.sl 1 Z).1.ix F;refine zx hp7 hq7 ⟨O.1,qD O.2.1 (h.sl 1 Z).2⟩ Z (X0 1 Z (zc 0 J Z (X0 2 Z (qj (t:=58) F Z ?_ ?_))))<;>intro F
    ·exact X0 8 Z (qb9 Z Z (X0 8 Z (rK ⟨_,F,rfl,h⟩ Z)))
    refine X0 5 Z ?_;obtain⟨_,_,F,P,_,_,_,_,hp8,hq8,rfl,K⟩:=(h.sl 0 Z).1.ix F;refine zx hp8 hq8 ⟨P.1,qD P.2.1 (h.sl 0 Z).2⟩ Z (X0 1 Z (zc 0 K Z (X0 4 Z (qi Z F ?_ ?_))))<;>intro F
    ·exact X0 8 Z (rK ⟨_,F,rfl,h⟩ Z)
    refine qr Z ?_;replace h:=h.pick [1,2] Z;obtain rfl:=qb F;exact rG ⟨_,C,rfl,h⟩ Z
   refine X0 12 Z (qbL Z Z (qr Z ?_));replace h:=h.pick [1,2] Z;obtain rfl:=qb F;exact rG ⟨_,C,rfl,h⟩ Z
  rintro _ _ ⟨i3,F,rfl,h⟩;subst H;refine X0 7 Z (qi Z F ?_ ?_)<;>intro F
  ·refine zSR (qG qa [] _ ([]:List Int) h Z Z Z Z Z Z Z Z Z trivial Z fun _ p7 _ h=>X0 3 Z ?_);obtain rfl:=qb F;replace F:=A;obtain rfl:=qb F;exact qX qa (ρ:=((List Int)×Bool)) [GoT.v (List Int) [.slice p7 0 0],GoT.v Bool [.bool false]] h ⟨rfl,rfl,trivial⟩ (PV.done h (qP h (qak 0 h Z) (qad (qy (S:=fun _=>False) Z)) (by rfl)))
  refine X0 5 Z ?_;obtain⟨_,hy6,F,N,_,_,_,_,R,W,rfl,I⟩:=(h.sl 0 Z).1.ix F;refine zx R W ⟨N.1,qD N.2.1 (h.sl 0 Z).2⟩ Z (qao qa 0 0 true h Z hy6 R W Z I Z Z Z Z Z Z Z fun _ h=>X0 4 Z (qG qa [.tmp 75] _ ([i3]:List Int) h Z Z Z Z Z Z Z Z Z ⟨rfl,trivial⟩ Z fun _ _ _ h=>?_));obtain⟨_,u,F⟩:=qd F;obtain⟨g5,u⟩:=qaD u;refine qcs qa 2 h Z (h.sl 0 Z).1 (h.sl 0 Z).2 Z Z Z Z Z Z Z Z Z g5 u Z fun _ _ _ _ h=>X0 3 Z ?_;replace h:=h.pick [1,2] Z;exact rK ⟨_,_,_,_,_,_,F,rfl,h⟩ Z
 refine qr Z ?_;obtain rfl:=qb F;replace F:=A;refine X0 6 Z ?_;obtain rfl:=qb F;exact qX qa (ρ:=((List Int)×Bool)) [GoT.v (List Int) [.slice i f.length g],GoT.v Bool [.bool true]] h ⟨rfl,rfl,trivial⟩ (PV.done h (qP h (qak 1 h Z) (qad (qy (S:=fun _=>False) Z)) (by rfl)))
end Go.Fw


namespace Go.Fw
open Go
set_option maxRecDepth 100000
structure LkOk (ls:List qv)(M:Nat):Prop where
 len:ls.length≤10000
 nodes:M≤156
 fr0:∀ x,x<ls.length→0≤(gt ls x).Bf
 fr1:∀ x,x<ls.length→(gt ls x).Bf<(M:Int)
 to0:∀ x,x<ls.length→0≤(gt ls x).To
 to1:∀ x,x<ls.length→(gt ls x).To<(M:Int)
def frL (ls:List qv)(x:Nat):Int:=(gt ls x).Bf
def toL (ls:List qv)(x:Nat):Int:=(gt ls x).To
def lvL (lv:List Bool)(x:Nat):Bool:=gt lv x
abbrev inL (ls:List qv)(lv:List Bool)(j:Nat)(R:List Nat)(k:Nat):Nat:=inN j (frL ls) (toL ls) (lvL lv) R k
abbrev nxtL (ls:List qv)(lv:List Bool)(M:Nat)(R:List Nat):Option Nat:=nxtN ls.length (frL ls) (toL ls) (lvL lv) M R
abbrev ordL (ls:List qv)(lv:List Bool)(M m:Nat)(R:List Nat):Option (List Nat):=ordN ls.length (frL ls) (toL ls) (lvL lv) M m R
def ordR (ls:List qv)(lv:List Bool)(M:Nat):List Int×Bool:=match ordL ls lv M M [] with|some R=>(ints R,true)|none=>([],false)
theorem qx4 {ls:List qv}{lv:List Bool}{M m:Nat}{R:List Nat}(h:nxtL ls lv M R=U):ordL ls lv M (m+1) R=U:=by
 show(match nxtL ls lv M R with|none=>U|some k=>ordL ls lv M m (R++[k]))=U;rw[h]
theorem qxt {ls:List qv}{lv:List Bool}{M m k:Nat}{R:List Nat}(h:nxtL ls lv M R=V k):ordL ls lv M (m+1) R=ordL ls lv M m (R++[k]):=by
 show(match nxtL ls lv M R with|none=>U|some k=>ordL ls lv M m (R++[k]))=_;rw[h]
theorem qq3 {M:Nat}{v:Bool}(h:M≤2147483648):mkS (M:Int) v=V (pre (fun _=>v) M):=by
 rw[qmw h]
 congr 1
 refine Jf (by simp[pre]) fun i h1 h2=>?_;simp[pre]
theorem qAN {L:Nat}{fr to:Nat→Int}{lv:Nat→Bool}{R:List Nat}{k:Nat}:inN L fr to lv R k≤L:=qgz
theorem qvl {L:Nat}{fr to:Nat→Int}{lv:Nat→Bool}{R:List Nat}{k:Nat}:inN (L+1) fr to lv R k=inN L fr to lv R k+(bif lv L&&(to L==(k:Int)&&!decide (fr L ∈ ints R)) then 1 else 0):=rfl
def ledB (ls:List qv)(lv:List Bool)(j:Nat)(R:List Nat)(M:Nat):List Bool:=pre (fun k=>!decide (inL ls lv j R k=0)) M
def inB (R:List Nat)(M:Nat):List Bool:=pre (fun k=>decide (k ∈ R)) M
theorem qAj {ls:List qv}{lv:List Bool}{M:Nat}(h:LkOk ls M)(hl:lv.length=ls.length){R:List Nat} :
  Ev (fun n=>qcI ls lv (inB R M) n (pre (fun _=>false) M) 0) (ledB ls lv ls.length R M,(ls.length:Int)):=by
 have hll:=h.len;refine loopF (Lf:=qcI ls lv (inB R M)) (S:=fun j=>ledB ls lv j R M) (len:=ls.length) (fun n=>?_) (fun j hj X hX=>?_)
 ·simp only[qcI,ql (je _),cond_false]
 ·obtain⟨a,ha⟩:∃ a:Nat,(gt ls j).Bf=(a:Int):=⟨_,qfn (h.fr0 j hj)⟩;obtain⟨c,hc⟩:∃ c:Nat,(gt ls j).To=(c:Int):=⟨_,qfn (h.to0 j hj)⟩;have ha1:a<M:=by have:=h.fr1 j hj;omega
  have hc1:c<M:=by have:=h.to1 j hj;omega
  have hfr:frL ls j=(a:Int):=ha;have hto:toL ls j=(c:Int):=hc;have hmem:decide (frL ls j ∈ ints R)=decide (a ∈ R):=by rw[hfr];exact decide_eq_decide.2 qoL
  have i1:idx (inB R M) (a:Int)=V (decide (a ∈ R)):=qjP (f:=fun k=>decide (k ∈ R)) ha1;have i2:idx (ledB ls lv j R M) (c:Int)=V (!decide (inL ls lv j R c=0)):=qjP (f:=fun k=>!decide (inL ls lv j R k=0)) hc1;have key:(lvL lv j&&!decide (a ∈ R))=true→ledB ls lv (j+1) R M=setS (ledB ls lv j R M) (c:Int) true:=by
   intro hk;unfold ledB;rw[qqa];refine qir fun k _=>?_;show(!decide (inN (j+1) _ _ _ R k=0))=_;rw[qvl,hto,hmem];by_cases hkc:k=c
   ·subst hkc;rw[if_pos Z];simp only[jf] at hk;simp[hk.1,hk.2]
   ·rw[if_neg hkc,show((c:Int)==(k:Int))=false by simp;omega];simp
  have key2:(lvL lv j&&!decide (a ∈ R))=false→ledB ls lv (j+1) R M=ledB ls lv j R M:=by
   intro hk;unfold ledB;refine qir fun k _=>?_;show(!decide (inN (j+1) _ _ _ R k=0))=_;rw[qvl,hto,hmem,show(lvL lv j&&(((c:Int)==(k:Int))&&!decide (a ∈ R)))=false by
    cases h1:lvL lv j
    ·rfl
    ·rw[h1] at hk;simp only[jx] at hk;rw[hk];simp]
   simp
  simp only[qcI,qk hj,cond_true,qC (show j<lv.length by omega),qC hj,jd,ha,hc,i1,i2,wS j];cases h1:gt lv j
  ·simp only[cond_false,jd];have:=key2 (by unfold lvL;rw[h1];rfl);rw[this] at hX;exact hX
  ·simp only[cond_true,jd];cases h2:decide (a ∈ R)
   ·simp only[Bool.not_false,cond_true];have:=key (by unfold lvL;rw[h1,h2];rfl);rw[this] at hX;exact hX
   ·simp only[jV,cond_false];have:=key2 (by unfold lvL;rw[h1,h2];rfl);rw[this] at hX;exact hX
theorem qyx {ls:List qv}{lv:List Bool}{M:Nat}(h:LkOk ls M){R:List Nat} :
  Ev (fun n=>qb7 (M:Int) (inB R M) (ledB ls lv ls.length R M) n 0) (match nxtL ls lv M R with|some k=>(k:Int)|none=>(M:Int)):=by
 have hm:=h.nodes;have main:∀ d j,j+d=M→(∀ i,i<j→freeN ls.length (frL ls) (toL ls) (lvL lv) R i=false) →
   Ev (fun n=>qb7 (M:Int) (inB R M) (ledB ls lv ls.length R M) n (j:Int)) (match nxtL ls lv M R with|some k=>(k:Int)|none=>(M:Int)):=by
  intro d
  induction d with
  | zero=>
   intro j hj hn;have hno:nxtL ls lv M R=U:=by
    show(List.range M).find? _=U;rw[List.find?_eq_none];intro x hx;rw[List.mem_range] at hx;rw[hn x (by omega)];simp
   rw[hno];refine Ev.succ ?_;simp only[qb7,ql (show M≤j by omega),cond_false];rw[show j=M by omega];exact .done
  | succ d ih=>
   intro j hj hn;have hjM:j<M:=by omega
   have i1:idx (inB R M) (j:Int)=V (decide (j ∈ R)):=qjP (f:=fun k=>decide (k ∈ R)) hjM;have i2:idx (ledB ls lv ls.length R M) (j:Int)=V (!decide (inL ls lv ls.length R j=0)):=qjP (f:=fun k=>!decide (inL ls lv ls.length R k=0)) hjM;refine Ev.succ ?_;simp only[qb7,qk hjM,cond_true,i1,i2,jd,wS j];have go:freeN ls.length (frL ls) (toL ls) (lvL lv) R j=false→Ev (fun n=>qb7 (M:Int) (inB R M) (ledB ls lv ls.length R M) n ((j+1:Nat):Int)) (match nxtL ls lv M R with|some k=>(k:Int)|none=>(M:Int)):=fun hf=>
    ih (j+1) (by omega) fun i hi=>by
     by_cases hij:i=j
     ·rw[hij];exact hf
     ·exact hn i (by omega)
   cases h1:decide (j ∈ R)
   ·simp only[cond_false];cases h2:decide (inL ls lv ls.length R j=0)
    ·simp only[Bool.not_false,cond_true];exact go (by unfold freeN;rw[h1];show(!false&&decide (inL ls lv ls.length R j=0))=false;rw[h2];rfl)
    ·simp only[jV,cond_false];have:nxtL ls lv M R=V j:=by
      show(List.range M).find? _=V j;rw[List.find?_range_eq_some];refine⟨?_,List.mem_range.2 hjM,fun i hi=>by rw[hn i hi];rfl⟩;unfold freeN;rw[h1];show(!false&&decide (inL ls lv ls.length R j=0))=true;rw[h2];rfl
     rw[this];exact .done
   ·simp only[cond_true];exact go (by unfold freeN;rw[h1];rfl)
 exact main M 0 (by omega) (fun i hi=>absurd hi (by omega))
theorem qxF {ls:List qv}{lv:List Bool}{M:Nat}(h:LkOk ls M)(hl:lv.length=ls.length):Ev (fun n=>qiy n (M:Int) ls lv) (ordR ls lv M):=by
 have hm:=h.nodes;have main:∀ m R,R.length+m=M→Ev (fun n=>qeN (M:Int) ls lv n (inB R M) (ints R))
   (match ordL ls lv M m R with|some R'=>.nxt (inB R' M,ints R')|none=>.ret ([],false)):=by
  intro m
  induction m with
  | zero=>
   intro R hR;refine Ev.succ ?_;simp only[qeN,qcF,ql (show M≤R.length by omega),cond_false];exact .done
  | succ m ih=>
   intro R hR;refine Ev.succ ?_;simp only[qeN,qcF,qk (show R.length<M by omega),cond_true,qq3 (v:=false) (show M≤2147483648 by omega),jd];refine Ev.bind (qAj h hl) (Ev.bind (qyx h) ?_);show Ev _ (match (match nxtL ls lv M R with|none=>U|some k=>ordL ls lv M m (R++[k])) with|some R'=>_|none=>_);cases hn:nxtL ls lv M R with
   | none=>
    simp only[beq_self_eq_true,cond_true];exact .done
   | some k=>
    obtain⟨hk,_,_⟩:=qqF hn;have i1:idx (inB R M) (k:Int)=V (decide (k ∈ R)):=qjP (f:=fun k=>decide (k ∈ R)) hk;have e1:setS (inB R M) (k:Int) true=inB (R++[k]) M:=by
     unfold inB;rw[qqa];refine qir fun i _=>?_;by_cases hik:i=k
     ·subst hik;simp
     ·simp[hik]
    simp only[show((k:Int)==(M:Int))=false by simp;omega,cond_false,i1,jd];rw[qcS (by rw[qcF,jt];omega),e1,←qlo];exact ih (R++[k]) (by rw[jh,jt];omega)
 have e0:pre (fun _=>false) M=inB [] M:=qir fun k _=>by simp
 unfold qiy;rw[qq3 (v:=false) (show M≤2147483648 by omega)];simp only[jd];rw[e0];refine Ev.bind (main M [] (by simp)) ?_;unfold ordR;cases ordL ls lv M M []<;>exact .done
def grV (ls:List qv)(lv:List Bool)(ps:List Tplace)(b:qe)(lo:List Int)(de:List (List Int))(ex:List Int):Option Tgraph:=V ⟨V ⟨b,ps,ls,lo,de,ex⟩,lv⟩
theorem quC {xs:List Int}(hl:xs.length≤1000000):Ev (fun n=>qid n xs 0) (ixL (fun y=>(0:Int)==y) xs):=
 qgm (fin:=(xs.length:Int)) (Lf:=qdg xs 0) (pf:=fun _ y=>V ((0:Int)==y)) (fun _ _=>.done)
  (fun n=>by simp only[qdg,ql (je _),cond_false])
  (fun n j x hx=>by
   have hj:=(List.getElem?_eq_some_iff.1 hx).1;simp only[qdg,qk hj,cond_true,qan hx,jd,wS j])
  (fun n=>by unfold qid;congr 1;funext o;cases o<;>rfl)
theorem qAp {f:Nat→Int}{M:Nat}{p:Int→Bool}:ixL p (vecI f M)=match (List.range M).find? (fun k=>p (f k)) with|some k=>(k:Int)|none=>-1:=by
 cases hf:(List.range M).find? (fun k=>p (f k)) with
 | none=>
  have h1:(vecI f M).findIdx? p=U:=by
   rw[List.findIdx?_eq_none_iff];intro x hx;obtain⟨k,hk,rfl⟩:=List.mem_map.1 hx;have:=List.find?_eq_none.1 hf k hk;simpa using this
  unfold ixL;rw[h1]
 | some k=>
  obtain⟨h1,h2,h3⟩:=List.find?_range_eq_some.1 hf;rw[List.mem_range] at h2;have:=qtL (p:=p) (xs:=vecI f M) (j:=k) (by rw[qnj];exact h2) (by simpa [vecI] using h1) (fun i hi=>by
   have:=h3 i hi;simpa [vecI] using this)
  rw[this]
section
variable {ls:List qv}{lv:List Bool}{M:Nat}{ps:List Tplace}{b:qe}{lo:List Int}{de:List (List Int)}{ex:List Int}
theorem quv (h:LkOk ls M)(hl:lv.length=ls.length):Ev (fun n=>qbp n (grV ls lv ps b lo de ex)) (ints (selN (lvL lv) ls.length)):=by
 have hll:=h.len;have hL:Ev (fun n=>qK ⟨V ⟨b,ps,ls,lo,de,ex⟩,lv⟩ ⟨b,ps,ls,lo,de,ex⟩ n ([]:List Int) 0) (ints (selN (lvL lv) ls.length),(ls.length:Int)):=by
  refine qls (q:=lvL lv) (Lf:=qK ⟨V ⟨b,ps,ls,lo,de,ex⟩,lv⟩ ⟨b,ps,ls,lo,de,ex⟩) (len:=ls.length) (by omega) (Ev.succ ?_) (fun j hj t ht X h1 h2=>?_)
  ·simp only[qK,ql (je _),cond_false];exact .done
  ·simp only[qK,qk hj,cond_true,qC hj,qC (show j<lv.length by omega),jd,qiX,ht,wS j];cases hq:gt lv j
   ·simp only[cond_false];exact h2 hq
   ·simp only[cond_true];exact h1 hq
 unfold qbp grV;simp only[jd];exact Ev.bind hL .done
theorem qAk (h:LkOk ls M)(hl:lv.length=ls.length){v:Int}:Ev (fun n=>qiT n (grV ls lv ps b lo de ex) v) (ints (selN (fun x=>lvL lv x&&(frL ls x==v)) ls.length)):=by
 have hll:=h.len;have hL:Ev (fun n=>qN v ⟨V ⟨b,ps,ls,lo,de,ex⟩,lv⟩ ⟨b,ps,ls,lo,de,ex⟩ n ([]:List Int) 0) (ints (selN (fun x=>lvL lv x&&(frL ls x==v)) ls.length),(ls.length:Int)):=by
  refine qls (q:=fun x=>lvL lv x&&(frL ls x==v)) (Lf:=qN v ⟨V ⟨b,ps,ls,lo,de,ex⟩,lv⟩ ⟨b,ps,ls,lo,de,ex⟩) (len:=ls.length) (by omega) (Ev.succ ?_) (fun j hj t ht X h1 h2=>?_)
  ·simp only[qN,ql (je _),cond_false];exact .done
  ·simp only[qN,qk hj,cond_true,qC hj,qC (show j<lv.length by omega),jd,qjJ,ht,wS j];unfold lvL frL at h1 h2;cases hq:gt lv j
   ·simp only[cond_false];exact h2 (by rw[hq];rfl)
   ·simp only[cond_true];cases hw:(gt ls j).Bf==v
    ·simp only[cond_false];exact h2 (by rw[hq,hw];rfl)
    ·simp only[cond_true];exact h1 (by rw[hq,hw];rfl)
 unfold qiT qct grV;simp only[jd];exact Ev.bind (Ev.bind hL .done) .done
theorem qyj {q:Nat→Bool}{m:Nat}{p:Nat→Bool}:(selN q m).countP p=cntP (fun x=>q x&&p x) m:=by
 induction m with
 | zero=>rfl
 | succ m ih=>
  rw[qoX,List.countP_append,ih];show _=cntP (fun x=>q x&&p x) m+(bif (q m&&p m) then 1 else 0);cases q m
  ·rfl
  ·cases hp:p m<;>simp[hp]
def cntT (ls:List qv)(S:List Nat)(k:Nat):Nat:=S.countP (fun x=>toL ls x==(k:Int))
theorem qw6 {S:List Nat}{k:Nat}:cntT ls S k≤S.length:=List.countP_le_length
theorem qxy {S:List Nat}{j k:Nat}(hj:j<S.length):cntT ls (S.take (j+1)) k=cntT ls (S.take j) k+(if toL ls S[j]=(k:Int) then 1 else 0):=by
 unfold cntT;rw[jB hj,List.countP_append];by_cases h:toL ls S[j]=(k:Int)<;>simp[h]
theorem bumpV {f:Nat→Int}{c:Nat}{S:List Nat}{j:Nat}{d v:Int}(hj:j<S.length)(hc:toL ls S[j]=(c:Int))(hv:v=f c+d*(cntT ls (S.take j) c:Int)+d) :
  setS (vecI (fun k=>f k+d*(cntT ls (S.take j) k:Int)) M) (c:Int) v=vecI (fun k=>f k+d*(cntT ls (S.take (j+1)) k:Int)) M:=by
 rw[qsT];refine qfZ fun k _=>?_;rw[qxy hj,hc];by_cases hk:k=c
 ·subst hk;rw[if_pos Z,if_pos Z,hv];rw[Int.natCast_add,Int.mul_add];omega
 ·rw[if_neg hk,if_neg (by omega)];simp
theorem qA1 (h:LkOk ls M){S:List Nat}(hS:∀ x,x ∈ S→x<ls.length)(hn:S.length≤10000) :
  Ev (fun n=>qce ⟨V ⟨b,ps,ls,lo,de,ex⟩,lv⟩ (ints S) n (vecI (fun _=>0) M) 0) (vecI (fun k=>(cntT ls S k:Int)) M,(S.length:Int)):=by
 have:=loopF (Lf:=qce ⟨V ⟨b,ps,ls,lo,de,ex⟩,lv⟩ (ints S)) (S:=fun j=>vecI (fun k=>0+1*(cntT ls (S.take j) k:Int)) M) (len:=S.length) (fin:=(vecI (fun k=>(cntT ls S k:Int)) M,(S.length:Int))) (fun n=>by
   simp only[qce,qcF,ql (je _),cond_false,jG];rw[qfZ (f:=fun k=>0+1*(cntT ls S k:Int)) (g:=fun k=>(cntT ls S k:Int)) (fun k _=>by omega)])
  (fun j hj X hX=>by
   have hx:=hS S[j] (jq hj);obtain⟨c,hc⟩:∃ c:Nat,(gt ls S[j]).To=(c:Int):=⟨_,qfn (h.to0 _ hx)⟩;have hc1:c<M:=by have:=h.to1 _ hx;omega
   have hle:=qw6 (ls:=ls) (S:=S.take j) (k:=c);rw[jP] at hle;simp only[qce,qcF,qk hj,cond_true,qp5 hj,jd,qC hx,hc,qoz hc1,wS j];rw[qF (by omega) (by omega),bumpV (d:=1) hj hc (by omega)];exact hX)
 rw[qfZ (f:=fun k=>0+1*(cntT ls (S.take 0) k:Int)) (g:=fun _=>0) (fun k _=>by unfold cntT;simp)] at this;exact this
theorem qyI (h:LkOk ls M){S:List Nat}{f:Nat→Int}(hS:∀ x,x ∈ S→x<ls.length)(hn:S.length≤10000)(hf:∀ k,k<M→-1≤f k∧f k≤10000) :
  Ev (fun n=>qcg ⟨V ⟨b,ps,ls,lo,de,ex⟩,lv⟩ (ints S) n (vecI f M) 0) (vecI (fun k=>f k-(cntT ls S k:Int)) M,(S.length:Int)):=by
 have:=loopF (Lf:=qcg ⟨V ⟨b,ps,ls,lo,de,ex⟩,lv⟩ (ints S)) (S:=fun j=>vecI (fun k=>f k+(-1)*(cntT ls (S.take j) k:Int)) M) (len:=S.length) (fin:=(vecI (fun k=>f k-(cntT ls S k:Int)) M,(S.length:Int))) (fun n=>by
   simp only[qcg,qcF,ql (je _),cond_false,jG];rw[qfZ (f:=fun k=>f k+(-1)*(cntT ls S k:Int)) (g:=fun k=>f k-(cntT ls S k:Int)) (fun k _=>by omega)])
  (fun j hj X hX=>by
   have hx:=hS S[j] (jq hj);obtain⟨c,hc⟩:∃ c:Nat,(gt ls S[j]).To=(c:Int):=⟨_,qfn (h.to0 _ hx)⟩;have hc1:c<M:=by have:=h.to1 _ hx;omega
   have hle:=qw6 (ls:=ls) (S:=S.take j) (k:=c);rw[jP] at hle;have hfc:=hf c hc1;simp only[qcg,qcF,qk hj,cond_true,qp5 hj,jd,qC hx,hc,qoz hc1,wS j];rw[qF (by omega) (by omega),bumpV (d:=-1) hj hc (by omega)];exact hX)
 rw[qfZ (f:=fun k=>f k+(-1)*(cntT ls (S.take 0) k:Int)) (g:=f) (fun k _=>by unfold cntT;simp)] at this;exact this
def openV (ls:List qv)(lv:List Bool)(R:List Nat)(k:Nat):Int:=if k ∈ R then -1 else(inL ls lv ls.length R k:Int)
theorem qxB {R:List Nat}:ixL (fun y=>(0:Int)==y) (vecI (openV ls lv R) M)=match nxtL ls lv M R with|some k=>(k:Int)|none=>-1:=by
 rw[qAp];have:(fun k=>((0:Int)==openV ls lv R k))=freeN ls.length (frL ls) (toL ls) (lvL lv) R:=by
  funext k
  unfold openV freeN;by_cases hk:k ∈ R
  ·rw[if_pos hk];simp[hk]
  ·rw[if_neg hk];simp only[hk,decide_false,Bool.not_false,jx];by_cases h0:inL ls lv ls.length R k=0
   ·simp[h0]
   ·rw[show((0:Int)==((inL ls lv ls.length R k:Nat):Int))=false from beq_eq_false_iff_ne.2 (by omega)];simpa using h0
 rw[this]
 rfl
theorem qxs (h:LkOk ls M)(hl:lv.length=ls.length)(hM:M=2*ps.length):Ev (fun n=>qin n (grV ls lv ps b lo de ex)) (ordR ls lv M):=by
 have hm:=h.nodes;have hll:=h.len;have main:∀ m R,R.length+m=M→Closed ls.length (frL ls) (toL ls) (lvL lv) R→∃ y:List Int×List Int×Int,Ev (fun n=>qcd (grV ls lv ps b lo de ex) ⟨V ⟨b,ps,ls,lo,de,ex⟩,lv⟩ (vecI (fun _=>0) M) n (ints R) (vecI (openV ls lv R) M) (R.length:Int))
   (match ordL ls lv M m R with|some R'=>.nxt (ints R',y.2.1,y.2.2)|none=>.ret ([],false)):=by
  intro m
  induction m with
  | zero=>
   intro R hR _;refine⟨(ints R,vecI (openV ls lv R) M,(R.length:Int)),Ev.succ ?_⟩;simp only[qcd,qnj,ql (show M≤R.length by omega),cond_false];exact .done
  | succ m ih=>
   intro R hR hC;have hix:=quC (xs:=vecI (openV ls lv R) M) (by rw[qnj];omega);rw[qxB] at hix;cases hn:nxtL ls lv M R with
   | none=>
    rw[hn] at hix;rw[qx4 hn];refine⟨([],[],0),Ev.succ ?_⟩;simp only[qcd,qnj,qk (show R.length<M by omega),cond_true];exact Ev.bind hix (Ev.tt (by decide) .done)
   | some k=>
    rw[hn] at hix;rw[qxt hn];obtain⟨hk,hkR,h0⟩:=qqF hn;obtain⟨y,hy⟩:=ih (R++[k]) (by rw[jh,jt];omega) (hC.snoc h0);refine⟨y,Ev.succ ?_⟩;simp only[qcd,qnj,qk (show R.length<M by omega),cond_true];refine Ev.bind hix (Ev.ff (by simp) ?_);rw[qoz hk,qcS (by rw[qcF,jt];omega),qsT,←qlo];simp only[jd];refine Ev.bind (qAk h hl) ?_;have hsl:=qly (q:=fun x=>lvL lv x&&(frL ls x==(k:Int))) (j:=ls.length);refine Ev.bind (qyI h (fun x hx=>(qky.1 hx).1) (by omega) (fun i hi=>?_)) ?_
    ·split
     ·omega
     ·unfold openV;have:inL ls lv ls.length R i≤ls.length:=qAN;split<;>omega
    ·have e2:vecI (fun i=>(if i=k then -1 else openV ls lv R i)-(cntT ls (selN (fun x=>lvL lv x&&(frL ls x==(k:Int))) ls.length) i:Int)) M=vecI (openV ls lv (R++[k])) M:=by
      refine qfZ fun i _=>?_;have ec:cntT ls (selN (fun x=>lvL lv x&&(frL ls x==(k:Int))) ls.length) i=lkN ls.length (frL ls) (toL ls) (lvL lv) k i:=qyj;rw[ec];unfold openV;by_cases hiR:i ∈ R++[k]
      ·rw[if_pos hiR,hC.no_back hkR h0 hiR];rcases List.mem_append.1 hiR with h1|h1
       ·split
        ·rfl
        ·rfl
       ·rw[if_pos (List.mem_singleton.1 h1)];rfl
      ·have h1:i ∉ R:=fun e=>hiR (jS _ e);have h2:i ≠ k:=fun e=>hiR (List.mem_append_right _ (List.mem_singleton.2 e));rw[if_neg hiR,if_neg h2,if_neg h1];have:=qyn (L:=ls.length) (fr:=frL ls) (to:=toL ls) (lv:=lvL lv) (R:=R) (i:=k) (k:=i) hkR;show(inN _ _ _ _ R i:Int)-_=(inN _ _ _ _ (R++[k]) i:Int);omega
     rw[e2,qc9 (show R.length<9223372036854775807 by omega)];rw[jh,jt] at hy;exact hy
 have hup:=qA1 (b:=b) (ps:=ps) (lo:=lo) (de:=de) (ex:=ex) (lv:=lv) h (S:=selN (lvL lv) ls.length) (fun x hx=>(qky.1 hx).1) (by have:=qly (q:=lvL lv) (j:=ls.length);omega);have e0:vecI (fun k=>(cntT ls (selN (lvL lv) ls.length) k:Int)) M=vecI (openV ls lv []) M:=by
  refine qfZ fun k _=>?_;unfold openV;rw[if_neg (by simp)]
  congr 1
  show List.countP _ _=inN _ _ _ _ [] k;rw[qyj];unfold inN;exact qsN fun x _=>by simp[ints]
 rw[e0] at hup;obtain⟨y,hy⟩:=main M [] (by simp) Closed.nil;unfold qin;show Ev (fun n=>(V _).bind _) _;simp only[jd,qdi,qew];rw[qF (by omega) (by omega),show 2*(ps.length:Int)=(M:Int) by omega,qtP (by omega)];simp only[jd];refine Ev.bind (quv h hl) (Ev.bind hup (Ev.bind hy ?_));unfold ordR;cases ordL ls lv M M []<;>exact .done
end
end Go.Fw
