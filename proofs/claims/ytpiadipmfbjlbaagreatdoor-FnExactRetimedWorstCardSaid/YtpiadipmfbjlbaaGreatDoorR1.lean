/- By a program of mine (gen.py): for each function a plain function and the proof that the code computes it. -/
import Derived.Test.YtpiadipmfbjlbaaGreatDoorB9
import Derived.Test.YtpiadipmfbjlbaaGreatDoorFw38
open Option renaming bind_some->jd, some->V, none->U
open Nat renaming le_refl->je
open Bool renaming and_eq_true->jf, true_and->jG, not_true->Ji
open List renaming length_append->jg, length_singleton->jm, getElem_mem->jp, append_assoc->jq, take_succ_eq_append_getElem->js, length_map->ju, length_take->jw, getD_eq_getElem?_getD->jD, take_length->jE, length_replicate->jH, mem_append_left->jJ, map_append->jL, mem_append_right->jR, append_nil->jU, not_mem_nil->jV, mem_cons->Jf, flatMap_append->Jl, nil_append->Jm, ext_getElem->Jp
open Int renaming toNat_natCast->jr, mul_nonneg->jZ, le_refl->Jd, mul_le_mul->Jk

namespace Go.Fw
open Go Go.Proofs Go.Proofs.Tryz
open Go.RowKit (Below)
open Ch renaming own->oW,box->oX,grp->oG
open GoT renaming v->oV
open Go.Value renaming slice->oS
set_option maxRecDepth 100000
set_option maxHeartbeats 6400000
variable{n:Nat}{w:World}{cs1 cs2 cs3 cs4 cs5 cs6 cs7 cs8 cs9:List Value}
def qfK(_:Nat)(list:(List qx))(c:Int)(d:Int)(a:Int)(b:Int)(kind:Int)(index:Int):Option (List qx):=(appS list ([(⟨W64 ((W64 (2*c))+a),W64 ((W64 (2*d))+b),kind,index⟩:qx)]:List qx)).bind fun x1=>V x1
theorem qgm{n i w F}{list:(List qx)}{a_from a_to a b kind index S1 g d f}(h:SH i w (oW S1 (list:(List qx)) [oS g d f]::F))  {r:(List qx)}(l:qfK n list a_from a_to a b kind index=V r):RetT prog 179 [oS g d f,vi a_from,vi a_to,vi a,vi b,vi kind,vi index] w i F r:=by
 refine qrr func179 Z (m:=29) Z Z ?_;obtain rfl:=(h.sl 0 Z).2;refine X0 17 Z (r_v (qH qa [0,1,2,3] [.tmp 19,.tmp 23,.tmp 24,.tmp 25] Z Z Z Z Z Z Z Z) Z (qG qa [.tmp 26] _ ([(⟨W64 ((W64 (2*a_from))+a),W64 ((W64 (2*a_to))+b),kind,index⟩:qx)]:List qx) h Z Z Z Z Z Z Z Z Z ⟨(qch (⟨W64 ((W64 (2*a_from))+a),W64 ((W64 (2*a_to))+b),kind,index⟩:qx)),G⟩ Z fun _ _ _ h=>?_));obtain⟨_,c,l⟩:=qc l;obtain⟨k,c⟩:=qO c;refine qbW qa 1 h Z (h.sl 0 Z).1 (h.sl 0 Z).2 Z Z Z Z Z Z Z Z Z k c Z fun _ _ _ _ h=>X0 2 Z ?_;obtain rfl:=qb l;replace h:=h.pickT 2 [1] Z;exact qAl qa h ⟨rfl,G⟩
def qbf(i:qJ)(g:Int)(h:Int)(index:Int)(i1:Int):Nat->(List qx)->Int->Option ((List qx)×Int)|0,_,_=>U|n+1,b,a=>bif decide (a<=1) then bif (i.Bi==1) then(bif (i.Br==3) then V true else V ((i.Br==1)==(i1==a))).bind fun b1=>bif b1 then(qfK n b g h i1 a 1 index).bind fun c=>qbf i g h index i1 n c (W64 (a+1)) else qbf i g h index i1 n b (W64 (a+1)) else bif (i.Bi==2) then bif (i1==0) then(qfK n b g h i1 a 1 index).bind fun d=>qbf i g h index i1 n d (W64 (a+1)) else qbf i g h index i1 n b (W64 (a+1)) else bif (i.Bi==3) then bif (i1==1) then(qfK n b g h i1 a 1 index).bind fun f=>qbf i g h index i1 n f (W64 (a+1)) else qbf i g h index i1 n b (W64 (a+1)) else qbf i g h index i1 n b (W64 (a+1)) else V (b,a)
def qe8(d:qJ)(b:Int)(c:Int)(index:Int):Nat->(List qx)->Int->Option ((List qx)×Int)|0,_,_=>U|n+1,x1,i1=>bif decide (i1<=1) then(qbf d b c index i1 n x1 0).bind fun(a,_)=>qe8 d b c index n a (W64 (i1+1)) else V (x1,i1)
def qmn(n:Nat)(list:(List qx))(c:qJ)(a:Int)(b:Int)(index:Int):Option (List qx):=(qe8 c a b index n list 0).bind fun(x1,_)=>V x1
theorem qrB{n d w F}{list:(List qx)}{R:qJ}{a_from a_to index S1 O l L}(h:SH d w (oW S1 (list:(List qx)) [oS O l L]::F)){cs1}(y:GoT.R d (old d) R cs1){r:(List qx)}(Q:qmn n list R a_from a_to index=V r):RetT prog 175 [oS O l L,oV qJ cs1,vi a_from,vi a_to,vi index] w d F r:=by
 obtain⟨I,C,J,k3,rfl,_,_⟩:=qaj y;refine qrr func175 Z (m:=55) Z Z ?_;obtain rfl:=(h.sl 0 Z).2;refine zSR (qw h Z Z fun _ a h=>X0 7 Z ?_);obtain⟨P,Q,v⟩:=qc Q;refine qm (rL (fun m e w'=>∃S2 K b D x1 i1,qe8 R a_from a_to index m x1 i1=V P/\e=[(0,oS K b D),(2,vi a_from),(3,vi a_to),(4,vi index),(6,vp a),(11,vi i1)]/\SH d w' (oX a (qhH R I J C k3) 238::oW S2 (x1:List qx) [oS K b D]::F)) n ⟨_,_,_,_,_,_,Q,rfl,h⟩ Z ?_);rintro H _ _ ⟨S2,K,b,D,x1,i1,Q,rfl,h⟩;obtain rfl:=(h.sl 1 Z).2;rcases H with _|H
 ·cases Q
 refine X0 6 Z (qi Z Q ?_ ?_)<;>intro Q
 ·refine X0 7 Z ?_;obtain⟨N,Q,x⟩:=qc Q;refine qm (rL (fun m e w'=>∃u o c k f p,qbf R a_from a_to index i1 m f p=V N/\e=[(0,oS o c k),(2,vi a_from),(3,vi a_to),(4,vi index),(6,vp a),(11,vi i1),(12,vi p)]/\SH d w' (oX a (qhH R I J C k3) 238::oW u (f:List qx) [oS o c k]::F)) H ⟨_,_,_,_,_,_,Q,rfl,h⟩ Z ?_);rintro M _ _ ⟨u,o,c,k,f,p,Q,rfl,h⟩;obtain rfl:=(h.sl 1 Z).2;rcases M with _|M
  ·cases Q
  refine X0 6 Z (qi Z Q ?_ ?_)<;>intro Q
  ·refine X1 19 0 h Z (qi Z Q ?_ ?_)<;>intro Q
   ·obtain⟨s,i,_,Q,g⟩:=bindE Q;refine qa0 (fun e w'=>∃b1,s b1=V N/\e=[(0,oS o f.length k),(2,vi a_from),(3,vi a_to),(4,vi index),(6,vp a),(11,vi i1),(12,vi p),(13,.bool b1)]/\SH d w' (oX a (qhH R I J C k3) 238::oW u (f:List qx) [oS o f.length k]::F)) ?_ ?_
    ·refine X1 5 0 h Z (qn (t:=29) Q Z ?_ ?_)<;>intro Q
     ·refine X0 10 Z ?_;obtain rfl:=qb Q;exact rG ⟨_,g,rfl,h⟩ Z
     refine X1 17 0 h Z ?_;obtain rfl:=qb Q;exact rG ⟨_,g,rfl,h⟩ Z
    rintro _ _ ⟨b1,Q,rfl,h⟩;subst i;refine X0 5 Z (qi Z Q ?_ ?_)<;>intro Q
    ·refine X0 7 Z ?_;replace h:=h.pickT 2 [1,0] Z;obtain⟨_,z,Q⟩:=qc Q;refine qpg (cB 179 Z) (qgm h z) Z Z Z Z fun _ _ _ _ h=>X0 8 Z ?_;replace h:=h.pickT 2 [1,0] Z;exact rK ⟨_,_,_,_,_,_,Q,rfl,h⟩ Z
    exact X0 7 Z (rK ⟨_,_,_,_,_,_,Q,rfl,h⟩ Z)
   refine X0 5 Z (qi Z Q ?_ ?_)<;>intro Q
   ·refine X0 10 Z (qi Z Q ?_ ?_)<;>intro Q
    ·refine X0 7 Z ?_;replace h:=h.pickT 2 [1,0] Z;obtain⟨_,A,Q⟩:=qc Q;refine qpg (cB 179 Z) (qgm h A) Z Z Z Z fun _ _ _ _ h=>X0 8 Z ?_;replace h:=h.pickT 2 [1,0] Z;exact rK ⟨_,_,_,_,_,_,Q,rfl,h⟩ Z
    exact X0 7 Z (rK ⟨_,_,_,_,_,_,Q,rfl,h⟩ Z)
   refine X0 5 Z (qi Z Q ?_ ?_)<;>intro Q
   ·refine X0 10 Z (qi Z Q ?_ ?_)<;>intro Q
    ·refine X0 7 Z ?_;replace h:=h.pickT 2 [1,0] Z;obtain⟨_,B,Q⟩:=qc Q;refine qpg (cB 179 Z) (qgm h B) Z Z Z Z fun _ _ _ _ h=>X0 8 Z ?_;replace h:=h.pickT 2 [1,0] Z;exact rK ⟨_,_,_,_,_,_,Q,rfl,h⟩ Z
    exact X0 7 Z (rK ⟨_,_,_,_,_,_,Q,rfl,h⟩ Z)
   exact X0 6 Z (qcg Z Z (X0 7 Z (rK ⟨_,_,_,_,_,_,Q,rfl,h⟩ Z)))
  refine qt Z ?_;obtain rfl:=qb Q;replace Q:=x;exact X0 6 Z (rK ⟨_,_,_,_,_,_,Q,rfl,h⟩ Z)
 refine qt Z ?_;obtain rfl:=qb Q;replace Q:=v;refine X0 5 Z ?_;obtain rfl:=qb Q;replace h:=h.pickT 2 [1] Z;exact qAl qa h ⟨rfl,G⟩
def qei(d:Int)(pin:Int)(a:(List Tl05Place)):Nat->Int->Option (Flow Int Int)|0,_=>U|n+1,i1=>bif decide (i1<(a.length:Int)) then(idx a i1).bind fun b=>bif (b.instance_==d) then(idx a i1).bind fun c=>bif (c.pin==pin) then V (.ret i1) else qei d pin a n (W64 (i1+1)) else qei d pin a n (W64 (i1+1)) else V (.nxt i1)
def qjP(n:Nat)(d:qd)(b:Int)(pin:Int):Option Int:=(qcA n d).bind fun a=>(qei b pin a n 0).bind fun|.ret r=>V r|.nxt _=>V (-1)
theorem qn4{d:qd}{a_instance pin}(b:Ro w d cs1){r:Int}(F:qjP n d a_instance pin=V r):RetV prog 176 [oV qd cs1,vi a_instance,vi pin] w r:=by
 obtain⟨_,_,_,_,_,_,rfl,_,_,_⟩:=qaE b;refine zV 34 func176 Z fun h=>zSR (qw h Z Z fun _ _ h=>X1 5 0 h Z (zcL h F (qcu (h.old b)) Z fun g _ S1 z x h F=>X0 7 Z ?_));obtain⟨A,F,a⟩:=qc F;refine qm ?_;replace h:=h.p [0] Z;refine rL (fun m e w'=>∃i1,qei a_instance pin g m i1=V A/\e=[(1,vi a_instance),(2,vi pin),(7,oS z g.length x),(8,vi i1)]/\SH w w' [oW S1 (g:List Tl05Place) [oS z g.length x]]) n ⟨_,F,rfl,h⟩ Z ?_;rintro y _ _ ⟨i1,F,rfl,h⟩;rcases y with _|y
 ·cases F
 refine X0 8 Z (qi Z F ?_ ?_)<;>intro F
 ·refine X0 7 Z ?_;obtain⟨_,_,F,c,_,_,_,_,l,p,u,i⟩:=(h.sl 0 Z).1.ix F;obtain rfl:=qb5 u;refine zx l p ⟨c.1,qC c.2.1 (h.sl 0 Z).2⟩ Z (zp1 Z (zc 0 i Z (zp3 Z (qn (t:=24) F Z ?_ ?_))))<;>intro F
  ·refine X0 5 Z ?_;obtain⟨_,_,F,f,_,_,_,_,o,s,v,k⟩:=(h.sl 0 Z).1.ix F;obtain rfl:=qb5 v;refine zx o s ⟨f.1,qC f.2.1 (h.sl 0 Z).2⟩ Z (X0 3 Z (zc 1 k Z (X0 6 Z (qi Z F ?_ ?_))))<;>intro F
   ·refine X0 5 Z ?_;obtain rfl:=qb F;replace F:=a;exact ri h F Z
   exact X0 7 Z (rK ⟨_,F,rfl,h⟩ Z)
  exact X0 9 Z (qcg Z Z (X0 7 Z (rK ⟨_,F,rfl,h⟩ Z)))
 refine qt Z ?_;obtain rfl:=qb F;replace F:=a;exact X0 4 Z (ri h F Z)
def qc5(net:Int)(a:(List Tl05Place)):Nat->Int->Option (Flow Int Int)|0,_=>U|n+1,i1=>bif decide (i1<(a.length:Int)) then(idx a i1).bind fun b=>bif (b.net==net) then(idx a i1).bind fun c=>bif c.drives then V (.ret i1) else qc5 net a n (W64 (i1+1)) else qc5 net a n (W64 (i1+1)) else V (.nxt i1)
def qjB(n:Nat)(d:qd)(net:Int):Option Int:=(qcA n d).bind fun a=>(qc5 net a n 0).bind fun|.ret r=>V r|.nxt _=>V (-1)
theorem qp9{d:qd}{net}(b:Ro w d cs1){r:Int}(F:qjB n d net=V r):RetV prog 177 [oV qd cs1,vi net] w r:=by
 obtain⟨_,_,_,_,_,_,rfl,_,_,_⟩:=qaE b;refine zV 30 func177 Z fun h=>zSR (qw h Z Z fun _ _ h=>X1 5 0 h Z (zcL h F (qcu (h.old b)) Z fun g _ S1 z x h F=>X0 7 Z ?_));obtain⟨A,F,a⟩:=qc F;refine qm ?_;replace h:=h.p [0] Z;refine rL (fun m e w'=>∃i1,qc5 net g m i1=V A/\e=[(1,vi net),(5,oS z g.length x),(6,vi i1)]/\SH w w' [oW S1 (g:List Tl05Place) [oS z g.length x]]) n ⟨_,F,rfl,h⟩ Z ?_;rintro y _ _ ⟨i1,F,rfl,h⟩;rcases y with _|y
 ·cases F
 refine X0 8 Z (qi Z F ?_ ?_)<;>intro F
 ·refine X0 7 Z ?_;obtain⟨_,_,F,c,_,_,_,_,l,p,u,i⟩:=(h.sl 0 Z).1.ix F;obtain rfl:=qb5 u;refine zx l p ⟨c.1,qC c.2.1 (h.sl 0 Z).2⟩ Z (zp1 Z (zc 2 i Z (zp3 Z (qn (t:=22) F Z ?_ ?_))))<;>intro F
  ·refine X0 5 Z ?_;obtain⟨_,_,F,f,_,_,_,_,o,s,v,k⟩:=(h.sl 0 Z).1.ix F;obtain rfl:=qb5 v;refine zx o s ⟨f.1,qC f.2.1 (h.sl 0 Z).2⟩ Z (X0 3 Z (zc 3 k Z (X0 2 Z (qi Z F ?_ ?_))))<;>intro F
   ·refine X0 5 Z ?_;obtain rfl:=qb F;replace F:=a;exact ri h F Z
   exact X0 7 Z (rK ⟨_,F,rfl,h⟩ Z)
  exact X0 7 Z (qcg Z Z (X0 7 Z (rK ⟨_,F,rfl,h⟩ Z)))
 refine qt Z ?_;obtain rfl:=qb F;replace F:=a;exact X0 4 Z (ri h F Z)
def qcT(a:qh)(i1:Int)(c:qz):Nat->(List qx)->Int->Option ((List qx)×Int)|0,_,_=>U|n+1,d,b=>bif decide (b<(c.Bc.length:Int)) then(idx c.Bc b).bind fun i=>bif decide (i.Bi<=3) then(idx c.Bc b).bind fun k=>(idx c.Bc b).bind fun l=>(idx c.Bc b).bind fun m=>(qjP n (⟨a.Aa.Ab,a.Aa.As,a.Aa.Ak⟩:qd) i1 l.Bm).bind fun f=>(qjP n (⟨a.Aa.Ab,a.Aa.As,a.Aa.Ak⟩:qd) i1 m.To).bind fun g=>(qmn n d k f g b).bind fun h=>qcT a i1 c n h (W64 (b+1)) else qcT a i1 c n d (W64 (b+1)) else V (d,b)
def qdN(r4:Int)(b:(List Int)):Nat->(List qx)->Int->Option ((List qx)×Int)|0,_,_=>U|n+1,c,a=>bif decide (a<(b.length:Int)) then(idx b a).bind fun g=>(qfK n c r4 g 0 0 2 a).bind fun d=>(idx b a).bind fun h=>(qfK n d r4 h 1 1 2 a).bind fun f=>qdN r4 b n f (W64 (a+1)) else V (c,a)
def qdO(a:qh):Nat->(List qx)->Int->Option ((List qx)×Int)|0,_,_=>U|n+1,x3,b=>bif decide (b<(a.Aa.As.length:Int)) then(qjB n (⟨a.Aa.Ab,a.Aa.As,a.Aa.Ak⟩:qd) b).bind fun r4=>(qhg n (⟨a.Aa.Ab,a.Aa.As,a.Aa.Ak⟩:qd) b).bind fun c=>(qdN r4 c n x3 0).bind fun(d,_)=>qdO a n d (W64 (b+1)) else V (x3,b)
def qdy(a:qh):Nat->(List qx)->Int->Option ((List qx)×Int)|0,_,_=>U|n+1,x1,i1=>bif decide (i1<(a.Aa.Ab.length:Int)) then(idx a.Aa.Ab i1).bind fun c=>(idx a.Au.Ay c.Bv).bind fun d=>(qcT a i1 d n x1 0).bind fun(b,_)=>qdy a n b (W64 (i1+1)) else V (x1,i1)
def qfY(n:Nat)(a:qh):Option (List qx):=(qdy a n ([]:List qx) 0).bind fun(x1,_)=>(qdO a n x1 0).bind fun(x3,_)=>V x3
theorem qh7{a:qh}(W:Ro w a cs1){r:(List qx)}(F:qfY n a=V r):RetV prog 125 [oV qh cs1] w r:=by
 obtain⟨p1,k1,x,u,y,k3,z,v,p5,k5,rfl,s1,s2,N,O,_⟩:=qaf W;refine zV 105 func125 Z fun h=>zSR (qw h Z Z fun _ c h=>X0 4 Z (qG qa [] _ ([]:List qx) h Z Z Z Z Z Z Z Z Z trivial Z fun _ _ _ h=>X1 6 1 h Z (qq qa h Z Z Z fun _ b h=>zs 0 h Z fun _ h=>X0 6 Z ?_)));obtain⟨o1,F,Q⟩:=qc F;refine qm (rL (fun m e w'=>∃S2 p7 i k6 x1 i1,qdy a m x1 i1=V o1/\e=[(1,vp c),(3,oS p7 i k6),(4,vp b),(5,vi i1)]/\SH w w' [oX b (qaW a.Aa x y z u k3 v) 50,oW S2 (x1:List qx) [oS p7 i k6],oX c (qa8 a p1 x y z p5 k1 u k3 v k5) 53]) n ⟨_,_,_,_,_,_,F,rfl,h⟩ Z ?_);rintro m1 _ _ ⟨S2,p7,i,k6,x1,i1,F,rfl,h⟩;obtain rfl:=(h.sl 1 Z).2;rcases m1 with _|m1
 ·cases F
 refine X1 9 0 h Z (qi Z F ?_ ?_)<;>intro F
 ·refine X0 4 Z (rD (Y1 3 2 h Z ?_));refine Y1 2 0 h Z ?_;refine zd1 Z ?_;obtain⟨_,_,F,a7,_,_,_,_,b7,c5,d4,X⟩:=s2.ix F;obtain⟨_,_,rfl,_⟩:=qV d4;refine zdxe b7 c5 a7 Z (zd1 Z (zdc 1 (X.below h.below) Z ?_));obtain⟨y2,_,F,a8,_,_,_,_,b8,c6,d5,Y⟩:=s1.ix F;obtain⟨_,_,p10,k9,_,_,rfl,_,P,_⟩:=qag d5;refine zdxe b8 c6 a8 Z (zd1 Z (zdc 3 (Y.below h.below) Z (zd1 Z (dN h fun _ h=>X0 4 Z ?_))));obtain⟨o2,F,R⟩:=qc F;refine qm (rL (fun m e w'=>∃S3 p k d x2 i2,qcT a i1 y2 m x2 i2=V o2/\e=[(1,vp c),(3,oS p k d),(4,vp b),(5,vi i1),(6,oS p10 y2.Bc.length k9),(7,vi i2)]/\SH w w' [oX b (qaW a.Aa x y z u k3 v) 50,oW S3 (x2:List qx) [oS p k d],oX c (qa8 a p1 x y z p5 k1 u k3 v k5) 53]) m1 ⟨_,_,_,_,_,_,F,rfl,h⟩ Z ?_);rintro m2 _ _ ⟨S3,p,k,d,x2,i2,F,rfl,h⟩;obtain rfl:=(h.sl 1 Z).2;rcases m2 with _|m2
  ·cases F
  refine X0 8 Z (qi Z F ?_ ?_)<;>intro F
  ·refine X0 7 Z ?_;obtain⟨_,_,F,a9,_,_,_,_,b9,c7,d6,a3⟩:=P.ix F;obtain⟨_,_,_,_,rfl,_,_⟩:=qaj d6;refine zxe b9 c7 a9 Z (zp1 Z (zc 0 (a3.below h.below) Z (X0 2 Z (qi Z F ?_ ?_))))<;>intro F
   ·refine rA [] [0] h Z fun _ h=>M0 7 [0,1,2] (h.p [0] Z) Z ?_;obtain⟨y4,_,F,b4,_,_,_,_,c0,c8,d7,a4⟩:=P.ix F;obtain⟨_,_,_,_,rfl,s12,s13⟩:=qaj d7;refine Ae 3 15 c0 c8 b4 (h.p [0] Z) Z (Al 4 31 0 a4 (h.p [0] Z) Z (M1 511 [5,6,7,8] 0 (h.p [0] Z) Z ?_));obtain⟨_,_,F,b5,_,_,_,_,c1,c9,d8,a5⟩:=P.ix F;obtain⟨_,_,_,_,rfl,_,_⟩:=qaj d8;refine Ae 9 1023 c1 c9 b5 (h.p [0] Z) Z (M0 2047 [10] (h.p [0] Z) Z (Al 11 4095 1 a5 (h.p [0] Z) Z (M1 126975 [13,14,15,16] 0 (h.p [0] Z) Z ?_)));obtain⟨_,_,F,b6,_,_,_,_,c2,d0,d9,a6⟩:=P.ix F;obtain⟨_,_,_,_,rfl,_,_⟩:=qaj d9;refine Ae 17 258047 c2 d0 b6 (h.p [0] Z) Z (M0 520191 [18] (h.p [0] Z) Z (Al 19 1044479 2 a6 (h.p [0] Z) Z (M0 3141631 [21] (h.p [0] Z) Z (Ao 12 3145727 Z (zcI h F (qn4 (qaC _ (h.oldS s2) (h.oldS N) (h.oldS O))) Z fun _ _ h F=>Ag (h.p [0] Z) (Ao 20 4194303 Z (zcI h F (qn4 (qaC _ (h.oldS s2) (h.oldS N) (h.oldS O))) Z fun _ _ h F=>Ag (h.p [0] Z) (Ao 22 8388607 Z ?_))))))));replace h:=h.p [1,0,2] Z;obtain⟨_,e2,F⟩:=qc F;refine qpg (cB 175 Z) (qrB h (qgb y4 s12 s13) e2) Z Z Z Z fun _ _ _ _ h=>G0 16777215 [23] (h.p [1] Z) Z (Ad (X0 6 Z ?_));replace h:=h.p [1,0,2] Z;exact rK ⟨_,_,_,_,_,_,F,rfl,h⟩ Z
   exact X0 7 Z (rK ⟨_,_,_,_,_,_,F,rfl,h⟩ Z)
  refine qt Z ?_;obtain rfl:=qb F;replace F:=R;exact X0 6 Z (rK ⟨_,_,_,_,_,_,F,rfl,h⟩ Z)
 refine qt Z ?_;obtain rfl:=qb F;replace F:=Q;refine X0 5 Z ?_;obtain⟨o3,F,S⟩:=qc F;refine qm ?_;replace h:=h.p [0,1] Z;refine rL (fun m e w'=>∃S5 s l f x3 L,qdO a m x3 L=V o3/\e=[(3,oS s l f),(4,vp b),(8,vi L)]/\SH w w' [oX b (qaW a.Aa x y z u k3 v) 50,oW S5 (x3:List qx) [oS s l f]]) n ⟨_,_,_,_,_,_,F,rfl,h⟩ Z ?_;rintro m3 _ _ ⟨S5,s,l,f,x3,L,F,rfl,h⟩;obtain rfl:=(h.sl 1 Z).2;rcases m3 with _|m3
 ·cases F
 refine X1 9 0 h Z (qi Z F ?_ ?_)<;>intro F
 ·refine X1 7 0 h Z (zcI h F (qp9 (qaC _ (h.oldS s2) (h.oldS N) (h.oldS O))) Z fun r4 _ h F=>X1 6 0 h Z (zcL h F (qjY (qaC _ (h.oldS s2) (h.oldS N) (h.oldS O))) Z fun M _ S6 K J h F=>X0 6 Z ?_));obtain⟨o4,F,T⟩:=qc F;refine qm (rL (fun m e w'=>∃S7 t o g x4 i4,qdN r4 M m x4 i4=V o4/\e=[(3,oS t o g),(4,vp b),(8,vi L),(9,vi r4),(10,oS K M.length J),(11,vi i4)]/\SH w w' [oW S6 (M:List Int) [oS K M.length J],oX b (qaW a.Aa x y z u k3 v) 50,oW S7 (x4:List qx) [oS t o g]]) m3 ⟨_,_,_,_,_,_,F,rfl,h⟩ Z ?_);rintro m4 _ _ ⟨S7,t,o,g,x4,i4,F,rfl,h⟩;obtain rfl:=(h.sl 2 Z).2;rcases m4 with _|m4
  ·cases F
  refine X0 8 Z (qi Z F ?_ ?_)<;>intro F
  ·refine X0 9 Z ?_;obtain⟨_,_,F,C,_,_,_,_,c3,d1,rfl,A⟩:=(h.sl 0 Z).1.ix F;refine zx c3 d1 ⟨C.1,qC C.2.1 (h.sl 0 Z).2⟩ Z (zc 0 A Z (zp1 Z ?_));replace h:=h.p [2,0,1] Z;obtain⟨_,H,F⟩:=qc F;refine qpg (cB 179 Z) (qgm h H) Z Z Z Z fun _ _ _ _ h=>X0 7 Z ?_;obtain⟨_,_,F,D,_,_,_,_,c4,d3,rfl,B⟩:=(h.sl 1 Z).1.ix F;refine zx c4 d3 ⟨D.1,qC D.2.1 (h.sl 1 Z).2⟩ Z (zc 0 B Z (zp1 Z ?_));obtain⟨_,I,F⟩:=qc F;refine qpg (cB 179 Z) (qgm h I) Z Z Z Z fun _ _ _ _ h=>X0 8 Z ?_;replace h:=h.p [1,2,0] Z;exact rK ⟨_,_,_,_,_,_,F,rfl,h⟩ Z
  refine qt Z ?_;obtain rfl:=qb F;replace F:=T;refine X0 6 Z ?_;replace h:=h.p [1,2] Z;exact rK ⟨_,_,_,_,_,_,F,rfl,h⟩ Z
 refine qt Z ?_;obtain rfl:=qb F;replace F:=S;refine X0 5 Z ?_;obtain rfl:=qb F;exact rO 1 h Z ⟨rfl,G⟩
def qcq(list:(List Int))(f:Int):Nat->Int->Option (Flow Bool Int)|0,_=>U|n+1,i1=>bif decide (i1<(list.length:Int)) then(idx list i1).bind fun b=>(qav n b 0 (W64 (f-1))).bind fun a=>bif (!a) then V (.ret false) else bif decide (i1 > 0) then(idx list (W64 (i1-1))).bind fun c=>(idx list i1).bind fun d=>bif decide (c>=d) then V (.ret false) else qcq list f n (W64 (i1+1)) else qcq list f n (W64 (i1+1)) else V (.nxt i1)
def qjK(n:Nat)(list:(List Int))(a:Int):Option Bool:=(qcq list a n 0).bind fun|.ret r=>V r|.nxt _=>V true
theorem qqu{list:(List Int)}{a_n}(b:Ro w list cs1){r:Bool}(F:qjK n list a_n=V r):RetV prog 273 [oV (List Int) cs1,vi a_n] w r:=by
 obtain⟨C,A,rfl,y⟩:=b;refine zV 36 func273 Z fun h=>X0 9 Z ?_;obtain⟨B,F,a⟩:=qc F;refine qm (rL (fun m e w'=>∃i1,qcq list a_n m i1=V B/\e=[(0,oS C list.length A),(1,vi a_n),(5,vi i1)]/\SH w w' []) n ⟨_,F,rfl,h⟩ Z ?_);rintro z _ _ ⟨i1,F,rfl,h⟩;rcases z with _|z
 ·cases F
 refine X0 8 Z (qi Z F ?_ ?_)<;>intro F
 ·refine X0 4 Z (rD (zd2 Z ?_));obtain⟨_,_,F,g,_,_,_,_,l,s,rfl,c⟩:=y.ix F;refine zdxe l s g Z (zdc 0 (c.below h.below) Z (zd2 Z ?_));obtain⟨D,x,F⟩:=qc F;refine qa5 D (vsB _) (cB 43 Z) (fun _ H=>qah  x) Z Z Z Z (zd2 Z (qaX (t:=20) F Z ?_ ?_))<;>intro F
  ·refine Y0 15 Z (dN h fun _ h=>qcs Z Z (X0 4 Z ?_));obtain rfl:=qb F;replace F:=a;exact rb h F Z
  refine Y0 6 Z (qaX (t:=23) F Z ?_ ?_)<;>intro F
  ·refine Y0 7 Z ?_;obtain⟨_,_,F,i,_,_,_,_,o,u,rfl,d⟩:=y.ix F;refine zdxe o u i Z (Y0 1 Z (zdc 0 (d.below h.below) Z (Y0 5 Z ?_)));obtain⟨_,_,F,k,_,_,_,_,p,v,rfl,f⟩:=y.ix F;refine zdxe p v k Z (Y0 1 Z (zdc 0 (f.below h.below) Z (Y0 5 Z (dN h fun _ h=>qi Z F ?_ ?_))))<;>intro F
   ·refine X0 4 Z ?_;obtain rfl:=qb F;replace F:=a;exact rb h F Z
   exact X0 7 Z (rK ⟨_,F,rfl,h⟩ Z)
  exact Y0 13 Z (dN h fun _ h=>qcg Z Z (X0 7 Z (rK ⟨_,F,rfl,h⟩ Z)))
 refine qt Z ?_;obtain rfl:=qb F;replace F:=a;exact X0 4 Z (rb h F Z)
def qik(n:Nat)(b:qh)(f:(List Int)):Option Int:=(qim n b).bind fun a=>bif (!a) then V 1 else(qfY n b).bind fun c=>(qjK n f (c.length:Int)).bind fun d=>bif (!d) then V 2 else V 0
theorem qn1{b:qh}{f:(List Int)}(a:Ro w b cs1)(c:Ro w f cs2){r:Int}(F:qik n b f=V r):RetV prog 233 [oV qh cs1,oV (List Int) cs2] w r:=by
 obtain⟨_,_,_,_,_,_,_,_,_,_,rfl,_,_,_,_,_⟩:=qaf a;obtain⟨_,_,rfl,d⟩:=c;refine zV 14 func233 Z fun h=>zSR (qw h Z Z fun _ _ h=>X1 6 0 h Z (zcB h F (qob (h.old a)) Z fun _ _ h F=>X0 2 Z (qi Z F ?_ ?_)))<;>intro F
 ·exact X0 4 Z (ri h F Z)
 refine X1 6 0 h Z (zcL h F (qh7 (h.old a)) Z fun _ _ _ _ _ h F=>zp1 Z (zcB h F (qqu ⟨_,_,rfl,(h.oldS d)⟩) Z fun _ _ h F=>X0 2 Z (qi Z F ?_ ?_)))<;>intro F
 ·exact X0 4 Z (ri h F Z)
 exact X0 5 Z (ri h F Z)
def qfy(_:Nat)(a:qJ):Option (List qT):=bif (a.Bi==2) then V ([(⟨0,0⟩:qT),(⟨0,1⟩:qT)]:List qT) else bif (a.Bi==3) then V ([(⟨1,0⟩:qT),(⟨1,1⟩:qT)]:List qT) else bif (a.Bi != 1) then V [] else bif (a.Br==1) then V ([(⟨0,0⟩:qT),(⟨1,1⟩:qT)]:List qT) else bif (a.Br==2) then V ([(⟨0,1⟩:qT),(⟨1,0⟩:qT)]:List qT) else V ([(⟨0,0⟩:qT),(⟨0,1⟩:qT),(⟨1,0⟩:qT),(⟨1,1⟩:qT)]:List qT)
theorem qm9{a:qJ}(b:Ro w a cs1){r:(List qT)}(F:qfy n a=V r):RetV prog 259 [oV qJ cs1] w r:=by
 obtain⟨_,_,_,_,rfl,_,_⟩:=qaj b;refine zV 44 func259 Z fun h=>zSR (qw h Z Z fun _ _ h=>X0 4 Z (r_v (qgU qa [0,1] [.const (vi (0)),.const (vi (0))] Z Z Z Z Z Z Z Z Z) Z (r_v (qgU qa [0,1] [.const (vi (1)),.const (vi (1))] Z Z Z Z Z Z Z Z Z) Z (qG qa [.tmp 5,.tmp 6] _ ([(⟨0,0⟩:qT),(⟨1,1⟩:qT)]:List qT) h Z Z Z Z Z Z Z Z Z ⟨(qdm (⟨0,0⟩:qT)),(qdm (⟨1,1⟩:qT)),G⟩ Z fun _ _ _ h=>X0 4 Z (r_v (qgU qa [0,1] [.const (vi (0)),.const (vi (1))] Z Z Z Z Z Z Z Z Z) Z (r_v (qgU qa [0,1] [.const (vi (1)),.const (vi (0))] Z Z Z Z Z Z Z Z Z) Z (qG qa [.tmp 8,.tmp 9] _ ([(⟨0,1⟩:qT),(⟨1,0⟩:qT)]:List qT) h Z Z Z Z Z Z Z Z Z ⟨(qdm (⟨0,1⟩:qT)),(qdm (⟨1,0⟩:qT)),G⟩ Z fun _ _ _ h=>X1 11 2 h Z (qi Z F ?_ ?_))))))))<;>intro F
 ·refine zSR (r_v (qgU qa [0,1] [.const (vi (0)),.const (vi (0))] Z Z Z Z Z Z Z Z Z) Z (r_v (qgU qa [0,1] [.const (vi (0)),.const (vi (1))] Z Z Z Z Z Z Z Z Z) Z (qG qa [.tmp 15,.tmp 16] _ ([(⟨0,0⟩:qT),(⟨0,1⟩:qT)]:List qT) h Z Z Z Z Z Z Z Z Z ⟨(qdm (⟨0,0⟩:qT)),(qdm (⟨0,1⟩:qT)),G⟩ Z fun _ _ _ h=>X0 2 Z ?_)));obtain rfl:=qb F;exact rO 0 h Z ⟨rfl,G⟩
 refine X1 7 2 h Z (qi Z F ?_ ?_)<;>intro F
 ·refine zSR (r_v (qgU qa [0,1] [.const (vi (1)),.const (vi (0))] Z Z Z Z Z Z Z Z Z) Z (r_v (qgU qa [0,1] [.const (vi (1)),.const (vi (1))] Z Z Z Z Z Z Z Z Z) Z (qG qa [.tmp 22,.tmp 23] _ ([(⟨1,0⟩:qT),(⟨1,1⟩:qT)]:List qT) h Z Z Z Z Z Z Z Z Z ⟨(qdm (⟨1,0⟩:qT)),(qdm (⟨1,1⟩:qT)),G⟩ Z fun _ _ _ h=>X0 2 Z ?_)));obtain rfl:=qb F;exact rO 0 h Z ⟨rfl,G⟩
 refine X1 7 2 h Z (qi Z F ?_ ?_)<;>intro F
 ·refine X0 4 Z ?_;obtain rfl:=qb F;exact qac qa (ρ:=(List qT)) [oV (List qT) [oS U 0 0]] h ⟨rfl,G⟩ (PV.done h (qae qhl))
 refine X1 7 2 h Z (qi Z F ?_ ?_)<;>intro F
 ·refine X0 5 Z ?_;obtain rfl:=qb F;exact rO 1 h Z ⟨rfl,G⟩
 refine X1 7 2 h Z (qi Z F ?_ ?_)<;>intro F
 ·refine X0 5 Z ?_;obtain rfl:=qb F;exact rO 0 h Z ⟨rfl,G⟩
 refine X0 4 Z (r_v (qgU qa [0,1] [.const (vi (0)),.const (vi (0))] Z Z Z Z Z Z Z Z Z) Z (r_v (qgU qa [0,1] [.const (vi (0)),.const (vi (1))] Z Z Z Z Z Z Z Z Z) Z (r_v (qgU qa [0,1] [.const (vi (1)),.const (vi (0))] Z Z Z Z Z Z Z Z Z) Z (r_v (qgU qa [0,1] [.const (vi (1)),.const (vi (1))] Z Z Z Z Z Z Z Z Z) Z (qG qa [.tmp 39,.tmp 40,.tmp 41,.tmp 42] _ ([(⟨0,0⟩:qT),(⟨0,1⟩:qT),(⟨1,0⟩:qT),(⟨1,1⟩:qT)]:List qT) h Z Z Z Z Z Z Z Z Z ⟨(qdm (⟨0,0⟩:qT)),(qdm (⟨0,1⟩:qT)),(qdm (⟨1,0⟩:qT)),(qdm (⟨1,1⟩:qT)),G⟩ Z fun _ _ _ h=>X0 2 Z ?_)))));obtain rfl:=qb F;exact rO 0 h Z ⟨rfl,G⟩
def qbz(first:Int)(i1:Int)(c:qJ)(b:(List qT)):Nat->(List qx)->Int->Option ((List qx)×Int)|0,_,_=>U|n+1,d,a=>bif decide (a<(b.length:Int)) then(idx b a).bind fun f=>(appS d ([(⟨W64 ((W64 (2*(W64 (first+c.Bm))))+f.e0),W64 ((W64 (2*(W64 (first+c.To))))+f.e1),1,i1⟩:qx)]:List qx)).bind fun x3=>qbz first i1 c b n x3 (W64 (a+1)) else V (d,a)
def qbs(first:Int)(a:qz):Nat->(List qx)->Int->Option ((List qx)×Int)|0,_,_=>U|n+1,x1,i1=>bif decide (i1<(a.Bc.length:Int)) then(idx a.Bc i1).bind fun b=>(qfy n b).bind fun c=>(qbz first i1 b c n x1 0).bind fun(d,_)=>qbs first a n d (W64 (i1+1)) else V (x1,i1)
def qfw(n:Nat)(b:qh)(x:ql)(first:Int):Option (List qx):=(idx b.Au.Ay x.Bv).bind fun a=>(qbs first a n ([]:List qx) 0).bind fun(x1,_)=>V x1
theorem qm6{b:qh}{x:ql}{first}(B:Ro w b cs1)(C:Ro w x cs2){r:(List qx)}(F:qfw n b x first=V r):RetV prog 207 [oV qh cs1,oV ql cs2,vi first] w r:=by
 obtain⟨_,_,_,_,_,_,_,_,_,_,rfl,s1,_,_,_,_⟩:=qaf B;obtain⟨_,_,rfl,_⟩:=qV C;refine zV 57 func207 Z fun h=>zSR (qw h Z Z fun _ _ h=>qw h Z Z fun _ _ h=>X2 14 1 0 h Z ?_);obtain⟨v,_,F,J,_,_,_,_,L,O,R,D⟩:=s1.ix F;obtain⟨_,_,p8,k8,_,_,rfl,_,s8,_⟩:=qag R;refine zxe L O J Z (zp1 Z (zc 3 (D.below h.below) Z (X0 3 Z ?_)));replace h:=h.nil (α:=qx);obtain⟨o1,F,z⟩:=qc F;refine qm ?_;replace h:=h.p [0] Z;refine rL (fun m e w'=>∃S1 i f c x1 i1,qbs first v m x1 i1=V o1/\e=[(2,vi first),(7,oS i f c),(19,oS p8 v.Bc.length k8),(20,vi (v.Bc.length:Int)),(21,vi i1)]/\SH w w' [oW S1 (x1:List qx) [oS i f c]]) n ⟨_,_,_,_,_,_,F,rfl,h⟩ Z ?_;rintro m1 _ _ ⟨S1,i,f,c,x1,i1,F,rfl,h⟩;obtain rfl:=(h.sl 0 Z).2;rcases m1 with _|m1
 ·cases F
 refine X0 5 Z (qi Z F ?_ ?_)<;>intro F
 ·refine X0 6 Z ?_;obtain⟨l,_,F,K,_,_,_,_,M,P,S,H⟩:=s8.ix F;obtain⟨p11,X,p12,Y,rfl,s10,s11⟩:=qaj S;refine zxe M P K Z (zc 0 (H.below h.below) Z (qq qa h Z Z Z fun _ o h=>zp1 Z (zs 0 h Z fun _ h=>X1 4 0 h Z (zcL h F (qm9 (qgb l (h.oldS s10) (h.oldS s11))) Z fun u _ S2 t s h F=>X0 3 Z ?_))));obtain⟨o2,F,A⟩:=qc F;refine qm (rL (fun m e w'=>∃S3 k g d x2 W,qbz first i1 l u m x2 W=V o2/\e=[(2,vi first),(7,oS k g d),(8,vi i1),(9,vp o),(19,oS p8 v.Bc.length k8),(20,vi (v.Bc.length:Int)),(21,vi i1),(27,oS t u.length s),(28,vi (u.length:Int)),(29,vi W)]/\SH w w' [oW S2 (u:List qT) [oS t u.length s],oX o (qhH l p11 p12 X Y) 238,oW S3 (x2:List qx) [oS k g d]]) m1 ⟨_,_,_,_,_,_,F,rfl,h⟩ Z ?_);rintro m2 _ _ ⟨S3,k,g,d,x2,W,F,rfl,h⟩;obtain rfl:=(h.sl 2 Z).2;rcases m2 with _|m2
  ·cases F
  refine X0 5 Z (qi Z F ?_ ?_)<;>intro F
  ·refine zKSBSR ?_;obtain⟨y,_,F,p,_,_,_,_,N,Q,T,I⟩:=(h.sl 0 Z).1.ix F;obtain rfl:=qu4 T;refine zx N Q ⟨p.1,qC p.2.1 (h.sl 0 Z).2⟩ Z (zc 0 I Z (qq qa h Z Z Z fun _ _ h=>zs 0 h Z fun _ h=>X1 8 2 h Z (r_v (qBE (iv:=0) qa Z Z (by decide) ⟨rfl,rfl⟩ Z Z) Z (X2 7 0 2 h Z (r_v (qBE (iv:=1) qa Z Z (by decide) ⟨rfl,rfl⟩ Z Z) Z (X1 3 0 h Z (r_v (qH qa [0,1,2,3] [.tmp 41,.tmp 49,.const (vi (1)),.tmp 50] Z Z Z Z Z Z Z Z) Z (qG qa [.tmp 51] _ ([(⟨W64 ((W64 (2*(W64 (first+l.Bm))))+y.e0),W64 ((W64 (2*(W64 (first+l.To))))+y.e1),1,i1⟩:qx)]:List qx) h Z Z Z Z Z Z Z Z Z ⟨(qch (⟨W64 ((W64 (2*(W64 (first+l.Bm))))+y.e0),W64 ((W64 (2*(W64 (first+l.To))))+y.e1),1,i1⟩:qx)),G⟩ Z fun _ _ _ h=>?_))))))));obtain⟨_,a,F⟩:=qc F;obtain⟨g1,a⟩:=qO a;refine qbW qa 4 h Z (h.sl 0 Z).1 (h.sl 0 Z).2 Z Z Z Z Z Z Z Z Z g1 a Z fun _ _ _ _ h=>X0 7 Z ?_;replace h:=h.p [2,3,4] Z;exact rK ⟨_,_,_,_,_,_,F,rfl,h⟩ Z
  refine qt Z ?_;obtain rfl:=qb F;replace F:=A;refine X0 5 Z ?_;replace h:=h.p [2] Z;exact rK ⟨_,_,_,_,_,_,F,rfl,h⟩ Z
 refine qt Z ?_;obtain rfl:=qb F;replace F:=z;refine X0 5 Z ?_;obtain rfl:=qb F;exact rO 0 h Z ⟨rfl,G⟩
def qdB(_:Nat)(s:(List Int)):Option (List Int):=appS ([]:List Int) s
theorem qfi{s:(List Int)}(b:Ro w s cs1){r:(List Int)}(F:qdB n s=V r):RetV prog 86 [oV (List Int) cs1] w r:=by
 obtain⟨p,k,rfl,c⟩:=b;obtain⟨d,i⟩:=qO (show appS ([]:List Int) s=V r from F);cases p with
 |none=>
  obtain rfl:=qvB c;obtain rfl:[]=r:=i;exact zV 8 func86 Z fun h=>X0 8 Z (r_v (qv1 qa Z Z Z Z Z) Z (qan (qcs Z Z (X0 4 Z (qac qa (ρ:=(List Int)) [oV (List Int) [oS U 0 0]] h ⟨rfl,G⟩ (PV.done h (qae qhl)))))))
 |some a=>
  refine zV 8 func86 Z fun h=>X0 8 Z (r_v (qv1 qa Z Z Z Z Z) Z (qan (qcg Z Z (zKSR (qG qa [] _ ([]:List Int) h Z Z Z Z Z Z Z Z Z trivial Z fun _ _ _ h=>zp1 Z (qxR qa 0 h Z (h.oldS c) Z Z Z Z Z Z Z Z Z Z d Z fun _ g f _ h=>?_))))));rw[i] at h;exact X0 2 Z (qac qa (ρ:=(List Int)) [oV (List Int) [oS g (([]:List Int).length+s.length) f]] h ⟨rfl,G⟩ (PV.done h (qae (qab 0 h Z))))
def qbd(net:Int)(a:(List Tplace)):Nat->(List Int)->Int->Option ((List Int)×Int)|0,_,_=>U|n+1,x1,i1=>bif decide (i1<(a.length:Int)) then(idx a i1).bind fun b=>bif (b.net==net) then bif (!b.drives) then(appS x1 ([i1]:List Int)).bind fun c=>qbd net a n c (W64 (i1+1)) else qbd net a n x1 (W64 (i1+1)) else qbd net a n x1 (W64 (i1+1)) else V (x1,i1)
def qhw(n:Nat)(d:qd)(net:Int):Option (List Int):=(qcJ n d).bind fun a=>(qbd net a n ([]:List Int) 0).bind fun(x1,_)=>V x1
theorem qoy{d:qd}{net}(c:Ro w d cs1){r:(List Int)}(F:qhw n d net=V r):RetV prog 260 [oV qd cs1,vi net] w r:=by
 obtain⟨_,_,_,_,_,_,rfl,_,_,_⟩:=qaE c;refine zV 31 func260 Z fun h=>zSR (qw h Z Z fun _ _ h=>X1 10 0 h Z (zcL h F (qff (h.old c)) Z fun g _ S1 y v h F=>X0 3 Z ?_));replace h:=h.nil (α:=Int);obtain⟨A,F,i⟩:=qc F;refine qm ?_;replace h:=h.p [0,1] Z;refine rL (fun m e w'=>∃S2 u b s x1 i1,qbd net g m x1 i1=V A/\e=[(1,vi net),(5,oS u b s),(9,oS y g.length v),(10,vi (g.length:Int)),(11,vi i1)]/\SH w w' [oW S2 (x1:List Int) [oS u b s],oW S1 (g:List Tplace) [oS y g.length v]]) n ⟨_,_,_,_,_,_,F,rfl,h⟩ Z ?_;rintro x _ _ ⟨S2,u,b,s,x1,i1,F,rfl,h⟩;obtain rfl:=(h.sl 0 Z).2;rcases x with _|x
 ·cases F
 refine X0 5 Z (qi Z F ?_ ?_)<;>intro F
 ·refine X0 6 Z ?_;obtain⟨_,_,F,f,_,_,_,_,l,o,p,k⟩:=(h.sl 1 Z).1.ix F;obtain rfl:=qhT p;refine zx l o ⟨f.1,qC f.2.1 (h.sl 1 Z).2⟩ Z (zc 0 k Z (qq qa h Z Z Z fun _ _ h=>zp1 Z (zs 0 h Z fun _ h=>X1 8 0 h Z (qn (t:=20) F Z ?_ ?_))))<;>intro F
  ·refine X1 8 0 h Z (qi Z F ?_ ?_)<;>intro F
   ·refine X0 3 Z (qG qa [.tmp 26] _ ([i1]:List Int) h Z Z Z Z Z Z Z Z Z ⟨rfl,G⟩ Z fun _ _ _ h=>?_);obtain⟨_,a,F⟩:=qc F;obtain⟨z,a⟩:=qO a;refine qbW qa 2 h Z (h.sl 0 Z).1 (h.sl 0 Z).2 Z Z Z Z Z Z Z Z Z z a Z fun _ _ _ _ h=>X0 7 Z ?_;replace h:=h.p [2,3] Z;exact rK ⟨_,_,_,_,_,_,F,rfl,h⟩ Z
   refine X0 6 Z ?_;replace h:=h.p [1,2] Z;exact rK ⟨_,_,_,_,_,_,F,rfl,h⟩ Z
  refine X0 5 Z (qcg Z Z (X0 6 Z ?_));replace h:=h.p [1,2] Z;exact rK ⟨_,_,_,_,_,_,F,rfl,h⟩ Z
 refine qt Z ?_;obtain rfl:=qb F;replace F:=i;refine X0 5 Z ?_;obtain rfl:=qb F;exact rO 0 h Z ⟨rfl,G⟩
def qhr(_:Nat)(d:qd)(l:qp)(p:Tplace):Option Int:=bif decide (p.instance_<0) then V 0 else(idx d.Ab p.instance_).bind fun a=>(idx l.Ay a.Bv).bind fun b=>(idx b.Bh p.pin).bind fun c=>V c.Bu
theorem qoo{d:qd}{l:qp}{p:Tplace}(a:Ro w d cs1)(b:Ro w l cs2)(c:Ro w p cs3){r:Int}(F:qhr n d l p=V r):RetV prog 261 [oV qd cs1,oV qp cs2,oV Tplace cs3] w r:=by
 obtain⟨_,_,_,_,_,_,rfl,C,_,_⟩:=qaE a;obtain⟨_,_,rfl,D⟩:=qbN b;obtain rfl:=qhT c;refine zV 27 func261 Z fun h=>zSR (qw h Z Z fun _ _ h=>qw h Z Z fun _ _ h=>qw h Z Z fun _ _ h=>X1 9 0 h Z (qi Z F ?_ ?_))<;>intro F
 ·exact X0 4 Z (ri h F Z)
 refine zKS (rD (Y1 2 1 h Z ?_));refine Y1 2 2 h Z ?_;refine Y1 2 0 h Z ?_;obtain⟨_,_,F,k,_,_,_,_,s,v,z,f⟩:=C.ix F;obtain⟨_,_,rfl,_⟩:=qV z;refine zdxe s v k Z (zd1 Z (zdc 1 (f.below h.below) Z ?_));obtain⟨_,_,F,m,_,_,_,_,t,x,A,g⟩:=D.ix F;obtain⟨_,_,_,_,_,_,rfl,H,_,_⟩:=qag A;refine zdxe t x m Z (zd1 Z (zdc 2 (g.below h.below) Z (Y1 2 0 h Z ?_)));obtain⟨_,_,F,o,_,_,_,_,u,y,B,i⟩:=H.ix F;obtain rfl:=qa2 B;exact zdxe u y o Z (zd1 Z (zdc 2 (i.below h.below) Z (zd1 Z (dN h fun _ h=>ri h F Z))))
def qbt(d:qE):Nat->(List Int)->Int->Option ((List Int)×Int)|0,_,_=>U|n+1,b,a=>bif decide (a > 0) then(idx d.Az a).bind fun c=>(idx b c).bind fun f=>(idx b a).bind fun g=>(idx b c).bind fun _=>qbt d n (setS b c (W64 (f+g))) (W64 (a-1)) else V (b,a)
def qbx(a:qh)(f:qE)(d:(List Tplace))(b:(List Int)):Nat->(List Int)->Int->Option ((List Int)×Int)|0,_,_=>U|n+1,x1,i1=>bif decide (i1<(b.length:Int)) then(idx b i1).bind fun g=>(idx f.Bn i1).bind fun c=>(idx x1 c).bind fun h=>(idx d g).bind fun i=>(qhr n (⟨a.Aa.Ab,a.Aa.As,a.Aa.Ak⟩:qd) (⟨a.Au.Ay⟩:qp) i).bind fun r4=>(idx x1 c).bind fun _=>qbx a f d b n (setS x1 c (W64 (h+r4))) (W64 (i1+1)) else V (x1,i1)
def qdY(n:Nat)(a:qh)(b:Int):Option (List Int):=(idx a.Ai b).bind fun c=>(qdB n c.Bu).bind fun d=>(qcJ n (⟨a.Aa.Ab,a.Aa.As,a.Aa.Ak⟩:qd)).bind fun f=>(qhw n (⟨a.Aa.Ab,a.Aa.As,a.Aa.Ak⟩:qd) b).bind fun g=>(qbx a c f g n d 0).bind fun(x1,_)=>(qbt c n x1 (W64 ((d.length:Int)-1))).bind fun(h,_)=>V h
theorem qge{a:qh}{k}(a3:Ro w a cs1){r:(List Int)}(F:qdY n a k=V r):RetV prog 209 [oV qh cs1,vi k] w r:=by
 obtain⟨p1,k1,p2,k2,p3,k3,p4,k4,p5,k5,rfl,s1,s2,s3,s4,s5⟩:=qaf a3;refine zV 74 func209 Z fun h=>zSR (qw h Z Z fun w1 l h=>X1 7 0 h Z ?_);obtain⟨W,_,F,a9,_,_,_,_,b6,c0,c4,a4⟩:=s5.ix F;obtain⟨p6,k6,p7,k7,p8,k8,p9,k9,rfl,s6,_,s8,s9⟩:=qaR c4;refine zxe b6 c0 a9 Z (zc 0 (a4.below h.below) Z (qq qa h Z Z Z fun _ b h=>zs 0 h Z fun _ h=>X1 5 0 h Z (zcL h F (qfi ⟨_,_,rfl,(h.oldS s8)⟩) Z fun R _ S1 d c h F=>X1 6 2 h Z (zcL h F (qff (qaC _ (h.oldS s2) (h.oldS s3) (h.oldS s4))) Z fun T _ S2 O M h F=>X1 8 3 h Z (zcL h F (qoy (qaC _ (h.oldS s2) (h.oldS s3) (h.oldS s4))) Z fun Q _ S3 P N h F=>X0 3 Z ?_)))));obtain⟨o1,F,X⟩:=qc F;refine qm (rL (fun m e w'=>∃x1 i1,qbx a W T Q m x1 i1=V o1/\e=[(2,vp l),(5,vp b),(6,oS d R.length c),(7,oS O T.length M),(25,oS P Q.length N),(26,vi (Q.length:Int)),(27,vi i1)]/\SH w w' [oW S3 (Q:List Int) [oS P Q.length N],oW S2 (T:List Tplace) [oS O T.length M],oW S1 (x1:List Int) [oS d R.length c],oX b (qhx W p6 p7 p8 p9 k6 k7 k8 k9) 183,oX l (qa8 a p1 p2 p3 p4 p5 k1 k2 k3 k4 k5) 53]) n ⟨_,_,F,rfl,h⟩ Z ?_);rintro m1 _ _ ⟨x1,i1,F,rfl,h⟩;rcases m1 with _|m1
 ·cases F
 refine X0 5 Z (qi Z F ?_ ?_)<;>intro F
 ·refine X0 6 Z ?_;obtain⟨_,_,F,p,_,_,_,_,b7,c1,rfl,a5⟩:=(h.sl 0 Z).1.ix F;refine zx b7 c1 ⟨p.1,qC p.2.1 (h.sl 0 Z).2⟩ Z (zc 0 a5 Z (X0 3 Z (rA [19] [1,2,3,4] h Z fun _ h=>M1 15 [0,1,2,3] 2 (h.p [1,2,3,4] Z) Z ?_)));obtain⟨_,_,F,b4,_,_,_,_,b8,c2,rfl,a6⟩:=s9.ix F;refine Ae 4 31 b8 c2 b4 (h.p [1,2,3,4] Z) Z (Al 5 63 0 a6 (h.p [1,2,3,4] Z) Z ?_);obtain⟨y4,c6,F,s,_,_,_,_,y,D,rfl,_⟩:=(h.sl 2 Z).1.ix F;refine Ax 6 127 y D ⟨s.1,qC s.2.1 (h.sl 2 Z).2⟩ (h.p [1,2,3,4] Z) Z (Aw 7 255 (fun w' hw=>qf2 qa (qb1 (w1:=w) (S1:=fun _=>False) hw 1 Z c6 y D Z) (j:=0) Z Z Z) (h.p [1,2,3,4] Z) Z ?_);refine M2 16383 [8,9,10,11,12,13] 3 3 (h.p [1,2,3,4] Z) Z ?_;obtain⟨y5,c7,F,t,_,_,_,_,z,H,c5,_⟩:=(h.sl 1 Z).1.ix F;obtain rfl:=qhT c5;refine Ax 14 32767 z H ⟨t.1,qC t.2.1 (h.sl 1 Z).2⟩ (h.p [1,2,3,4] Z) Z (Aw 15 65535 (fun w' hw=>qf2 qa (qb1 hw 0 Z c7 z H (qnp (w:=w) (S:=fun _=>False) y5)) (j:=0) Z Z Z) (h.p [1,2,3,4] Z) Z ?_);refine Ao 16 131071 Z (zcI h F (qoo (qaC _ (h.oldS s2) (h.oldS s3) (h.oldS s4)) (qeC _ (h.oldS s1)) (qnp y5)) Z fun r4 _ h F=>G0 262143 [17] (h.p [1,2,3,4] Z) Z ?_);obtain⟨_,c8,F,u,_,_,_,_,A,I,rfl,a7⟩:=(h.sl 2 Z).1.ix F;exact Ax 18 524287 A I ⟨u.1,qC u.2.1 (h.sl 2 Z).2⟩ (h.p [1,2,3,4] Z) Z (Ao 19 1048575 Z (qax qa 2 0 (W64 (y4+r4)) h Z c8 A I Z a7 Z Z Z Z Z Z Z fun _ h=>qa6 (fun hs=>absurd (hs 19 (by decide)) (by decide)) (Ad (X0 5 Z (rK ⟨_,_,F,rfl,h⟩ Z)))))
 refine qt Z ?_;obtain rfl:=qb F;replace F:=X;refine X0 8 Z ?_;obtain⟨o2,F,Y⟩:=qc F;refine qm ?_;replace h:=h.p [2,3] Z;refine rL (fun m e w'=>∃x2 i2,qbt W m x2 i2=V o2/\e=[(5,vp b),(6,oS d R.length c),(10,vi i2)]/\SH w w' [oW S1 (x2:List Int) [oS d R.length c],oX b (qhx W p6 p7 p8 p9 k6 k7 k8 k9) 183]) n ⟨_,_,F,rfl,h⟩ Z ?_;rintro m2 _ _ ⟨x2,i2,F,rfl,h⟩;rcases m2 with _|m2
 ·cases F
 refine X0 6 Z (qi Z F ?_ ?_)<;>intro F
 ·refine zKSB (rA [14] [0,1] h Z fun _ h=>M1 15 [0,1,2,3] 1 (h.p [0,1] Z) Z ?_);obtain⟨_,_,F,b5,_,_,_,_,b9,c3,rfl,a8⟩:=s6.ix F;refine Ae 4 31 b9 c3 b5 (h.p [0,1] Z) Z (Al 5 63 0 a8 (h.p [0,1] Z) Z ?_);obtain⟨y8,c9,F,v,_,_,_,_,B,J,rfl,_⟩:=(h.sl 0 Z).1.ix F;refine Ax 6 127 B J ⟨v.1,qC v.2.1 (h.sl 0 Z).2⟩ (h.p [0,1] Z) Z (Aw 7 255 (fun w' hw=>qf2 qa (qb1 (w1:=w) (S1:=fun _=>False) hw 0 Z c9 B J Z) (j:=0) Z Z Z) (h.p [0,1] Z) Z ?_);refine M0 1023 [8,9] (h.p [0,1] Z) Z ?_;obtain⟨y9,d0,F,x,_,_,_,_,C,K,rfl,_⟩:=(h.sl 0 Z).1.ix F;refine Ax 10 2047 C K ⟨x.1,qC x.2.1 (h.sl 0 Z).2⟩ (h.p [0,1] Z) Z (Aw 11 4095 (fun w' hw=>qf2 qa (qb1 (w1:=w) (S1:=fun _=>False) hw 0 Z d0 C K Z) (j:=0) Z Z Z) (h.p [0,1] Z) Z ?_);refine M0 8191 [12] (h.p [0,1] Z) Z ?_;obtain⟨_,L,F,f,_,_,_,_,g,i,rfl,o⟩:=(h.sl 0 Z).1.ix F;exact Ax 13 16383 g i ⟨f.1,qC f.2.1 (h.sl 0 Z).2⟩ (h.p [0,1] Z) Z (Ao 14 32767 Z (qax qa 0 0 (W64 (y8+y9)) h Z L g i Z o Z Z Z Z Z Z Z fun _ h=>qa6 (fun hs=>absurd (hs 14 (by decide)) (by decide)) (Ad (X0 6 Z (rK ⟨_,_,F,rfl,h⟩ Z)))))
 refine qt Z ?_;obtain rfl:=qb F;replace F:=Y;refine X0 5 Z ?_;obtain rfl:=qb F;exact rO 0 h Z ⟨rfl,G⟩
def qbL(b:qE)(c:(List Int))(x1:(List Int)):Nat->(List Int)->Int->Option ((List Int)×Int)|0,_,_=>U|n+1,a,i1=>bif decide (i1<(x1.length:Int)) then(idx b.Az i1).bind fun d=>(idx a d).bind fun f=>(idx b.Bz i1).bind fun g=>(idx c i1).bind fun h=>(idx a i1).bind fun _=>qbL b c x1 n (setS a i1 (W64 (f+(W64 (g*h))))) (W64 (i1+1)) else V (a,i1)
def qfh(n:Nat)(b:qh)(net:Int):Option (List Int):=(idx b.Ai net).bind fun d=>(qdY n b net).bind fun a=>(mkS (a.length:Int) (0:Int)).bind fun x1=>(qbL d a x1 n x1 1).bind fun(c,_)=>V c
theorem qmM{b:qh}{net}(g:Ro w b cs1){r:(List Int)}(F:qfh n b net=V r):RetV prog 262 [oV qh cs1,vi net] w r:=by
 obtain⟨p1,k1,p2,k2,p3,k3,p4,k4,p5,k5,rfl,_,_,_,_,s5⟩:=qaf g;refine zV 49 func262 Z fun h=>zSR (qw h Z Z fun w1 B h=>X0 3 Z (rA [] [0] h Z fun _ h=>M1 7 [0,1,2] 0 (h.p [0] Z) Z ?_));obtain⟨y1,_,F,M,_,_,_,_,P,S,X,H⟩:=s5.ix F;obtain⟨p6,k6,p7,k7,p8,k8,p9,k9,rfl,s6,s7,_,_⟩:=qaR X;refine Ae 3 15 P S M (h.p [0] Z) Z (Al 4 31 0 H (h.p [0] Z) Z (M1 127 [5,6] 0 (h.p [0] Z) Z ?_));obtain⟨f,y,F⟩:=qc F;refine qlc (fun e w'=>∃a A d c,e=[(5,vp a),(6,oS d f.length c)]/\SH w w' [oX a (qhx y1 p6 p7 p8 p9 k6 k7 k8 k9) 183,oW A (f:List Int) [oS d f.length c],oX B (qa8 b p1 p2 p3 p4 p5 k1 k2 k3 k4 k5) 53]) 0 (bits 11 2047) ?_ ?_
 ·intro K;refine At 7 8 255 383 Z ?_ ?_
  ·exact qlg f h (cB 209 Z) (qge (h.old g) y) Z Z Z Z fun a7 S4 a6 a5 h=>Ag (h.p [1] Z) (Ao 8 511 Z (qq qa h Z Z Z fun a8 C h=>Ag (h.p [2] Z) (Ao 9 1023 Z (zs 0 h Z fun a9 h=>G0 2047 [10] (h.p [2] Z) Z (qrx [(5,_),(6,_)] ⟨rfl,rfl,G⟩ (K _ _ ⟨_,_,_,_,rfl,h⟩))))))
  refine qq qa h Z Z Z fun a7 C h=>Ag (h.p [1] Z) (Ao 7 511 Z (qlg f h (cB 209 Z) (qge (h.old g) y) Z Z Z Z fun a8 S4 a6 a5 h=>Ag (h.p [2] Z) (Ao 9 1023 Z (zs 1 h Z fun a9 h=>G0 2047 [10] (h.p [2] Z) Z ?_))));replace h:=h.p [1,0,2] Z;exact aK K ⟨_,_,_,_,rfl,h⟩ Z
 rintro _ _ ⟨a,A,d,c,rfl,h⟩;refine Ad (X0 4 Z ?_);obtain⟨x1,i,F⟩:=qc F;obtain⟨g1,g2,i⟩:=qU i;refine qam qa Int h Z Z Z Z Z Z Z Z Z g1 g2 i Z fun _ S6 z h=>X0 7 Z ?_;obtain⟨o1,F,D⟩:=qc F;refine qm ?_;replace h:=h.p [0,1,2] Z;refine rL (fun m e w'=>∃x2 i1,qbL y1 f x1 m x2 i1=V o1/\e=[(5,vp a),(6,oS d f.length c),(7,oS z x1.length x1.length),(8,vi i1)]/\SH w w' [oW S6 (x2:List Int) [oS z x1.length x1.length],oX a (qhx y1 p6 p7 p8 p9 k6 k7 k8 k9) 183,oW A (f:List Int) [oS d f.length c]]) n ⟨_,_,F,rfl,h⟩ Z ?_;rintro m1 _ _ ⟨x2,i1,F,rfl,h⟩;rcases m1 with _|m1
 ·cases F
 refine X0 8 Z (qi Z F ?_ ?_)<;>intro F
 ·refine zKSB (rA [22] [0,1,2] h Z fun _ h=>M1 63 [0,1,2,3,4,5] 1 (h.p [0,1,2] Z) Z ?_);obtain⟨_,_,F,N,_,_,_,_,Q,T,rfl,I⟩:=s6.ix F;refine Ae 6 127 Q T N (h.p [0,1,2] Z) Z (Al 7 255 0 I (h.p [0,1,2] Z) Z ?_);obtain⟨y3,Y,F,k,_,_,_,_,p,u,rfl,_⟩:=(h.sl 0 Z).1.ix F;refine Ax 8 511 p u ⟨k.1,qC k.2.1 (h.sl 0 Z).2⟩ (h.p [0,1,2] Z) Z (Aw 9 1023 (fun w' hw=>qf2 qa (qb1 (w1:=w) (S1:=fun _=>False) hw 0 Z Y p u Z) (j:=0) Z Z Z) (h.p [0,1,2] Z) Z ?_);refine M1 8191 [10,11,12] 1 (h.p [0,1,2] Z) Z ?_;obtain⟨y4,_,F,O,_,_,_,_,R,W,rfl,J⟩:=s7.ix F;refine Ae 13 16383 R W O (h.p [0,1,2] Z) Z (Al 14 32767 0 J (h.p [0,1,2] Z) Z (M0 131071 [15,16] (h.p [0,1,2] Z) Z ?_));obtain⟨y5,a3,F,l,_,_,_,_,s,v,rfl,_⟩:=(h.sl 2 Z).1.ix F;refine Ax 17 262143 s v ⟨l.1,qC l.2.1 (h.sl 2 Z).2⟩ (h.p [0,1,2] Z) Z (Aw 18 524287 (fun w' hw=>qf2 qa (qb1 (w1:=w) (S1:=fun _=>False) hw 2 Z a3 s v Z) (j:=0) Z Z Z) (h.p [0,1,2] Z) Z ?_);refine M0 2097151 [19,20] (h.p [0,1,2] Z) Z ?_;obtain⟨_,a4,F,o,_,_,_,_,t,x,rfl,L⟩:=(h.sl 0 Z).1.ix F;exact Ax 21 4194303 t x ⟨o.1,qC o.2.1 (h.sl 0 Z).2⟩ (h.p [0,1,2] Z) Z (Ao 22 8388607 Z (qax qa 0 0 (W64 (y3+(W64 (y4*y5)))) h Z a4 t x Z L Z Z Z Z Z Z Z fun _ h=>qa6 (fun hs=>absurd (hs 22 (by decide)) (by decide)) (Ad (X0 6 Z (rK ⟨_,_,F,rfl,h⟩ Z)))))
 refine qt Z ?_;obtain rfl:=qb F;replace F:=D;refine X0 5 Z ?_;obtain rfl:=qb F;exact rO 0 h Z ⟨rfl,G⟩
def qba(b:(List Int))(a:qE):Nat->(List Int)->Int->Option ((List Int)×Int)|0,_,_=>U|n+1,x1,i1=>bif decide (i1<(a.Bn.length:Int)) then(idx a.Bn i1).bind fun d=>(idx b d).bind fun f=>(appS x1 ([f]:List Int)).bind fun c=>qba b a n c (W64 (i1+1)) else V (x1,i1)
def qez(n:Nat)(b:qh)(net:Int):Option (List Int):=(qfh n b net).bind fun a=>(idx b.Ai net).bind fun c=>(qba a c n ([]:List Int) 0).bind fun(x1,_)=>V x1
theorem qmd{b:qh}{net}(g:Ro w b cs1){r:(List Int)}(F:qez n b net=V r):RetV prog 210 [oV qh cs1,vi net] w r:=by
 obtain⟨_,_,_,_,_,_,_,_,_,_,rfl,_,_,_,_,O⟩:=qaf g;refine zV 32 func210 Z fun h=>zSR (qw h Z Z fun _ _ h=>X1 6 0 h Z (zcL h F (qmM (h.old g)) Z fun k _ S1 L J h F=>X1 12 1 h Z ?_));obtain⟨I,_,F,t,_,_,_,_,v,z,C,o⟩:=O.ix F;obtain⟨_,_,_,_,_,_,H,D,rfl,_,_,_,P⟩:=qaR C;refine zxe v z t Z (zp1 Z (zc 3 (o.below h.below) Z (X0 3 Z ?_)));replace h:=h.nil (α:=Int);obtain⟨N,F,l⟩:=qc F;refine qm ?_;replace h:=h.p [0,1] Z;refine rL (fun m e w'=>∃S2 f d c x1 i1,qba k I m x1 i1=V N/\e=[(5,oS L k.length J),(6,oS f d c),(17,oS H I.Bn.length D),(18,vi (I.Bn.length:Int)),(19,vi i1)]/\SH w w' [oW S2 (x1:List Int) [oS f d c],oW S1 (k:List Int) [oS L k.length J]]) n ⟨_,_,_,_,_,_,F,rfl,h⟩ Z ?_;rintro K _ _ ⟨S2,f,d,c,x1,i1,F,rfl,h⟩;obtain rfl:=(h.sl 0 Z).2;rcases K with _|K
 ·cases F
 refine X0 5 Z (qi Z F ?_ ?_)<;>intro F
 ·refine zKSBSR ?_;obtain⟨_,_,F,u,_,_,_,_,x,A,rfl,p⟩:=P.ix F;refine zxe x A u Z (zc 0 (p.below h.below) Z (X0 6 Z ?_));obtain⟨Q,_,F,i,_,_,_,_,y,B,rfl,s⟩:=(h.sl 1 Z).1.ix F;refine zx y B ⟨i.1,qC i.2.1 (h.sl 1 Z).2⟩ Z (zc 0 s Z (qG qa [.tmp 27] _ ([Q]:List Int) h Z Z Z Z Z Z Z Z Z ⟨rfl,G⟩ Z fun _ _ _ h=>?_));obtain⟨_,a,F⟩:=qc F;obtain⟨M,a⟩:=qO a;refine qbW qa 1 h Z (h.sl 0 Z).1 (h.sl 0 Z).2 Z Z Z Z Z Z Z Z Z M a Z fun _ _ _ _ h=>X0 7 Z ?_;replace h:=h.p [1,2] Z;exact rK ⟨_,_,_,_,_,_,F,rfl,h⟩ Z
 refine qt Z ?_;obtain rfl:=qb F;replace F:=l;refine X0 5 Z ?_;obtain rfl:=qb F;exact rO 0 h Z ⟨rfl,G⟩
def qeq(g:(List Int))(d:Int)(f:Int)(h:Int):Nat->(List qx)->Int->Option ((List qx)×Int)|0,_,_=>U|n+1,b,a=>bif decide (a<2) then(idx g d).bind fun i=>(appS b ([(⟨W64 ((W64 (2*i))+a),W64 ((W64 (2*h))+a),2,f⟩:qx)]:List qx)).bind fun c=>qeq g d f h n c (W64 (a+1)) else V (b,a)
def qej(g:(List Int))(f:Int)(d:(List Int)):Nat->(List qx)->Int->Option ((List qx)×Int)|0,_,_=>U|n+1,b,a=>bif decide (a<(d.length:Int)) then(idx d a).bind fun h=>(qeq g f a h n b 0).bind fun(c,_)=>qej g f d n c (W64 (a+1)) else V (b,a)
def qem(a:qh)(h:(List (List Int)))(i:(List Int)):Nat->(List (List Int))->(List Int)->(List qx)->Int->Option ((List (List Int))×(List Int)×(List qx)×Int)|0,_,_,_,_=>U|n+1,k,l,c,b=>bif decide (b<(a.Ai.length:Int)) then(qdY n a b).bind fun r4=>(idx r4 0).bind fun p=>(appS l ([p]:List Int)).bind fun d=>(qez n a b).bind fun m=>(appS k ([m]:List (List Int))).bind fun f=>(idx h b).bind fun r=>(qej i b r n c 0).bind fun(g,_)=>qem a h i n f d g (W64 (b+1)) else V (k,l,c,b)
def qdu(c:(List Tplace)):Nat->(List (List Int))->(List Int)->Int->Option ((List (List Int))×(List Int)×Int)|0,_,_,_=>U|n+1,d,f,a=>bif decide (a<(c.length:Int)) then(idx c a).bind fun b=>bif b.drives then(idx f b.net).bind fun _=>qdu c n d (setS f b.net a) (W64 (a+1)) else(idx d b.net).bind fun h=>(appS h ([a]:List Int)).bind fun g=>qdu c n (setS d b.net g) f (W64 (a+1)) else V (d,f,a)
def qeo(a:qh):Nat->(List qx)->Int->Int->Option ((List qx)×Int×Int)|0,_,_,_=>U|n+1,x1,i1,b=>bif decide (b<(a.Aa.Ab.length:Int)) then(idx a.Aa.Ab b).bind fun c=>(qfw n a c i1).bind fun d=>(appS x1 d).bind fun g=>(qbA n c.As).bind fun f=>qeo a n g (W64 (i1+f)) (W64 (b+1)) else V (x1,i1,b)
def qld(n:Nat)(a:qh):Option (Option Tview):=(qcJ n (⟨a.Aa.Ab,a.Aa.As,a.Aa.Ak⟩:qd)).bind fun c=>(qeo a n ([]:List qx) 0 0).bind fun(x1,_,_)=>(mkS (a.Ai.length:Int) (0:Int)).bind fun x3=>(mkS (a.Ai.length:Int) ([]:(List Int))).bind fun d=>(qdu c n d x3 0).bind fun(f,g,_)=>(qem a f g n ([]:List (List Int)) ([]:List Int) x1 0).bind fun(h,i,b,_)=>V (V (⟨(⟨(⟨a.Au.Ay⟩:qp),(⟨a.Aa.Ab,a.Aa.As,a.Aa.Ak⟩:qd),a.Ai⟩:qh),c,b,i,h,[]⟩:Tview))
theorem qr5{A}(hA:∀b,A b->old w b){a:qh}(T:GoT.R w A a cs1){r:(Option Tview)}(F:qld n a=V r):RetG prog 155 [oV qh cs1] w A r:=by
 obtain⟨K,J,u,p,v,k3,y,s,H,B,rfl,s1,s2,s3,s4,s5⟩:=qaf T;have hg:=Rg.start hA;refine qeE func155 Z (m:=156) Z Z (fun h=>?_);refine zSR (qw h Z Z fun w1 f h=>X0 3 Z (rA [] [0] h Z fun _ h=>M2 7 [0,1,2] 0 0 (h.p [0] Z) Z (Ao 3 15 Z (zcL h F (qff (qaC _ (h.oldS (s2.mono hg.old)) (h.oldS (s3.mono hg.old)) (h.oldS (s4.mono hg.old)))) Z fun d _ S1 I C h F=>Ag (h.p [1] Z) (Aw 4 31 (fun w' hw=>qH qa [0,1] [.tmp 15,.tmp 18] Z Z Z Z Z Z Z Z) (h.p [1] Z) Z ?_)))));refine Ao 5 63 Z (qw h Z Z fun _ c h=>G0 127 [6] (h.p [2] Z) Z (Ad (X1 13 2 h Z ?_)));replace h:=h.nil (α:=qx);obtain⟨o1,F,hK1⟩:=qc F;refine qm (rL (fun m e w'=>∃S2 p7 ln1 k7 x1 i1 i2,qeo a m x1 i1 i2=V o1/\e=[(1,vp f),(3,vp c),(4,vi i1),(23,oS u a.Aa.Ab.length p),(24,vi (a.Aa.Ab.length:Int)),(25,vi i2)]/\SH w w' [oW S2 (x1:List qx) [oS p7 ln1 k7],oX c [oS K a.Au.Ay.length J,oS u a.Aa.Ab.length p,oS v a.Aa.As.length k3,oS y a.Aa.Ak.length s,oS H a.Ai.length B,oS I d.length C,oS p7 ln1 k7,oS U 0 0,oS U 0 0,oS U 0 0] 161,oW S1 (d:List Tplace) [oS I d.length C],oX f (qa8 a K u v y H J p k3 s B) 53]) n ⟨_,_,_,_,_,_,_,F,rfl,h⟩ Z ?_);rintro m1 _ _ ⟨S2,p7,ln1,k7,x1,i1,i2,F,rfl,h⟩;obtain rfl:=(h.sl 0 Z).2;rcases m1 with _|m1
 ·cases F
 refine X0 5 Z (qi Z F ?_ ?_)<;>intro F
 ·refine zKSBSR ?_;obtain⟨y1,_,F,he1,_,_,_,_,hp1,hq1,hr2,hc2⟩:=s2.ix F;obtain⟨_,_,rfl,s6⟩:=qV hr2;refine zxe hp1 hq1 he1 Z (zc 0 (hc2.below h.below) Z (qq qa h Z Z Z fun _ _ h=>zs 0 h Z fun _ h=>zNS (rA [12] [0,2,4] h Z fun _ h=>M3 255 [0,1,2,3,4,5,6,7] 1 2 0 (h.p [0,2,4] Z) Z (Ao 8 511 Z (zcL h F (qm6 (h.old (GoT.mono T hg.old)) (qhc y1 (h.oldS (s6.mono hg.old)))) Z fun _ _ _ _ _ h F=>Ag (h.p [1,3,5] Z) (Ao 9 1023 Z ?_))))));obtain⟨_,hx1,F⟩:=qc F;obtain⟨g1,hx1⟩:=qO hx1;refine qbW qa 2 h Z (h.sl 0 Z).1 (h.sl 0 Z).2 Z Z Z Z Z Z Z Z Z g1 hx1 Z fun _ _ _ _ h=>Ag (h.p [1,3,5] Z) (Ao 10 2047 Z (zp1 Z (G0 4095 [11] (h.p [1,3,5] Z) Z (Ao 12 8191 Z (zs 3 h Z fun _ h=>qa6 (fun hs=>absurd (hs 12 (by decide)) (by decide)) (Ad (X1 4 1 h Z (zcI h F (qcQ ⟨_,_,rfl,(h.oldS (s6.mono hg.old))⟩) Z fun _ _ h F=>X0 8 Z ?_))))))));replace h:=h.p [2,3,4,5] Z;exact rK ⟨_,_,_,_,_,_,_,F,rfl,h⟩ Z
 refine qt Z ?_;obtain rfl:=qb F;replace F:=hK1;refine X1 5 3 h Z ?_;obtain⟨x3,hx2,F⟩:=qc F;obtain⟨g2,g3,hx2⟩:=qU hx2;refine qam qa Int h Z Z Z Z Z Z Z Z Z g2 g3 hx2 Z fun _ S5 i h=>X1 7 4 h Z ?_;obtain⟨l,hx3,F⟩:=qc F;obtain⟨g4,g5,hx3⟩:=qU hx3;refine qam qa (List Int) h Z Z Z Z Z Z Z Z Z g4 g5 hx3 Z fun _ _ k h=>X1 12 3 h Z ?_;obtain⟨o2,F,hK2⟩:=qc F;refine qm (rL (fun m e w'=>∃(S7:Nat->Prop) (x5:(List (List Int))) (R:(List Int)) (i3:Int),qdu d m x5 R i3=V o2/\e=[(1,vp f),(3,vp c),(7,oS i x3.length x3.length),(8,oS k l.length l.length),(58,oS I d.length C),(59,vi (d.length:Int)),(60,vi i3)]/\SH w w' [oW S7 (x5:List (List Int)) [oS k l.length l.length],oW S5 (R:List Int) [oS i x3.length x3.length],oW S2 (x1:List qx) [oS p7 x1.length k7],oX c [oS K a.Au.Ay.length J,oS u a.Aa.Ab.length p,oS v a.Aa.As.length k3,oS y a.Aa.Ak.length s,oS H a.Ai.length B,oS I d.length C,oS p7 x1.length k7,oS U 0 0,oS U 0 0,oS U 0 0] 161,oW S1 (d:List Tplace) [oS I d.length C],oX f (qa8 a K u v y H J p k3 s B) 53]) n ⟨_,_,_,_,F,rfl,h⟩ Z ?_);rintro m2 _ _ ⟨S7,x5,R,i3,F,rfl,h⟩;rcases m2 with _|m2
 ·cases F
 refine X0 5 Z (qi Z F ?_ ?_)<;>intro F
 ·refine X0 6 Z ?_;obtain⟨y2,_,F,he2,_,_,_,_,hp2,hq2,hr5,hc4⟩:=(h.sl 4 Z).1.ix F;obtain rfl:=qhT hr5;refine zx hp2 hq2 ⟨he2.1,qC he2.2.1 (h.sl 4 Z).2⟩ Z (zc 0 hc4 Z (qq qa h Z Z Z fun _ bb4 h=>zp1 Z (zs 0 h Z fun _ h=>X1 6 0 h Z (qi Z F ?_ ?_))))<;>intro F
  ·refine X1 5 0 h Z ?_;obtain⟨_,hy3,F,he3,_,_,_,_,hp3,hq3,rfl,hc6⟩:=(h.sl 2 Z).1.ix F;refine zx hp3 hq3 ⟨he3.1,qC he3.2.1 (h.sl 2 Z).2⟩ Z (qax qa 2 0 i3 h Z hy3 hp3 hq3 Z hc6 Z Z Z Z Z Z Z fun _ h=>X0 6 Z ?_);replace h:=h.p [1,2,3,4,5,6] Z;exact rK ⟨_,_,_,_,F,rfl,h⟩ Z
  obtain⟨_,hy4,F⟩:=qc F;have W:=qaO hy4;replace h:=h.p [1,0,2,3,4,5,6] Z;obtain⟨_,S9,_,h⟩:=h.take hy4;obtain⟨_,_,rfl,-⟩:=h.own 0 Z;refine rA [12] [1,2] h Z fun _ h=>M2 63 [0,1,2,3,4,5] 1 1 (h.p [1,2] Z) Z ?_;obtain⟨_,hp4,-,-,hl2⟩:=h.holeAt 1 Z;obtain⟨q4,hq4⟩:∃q,q=0+(y2.net).toNat*GoT.k (List Int):=⟨_,rfl⟩;refine Ax 6 127 hp4 hq4 ⟨W.1,qC W.2.1 hl2⟩ (h.p [1,2] Z) Z (Aw 7 255 (fun w' hw=>qf2 qa (qcH hw 0 Z hp4 hq4) (j:=0) Z Z Z) (h.p [1,2] Z) Z ?_);refine M0 511 [8] (h.p [1,2] Z) Z (Ao 9 1023 Z (qG qa [.tmp 80] _ ([i3]:List Int) h Z Z Z Z Z Z Z Z Z ⟨rfl,G⟩ Z fun _ p14 S10 h=>Ag (h.p [2,3] Z) (Ao 10 2047 Z ?_)));obtain⟨x7,hx4,F⟩:=qc F;obtain⟨g6,hx4⟩:=qO hx4;refine qbW qa 1 h Z (h.sl 0 Z).1 (h.sl 0 Z).2 Z Z Z Z Z Z Z Z Z g6 hx4 Z fun _ p15 k12 S11 h=>Ag (h.p [2,3] Z) ?_;obtain⟨_,hp5,-,-,hl4⟩:=h.holeAt 2 Z;obtain⟨q5,hq5⟩:∃q,q=0+(y2.net).toNat*GoT.k (List Int):=⟨_,rfl⟩;refine Ax 11 4095 hp5 hq5 ⟨W.1,qC W.2.1 hl4⟩ (h.p [2,3] Z) Z (Ao 12 8191 Z (qfN qa 2 0 h Z hp5 hq5 Z Z Z Z Z Z fun _ h=>?_));replace h:SH _ _ [oW S10 (([i3]:List Int):List Int) [oS p14 1 1],oW S11 (x7:List Int) [oS p15 x7.length k12],Ch.hole S9 (x5:List (List Int)) k l.length l.length (y2.net).toNat [oS p15 x7.length k12],oX bb4 (qsA y2) 193,oW S5 (R:List Int) [oS i x3.length x3.length],oW S2 (x1:List qx) [oS p7 x1.length k7],oX c [oS K a.Au.Ay.length J,oS u a.Aa.Ab.length p,oS v a.Aa.As.length k3,oS y a.Aa.Ak.length s,oS H a.Ai.length B,oS I d.length C,oS p7 x1.length k7,oS U 0 0,oS U 0 0,oS U 0 0] 161,oW S1 (d:List Tplace) [oS I d.length C],oX f (qa8 a K u v y H J p k3 s B) 53]:=h;refine qa6 (fun hs=>absurd (hs 12 (by decide)) (by decide)) (Ad (X0 5 Z ?_));replace h:=h.p [1,2,0,3,4,5,6,7,8] Z;replace h:=h.put;obtain⟨_,h⟩:=qnr (S:=_) h;replace h:=h.p [0,3,4,5,6,7] Z;exact rK ⟨_,_,_,_,F,rfl,h⟩ Z
 refine qt Z ?_;obtain rfl:=qb F;replace F:=hK2;refine X1 8 5 h Z ?_;replace h:=h.nil (α:=Int);replace h:=h.nil (α:=(List Int));obtain⟨o3,F,hK3⟩:=qc F;refine qm (rL (fun m e w'=>∃(S13:Nat->Prop) (t:Option Addr) (ln2:Nat) (o:Nat) (P:(List (List Int))) (S14:Nat->Prop) (D:Option Addr) (ln3:Nat) (z:Nat) (Q:(List Int)) (S15:Nat->Prop) (M:Option Addr) (ln4:Nat) (L:Nat) (g:(List qx)) (X:Int),qem a x5 R m P Q g X=V o3/\e=[(1,vp f),(3,vp c),(7,oS i x3.length x3.length),(8,oS k l.length l.length),(87,vi (a.Ai.length:Int)),(88,vi X)]/\SH w w' [oW S13 (P:List (List Int)) [oS t ln2 o],oW S14 (Q:List Int) [oS D ln3 z],oW S7 (x5:List (List Int)) [oS k l.length l.length],oW S5 (R:List Int) [oS i x3.length x3.length],oW S15 (g:List qx) [oS M ln4 L],oX c [oS K a.Au.Ay.length J,oS u a.Aa.Ab.length p,oS v a.Aa.As.length k3,oS y a.Aa.Ak.length s,oS H a.Ai.length B,oS I d.length C,oS M ln4 L,oS D ln3 z,oS t ln2 o,oS U 0 0] 161,oW S1 (d:List Tplace) [oS I d.length C],oX f (qa8 a K u v y H J p k3 s B) 53]) n ⟨_,_,_,_,_,_,_,_,_,_,_,_,_,_,_,_,F,rfl,h⟩ Z ?_);rintro m3 _ _ ⟨S13,t,ln2,o,P,S14,D,ln3,z,Q,S15,M,ln4,L,g,X,F,rfl,h⟩;obtain rfl:=(h.sl 0 Z).2;obtain rfl:=(h.sl 1 Z).2;obtain rfl:=(h.sl 4 Z).2;rcases m3 with _|m3
 ·cases F
 refine X0 5 Z (qi Z F ?_ ?_)<;>intro F
 ·refine X0 9 Z (rA [14] [5,7] h Z fun _ h=>M2 127 [0,1,2,3,4,5,6] 0 1 (h.p [5,7] Z) Z (Ao 7 255 Z (zcL h F (qge (h.old (GoT.mono T hg.old))) Z fun _ _ _ _ _ h F=>Ag (h.p [6,8] Z) ?_)));obtain⟨y5,_,F,he5,_,_,_,_,hp6,hq6,rfl,hc8⟩:=(h.sl 0 Z).1.ix F;refine Ax 8 511 hp6 hq6 ⟨he5.1,qC he5.2.1 (h.sl 0 Z).2⟩ (h.p [6,8] Z) Z (Ao 9 1023 Z (zc 0 hc8 Z (Ag (h.p [6,8] Z) (Ao 10 2047 Z (qG qa [.tmp 100] _ ([y5]:List Int) h Z Z Z Z Z Z Z Z Z ⟨rfl,G⟩ Z fun _ _ _ h=>Ag (h.p [7,9] Z) (Ao 11 4095 Z ?_))))));obtain⟨N,hx5,F⟩:=qc F;obtain⟨g7,hx5⟩:=qO hx5;refine qbW qa 3 h Z (h.sl 0 Z).1 (h.sl 0 Z).2 Z Z Z Z Z Z Z Z Z g7 hx5 Z fun _ a5 Y S18 h=>Ag (h.p [7,9] Z) (Ao 12 8191 Z (zp1 Z (G0 16383 [13] (h.p [7,9] Z) Z (Ao 14 32767 Z (zs 7 h Z fun _ h=>qa6 (fun hs=>absurd (hs 14 (by decide)) (by decide)) (Ad (qZ (rA [12] [7,9] h Z fun _ h=>M2 127 [0,1,2,3,4,5,6] 0 1 (h.p [7,9] Z) Z (Ao 7 255 Z (zcL h F (qmd (h.old (GoT.mono T hg.old))) Z fun r5 _ _ _ _ h F=>Ag (h.p [8,10] Z) (Ao 8 511 Z (qid qa [.tmp 112] _ ([r5]:List (List Int)) [1,2,3,4,5,6,7,8,9,10] h Z Z Z Z Z Z Z Z Z (qnh (qab 0 h Z) qlh Z) Z Z fun _ _ _ h=>Ag (h.p [8,10] Z) (Ao 9 1023 Z ?_)))))))))))));obtain⟨O,hx6,F⟩:=qc F;obtain⟨g8,hx6⟩:=qO hx6;replace h:=h.p [0,3,1,2,4,5,6,7,8,9,10] Z;refine qpf qa h Z Z Z Z Z Z Z Z Z g8 hx6 Z fun _ a6 a3 S21 h=>Ag (h.p [7,9] Z) (Ao 10 2047 Z (zp1 Z (G0 4095 [11] (h.p [7,9] Z) Z (Ao 12 8191 Z (zs 7 h Z fun _ h=>qa6 (fun hs=>absurd (hs 12 (by decide)) (by decide)) (Ad (X0 4 Z ?_)))))));obtain⟨y6,hy6,F⟩:=qc F;have he6:=qaO hy6;replace h:=h.lrn0 4 Z;obtain⟨_,o_5,_,_,hp7,hq7,-,hr10,hc9⟩:=(qe9 (h.lrnO 4 Z)).1.at hy6;have hr11:=hr10;obtain⟨a7,a4,rfl,_⟩:=hr10;replace h:=h.lrnAdd 4 Z hr11;refine zx hp7 hq7 ⟨he6.1,qC he6.2.1 (qe9 (h.lrnO 4 Z)).2⟩ Z (zc 0 hc9 Z (X0 3 Z ?_));obtain⟨o4,F,hK4⟩:=qc F;refine qm ?_;replace h:=h.p [0,3,4,5,6,7,8,9] Z;refine rL (fun m e w'=>∃S22 p26 ln5 k21 x13 i5,qej R X y6 m x13 i5=V o4/\e=[(1,vp f),(3,vp c),(7,oS i x3.length x3.length),(8,oS k l.length l.length),(11,vi X),(87,vi (a.Ai.length:Int)),(88,vi X),(120,oS a7 y6.length a4),(121,vi (y6.length:Int)),(122,vi i5)]/\SH w w' [oW S21 (O:List (List Int)) [oS a6 O.length a3],oW S18 (N:List Int) [oS a5 N.length Y],Ch.lrn S7 (x5:List (List Int)) [oS k l.length l.length] [fct (y6:(List Int)) [oS a7 y6.length a4]],oW S5 (R:List Int) [oS i x3.length x3.length],oW S22 (x13:List qx) [oS p26 ln5 k21],oX c [oS K a.Au.Ay.length J,oS u a.Aa.Ab.length p,oS v a.Aa.As.length k3,oS y a.Aa.Ak.length s,oS H a.Ai.length B,oS I d.length C,oS p26 ln5 k21,oS a5 N.length Y,oS a6 O.length a3,oS U 0 0] 161,oW S1 (d:List Tplace) [oS I d.length C],oX f (qa8 a K u v y H J p k3 s B) 53]) m3 ⟨_,_,_,_,_,_,F,rfl,h⟩ Z ?_;rintro m4 _ _ ⟨S22,p26,ln5,k21,x13,i5,F,rfl,h⟩;obtain rfl:=(h.sl 4 Z).2;rcases m4 with _|m4
  ·cases F
  refine X0 5 Z (qi Z F ?_ ?_)<;>intro F
  ·refine X0 6 Z ?_;obtain⟨y7,_,F,he7,_,_,_,_,hp8,hq8,rfl,hc11⟩:=(qe9 (GoT.mono (h.lrnS 2 0 Z Z) (h.lrnB 2 Z))).1.ix F;refine zx hp8 hq8 ⟨he7.1,qC he7.2.1 (qe9 (GoT.mono (h.lrnS 2 0 Z Z) (h.lrnB 2 Z))).2⟩ Z (zc 0 hc11 Z (X0 7 Z ?_));obtain⟨o5,F,hK5⟩:=qc F;refine qm (rL (fun m e w'=>∃S23 p27 ln6 k22 x14 i6,qeq R X i5 y7 m x14 i6=V o5/\e=[(1,vp f),(3,vp c),(7,oS i x3.length x3.length),(8,oS k l.length l.length),(11,vi X),(12,vi i5),(13,vi y7),(87,vi (a.Ai.length:Int)),(88,vi X),(120,oS a7 y6.length a4),(121,vi (y6.length:Int)),(122,vi i5),(127,vi i6)]/\SH w w' [oW S21 (O:List (List Int)) [oS a6 O.length a3],oW S18 (N:List Int) [oS a5 N.length Y],Ch.lrn S7 (x5:List (List Int)) [oS k l.length l.length] [fct (y6:(List Int)) [oS a7 y6.length a4]],oW S5 (R:List Int) [oS i x3.length x3.length],oW S23 (x14:List qx) [oS p27 ln6 k22],oX c [oS K a.Au.Ay.length J,oS u a.Aa.Ab.length p,oS v a.Aa.As.length k3,oS y a.Aa.Ak.length s,oS H a.Ai.length B,oS I d.length C,oS p27 ln6 k22,oS a5 N.length Y,oS a6 O.length a3,oS U 0 0] 161,oW S1 (d:List Tplace) [oS I d.length C],oX f (qa8 a K u v y H J p k3 s B) 53]) m4 ⟨_,_,_,_,_,_,F,rfl,h⟩ Z ?_);rintro m5 _ _ ⟨S23,p27,ln6,k22,x14,i6,F,rfl,h⟩;obtain rfl:=(h.sl 4 Z).2;rcases m5 with _|m5
   ·cases F
   refine X0 5 Z (qi Z F ?_ ?_)<;>intro F
   ·refine X0 8 Z (rA [22] [3,5] h Z fun _ h=>M1 127 [0,1,2,3,4,5,6] 1 (h.p [3,5] Z) Z ?_);obtain⟨y8,hy8,F,he8,_,_,_,_,hp9,hq9,rfl,_⟩:=(h.sl 3 Z).1.ix F;refine Ax 7 255 hp9 hq9 ⟨he8.1,qC he8.2.1 (h.sl 3 Z).2⟩ (h.p [3,5] Z) Z (Aw 8 511 (fun w' hw=>qf2 qa (qb1 (w1:=w) (S1:=fun _=>False) hw 0 Z hy8 hp9 hq9 Z) (j:=0) Z Z Z) (h.p [3,5] Z) Z ?_);refine M0 131071 [9,10,11,12,13,14,15,16] (h.p [3,5] Z) Z (Aw 17 262143 (fun w' hw=>qH qa [0,1,2,3] [.tmp 141,.tmp 145,.const (vi (2)),.tmp 146] Z Z Z Z Z Z Z Z) (h.p [3,5] Z) Z ?_);refine Ao 18 524287 Z (qG qa [.tmp 147] _ ([(⟨W64 ((W64 (2*y8))+i6),W64 ((W64 (2*y7))+i6),2,i5⟩:qx)]:List qx) h Z Z Z Z Z Z Z Z Z ⟨(qch (⟨W64 ((W64 (2*y8))+i6),W64 ((W64 (2*y7))+i6),2,i5⟩:qx)),G⟩ Z fun _ _ _ h=>Ag (h.p [4,6] Z) (Ao 19 1048575 Z ?_));obtain⟨_,hx7,F⟩:=qc F;obtain⟨g9,hx7⟩:=qO hx7;refine qbW qa 5 h Z (h.sl 0 Z).1 (h.sl 0 Z).2 Z Z Z Z Z Z Z Z Z g9 hx7 Z fun _ _ _ _ h=>Ag (h.p [4,6] Z) (Ao 20 2097151 Z (zp1 Z (G0 4194303 [21] (h.p [4,6] Z) Z (Ao 22 8388607 Z (zs 6 h Z fun _ h=>qa6 (fun hs=>absurd (hs 22 (by decide)) (by decide)) (Ad (X0 5 Z ?_)))))));replace h:=h.p [1,2,3,4,5,6,7,8] Z;exact rK ⟨_,_,_,_,_,_,F,rfl,h⟩ Z
   refine qt Z ?_;obtain rfl:=qb F;replace F:=hK5;exact X0 5 Z (rK ⟨_,_,_,_,_,_,F,rfl,h⟩ Z)
  refine qt Z ?_;obtain rfl:=qb F;replace F:=hK4;refine X0 5 Z ?_;replace h:=h.unlrn 2 Z;exact rK ⟨_,_,_,_,_,_,_,_,_,_,_,_,_,_,_,_,F,rfl,h⟩ Z
 refine qt Z ?_;obtain rfl:=qb F;replace F:=hK3;refine X0 5 Z ?_;obtain rfl:=qb F;have hv1:GoRs.Rs (ρ:=(Option Tview)) h.wc (reg A w h.wc) (V (⟨(⟨(⟨a.Au.Ay⟩:qp),(⟨a.Aa.Ab,a.Aa.As,a.Aa.Ak⟩:qd),a.Ai⟩:qh),d,g,Q,P,[]⟩:Tview)) [oV (Option Tview) [vp c]]:=⟨_,rfl,(hg.outR h (Rg.boxR (x:=(⟨(⟨(⟨a.Au.Ay⟩:qp),(⟨a.Aa.Ab,a.Aa.As,a.Aa.Ak⟩:qd),a.Ai⟩:qh),d,g,Q,P,[]⟩:Tview)) 5 h Z (show GoT.R _ _ ((⟨(⟨(⟨a.Au.Ay⟩:qp),(⟨a.Aa.Ab,a.Aa.As,a.Aa.Ak⟩:qd),a.Ai⟩:qh),d,g,Q,P,[]⟩:Tview):Tview) _ from⟨[oS K a.Au.Ay.length J,oS u a.Aa.Ab.length p,oS v a.Aa.As.length k3,oS y a.Aa.Ak.length s,oS H a.Ai.length B],[oS I d.length C,oS M g.length L,oS D Q.length z,oS t P.length o,oS U 0 0],rfl,⟨[oS K a.Au.Ay.length J],[oS u a.Aa.Ab.length p,oS v a.Aa.As.length k3,oS y a.Aa.Ak.length s,oS H a.Ai.length B],rfl,⟨_,_,rfl,(hg.inS h s1)⟩,⟨[oS u a.Aa.Ab.length p,oS v a.Aa.As.length k3,oS y a.Aa.Ak.length s],[oS H a.Ai.length B],rfl,⟨[oS u a.Aa.Ab.length p],[oS v a.Aa.As.length k3,oS y a.Aa.Ak.length s],rfl,⟨_,_,rfl,(hg.inS h s2)⟩,⟨[oS v a.Aa.As.length k3],[oS y a.Aa.Ak.length s],rfl,⟨_,_,rfl,(hg.inS h s3)⟩,⟨_,_,rfl,(hg.inS h s4)⟩⟩⟩,⟨_,_,rfl,(hg.inS h s5)⟩⟩⟩,⟨[oS I d.length C],[oS M g.length L,oS D Q.length z,oS t P.length o,oS U 0 0],rfl,(Rg.ownR 6 h Z),⟨[oS M g.length L],[oS D Q.length z,oS t P.length o,oS U 0 0],rfl,(Rg.ownR 4 h Z),⟨[oS D Q.length z],[oS t P.length o,oS U 0 0],rfl,(Rg.ownR 1 h Z),⟨[oS t P.length o],[oS U 0 0],rfl,(Rg.ownR 0 h Z),⟨_,_,rfl,qiT⟩⟩⟩⟩⟩⟩)))⟩;exact qdE qa (ρ:=(Option Tview)) (r:=(V (⟨(⟨(⟨a.Au.Ay⟩:qp),(⟨a.Aa.Ab,a.Aa.As,a.Aa.Ak⟩:qd),a.Ai⟩:qh),d,g,Q,P,[]⟩:Tview))) [oV (Option Tview) [vp c]] h ⟨rfl,G⟩ hv1
def qcf(c:qu):Nat->Int->Option (Flow Bool Int)|0,_=>U|n+1,i1=>bif decide (i1<((4:Nat):Int)) then(idx ([c.Am,c.Ar,c.Aj,c.Ap]:List Int) i1).bind fun b=>(qav n b 100 5000).bind fun a=>bif (!a) then V (.ret false) else qcf c n (W64 (i1+1)) else V (.nxt i1)
def qiE(n:Nat)(c:qu):Option Bool:=(qcf c n 0).bind fun|.ret r=>V r|.nxt _=>(qgP n c.Bd).bind fun a=>bif a then bif decide (c.Am<=c.Ar) then V (decide (c.Aj<=c.Ap)) else V false else V false
theorem qrg{c:qu}(f:Ro w c cs1){r:Bool}(F:qiE n c=V r):RetV prog 232 [oV qu cs1] w r:=by
 obtain rfl:=qaL f;refine zV 43 func232 Z fun h=>zSR (qw h Z Z fun _ a h=>X4 12 0 0 0 0 h Z (qG qa [.tmp 6,.tmp 8,.tmp 10,.tmp 12] _ ([c.Am,c.Ar,c.Aj,c.Ap]:List Int) h Z Z Z Z Z Z Z Z Z ⟨rfl,rfl,rfl,rfl,G⟩ Z fun _ o S1 h=>X0 7 Z ?_));obtain⟨p,F,b⟩:=qc F;refine qm (rL (fun m e w'=>∃i1,qcf c m i1=V p/\e=[(1,vp a),(3,oS o 4 4),(4,vi i1)]/\SH w w' [oW S1 (([c.Am,c.Ar,c.Aj,c.Ap]:List Int):List Int) [oS o 4 4],oX a (qce c) 54]) n ⟨_,F,rfl,h⟩ Z ?_);rintro l _ _ ⟨i1,F,rfl,h⟩;rcases l with _|l
 ·cases F
 refine X0 8 Z (qi Z F ?_ ?_)<;>intro F
 ·refine X0 7 Z ?_;obtain⟨_,_,F,d,_,_,_,_,i,k,rfl,g⟩:=(h.sl 0 Z).1.ix F;refine zx i k ⟨d.1,qC d.2.1 (h.sl 0 Z).2⟩ Z (zc 0 g Z (zcB h F qah Z fun _ _ h F=>X0 2 Z (qi Z F ?_ ?_)))<;>intro F
  ·refine X0 4 Z ?_;obtain rfl:=qb F;replace F:=b;exact rb h F Z
  exact X0 7 Z (rK ⟨_,F,rfl,h⟩ Z)
 refine qt Z ?_;obtain rfl:=qb F;replace F:=b;refine X1 4 1 h Z (zcB h F qiS Z fun _ _ h F=>zp1 Z (qn (t:=29) F Z ?_ ?_))<;>intro F
 ·refine X2 12 1 1 h Z (qn (t:=36) F Z ?_ ?_)<;>intro F
  ·exact X2 13 1 1 h Z (rb h F Z)
  exact X0 8 Z (rb h F Z)
 exact X0 15 Z (rb h F Z)
def qg6(_:Nat)(a:Int)(b:Int):Option Bool:=bif decide (a>=100) then bif decide (a<=b) then V (decide (b<=5000)) else V false else V false
theorem qlM{early late}  {r:Bool}(F:qg6 n early late=V r):RetV prog 206 [vi early,vi late] w r:=by
 refine zV 16 func206 Z fun h=>X0 9 Z (qn (t:=7) F Z ?_ ?_)<;>intro F
 ·refine X0 8 Z (qn (t:=12) F Z ?_ ?_)<;>intro F
  ·exact X0 7 Z (rb h F Z)
  exact X0 5 Z (rb h F Z)
 exact X0 10 Z (rb h F Z)
def qiF(n:Nat)(c:qu):Option Bool:=(qi8 n c.Bd).bind fun a=>bif a then(qg6 n c.Am c.Ar).bind fun b=>bif b then(qg6 n c.Aj c.Ap).bind fun d=>V d else V false else V false
theorem qq9{c:qu}(a:Ro w c cs1){r:Bool}(F:qiF n c=V r):RetV prog 154 [oV qu cs1] w r:=by
 obtain rfl:=qaL a;refine zV 20 func154 Z fun h=>zSR (qw h Z Z fun _ _ h=>X1 6 0 h Z (zcB h F qlV Z fun _ _ h F=>zp1 Z (qn (t:=6) F Z ?_ ?_)))<;>intro F
 ·refine X2 9 0 0 h Z (zcB h F qlM Z fun _ _ h F=>zp2 Z (qn (t:=13) F Z ?_ ?_))<;>intro F
  ·exact X2 9 0 0 h Z (zcB h F qlM Z fun _ _ h F=>X0 3 Z (rb h F Z))
  exact X0 8 Z (rb h F Z)
 exact X0 15 Z (rb h F Z)
def qkm(_:Nat)(a:qu)(left:Int):Option Int:=bif decide ((W64 (left-(a.Bd.size:Int)))<0) then V (-1) else V (W64 (left-(a.Bd.size:Int)))
theorem qq7{a:qu}{left}(b:Ro w a cs1){r:Int}(F:qkm n a left=V r):RetV prog 23 [oV qu cs1,vi left] w r:=by
 obtain rfl:=qaL b;refine zV 13 func23 Z fun h=>zSR (qw h Z Z fun _ _ h=>X1 17 0 h Z (qi Z F ?_ ?_))<;>intro F
 ·exact X0 4 Z (ri h F Z)
 exact X0 6 Z (ri h F Z)
def qke(_:Nat)(a:qu):Option qu:=V (⟨a.Bd,a.Am,a.Ar,a.Aj,a.Ap⟩:qu)
theorem qre{a:qu}(b:Ro w a cs1){r:qu}(F:qke n a=V r):RetV prog 28 [oV qu cs1] w r:=by
 obtain rfl:=qaL b;refine zV 20 func28 Z fun h=>zSR (qw h Z Z fun _ _ h=>qq qa h Z Z Z fun _ _ h=>zNSR (qq qa h Z Z Z fun _ _ h=>X1 6 2 h Z (zs 0 h Z fun _ h=>X1 6 2 h Z (zs 0 h Z fun _ h=>X1 6 2 h Z (zs 0 h Z fun _ h=>X1 6 2 h Z (zs 0 h Z fun _ h=>X1 6 2 h Z (zs 0 h Z fun _ h=>X1 4 0 h Z (zs 1 h Z fun _ h=>qan ?_))))))));obtain rfl:=qb F;exact qac qa (ρ:=qu) [oV qu (qce a)] h ⟨⟨_,_,_,rfl,rfl,h.box 1 Z,rfl⟩,G⟩ (PV.done h (qae (qv (S:=fun _=>False) (qd4 (⟨a.Bd,a.Am,a.Ar,a.Aj,a.Ap⟩:qu)))))
def qkt(_:Nat)(a:qu)(b:qu):Option Bool:=bif (a.Bd.toList != b.Bd.toList) then V false else bif (a.Am != b.Am) then V false else bif (a.Ar != b.Ar) then V false else bif (a.Aj != b.Aj) then V false else bif (a.Ap != b.Ap) then V false else V true
theorem qq1{a:qu}{b:qu}(c:Ro w a cs1)(d:Ro w b cs2){r:Bool}(F:qkt n a b=V r):RetV prog 35 [oV qu cs1,oV qu cs2] w r:=by
 obtain rfl:=qaL c;obtain rfl:=qaL d;refine zV 30 func35 Z fun h=>zSR (qw h Z Z fun _ _ h=>qw h Z Z fun _ _ h=>X2 11 1 0 h Z (qi Z F ?_ ?_))<;>intro F
 ·exact X0 4 Z (rb h F Z)
 refine X2 10 1 0 h Z (qi Z F ?_ ?_)<;>intro F
 ·exact X0 4 Z (rb h F Z)
 refine X2 10 1 0 h Z (qi Z F ?_ ?_)<;>intro F
 ·exact X0 4 Z (rb h F Z)
 refine X2 10 1 0 h Z (qi Z F ?_ ?_)<;>intro F
 ·exact X0 4 Z (rb h F Z)
 refine X2 10 1 0 h Z (qi Z F ?_ ?_)<;>intro F
 ·exact X0 4 Z (rb h F Z)
 exact X0 5 Z (rb h F Z)
end Go.Fw


namespace Go.Fw
open Go
set_option maxRecDepth 100000
theorem qyB{d:qd}{k:Int}{n i:Nat}(hi:i<(sinksL d k n).length):∃y:Nat,y<n/\idx (sinksL d k n) (i:Int)=V (y:Int)/\snkQ d k y=true:=by
 rw[qdA hi];have a:(sinksL d k n)[i]∈sinksL d k n:=jp hi;generalize (sinksL d k n)[i]=z at a;unfold sinksL at a;obtain⟨y,f,rfl⟩:=List.mem_map.1 a;obtain⟨b,c⟩:=List.mem_filter.1 f;exact⟨y,List.mem_range.1 b,rfl,c⟩
theorem qtE{d:qd}{k:Int}(h:smallD d):Ev (fun n=>qhw n d k) (sinksL d k (places d).length):=by
 have g:=qaU h;have c:Ev (fun n=>qbd k (places d) n ([]:List Int) 0) (sinksL d k (places d).length,((places d).length:Int)):=by
  refine loopF (Lf:=qbd k (places d)) (S:=fun j=>sinksL d k j) (len:=(places d).length) (fun n=>?_) (fun j b X a=>?_)
  ·simp only[qbd,qk (je _),cond_false]
  ·have f:(sinksL d k j).length+[(j:Int)].length<=2147483648:=by
    rw[qjX];have:cntP (snkQ d k) j<=j:=qgJ;simp;omega
   simp only[qbd,qj b,cond_true,qA b,jd,wS j];rw[qkD] at a;unfold snkQ at a;cases h1:((gt (places d) j).net==k)
   ·rw[h1] at a;simp only[Bool.false_and,cond_false,jU] at a⊢;exact a
   ·cases h2:(gt (places d) j).drives
    ·rw[h1,h2] at a;simp only[Bool.not_false,Bool.and_self,cond_true,qbn f,jd] at a⊢;exact a
    ·rw[h1,h2] at a;simp only[Ji,Bool.and_false,cond_false,jU,cond_true] at a⊢;exact a
 unfold qhw;exact Ev.bind (qpa h) (Ev.bind c .done)
structure wireOk(b:qh)(i:Nat):Prop where
 lo:1<=(gt b.Ai i).Az.length
 hi:(gt b.Ai i).Az.length<=8
 res:(gt b.Ai i).Bz.length=(gt b.Ai i).Az.length
 cap:(gt b.Ai i).Bu.length=(gt b.Ai i).Az.length
 par:∀j,0<j->j<(gt b.Ai i).Az.length->0<=at0 (gt b.Ai i).Az j/\at0 (gt b.Ai i).Az j<j
 snk:(gt b.Ai i).Bn.length=(sinksL b.Aa (i:Int) (places b.Aa).length).length
 sin:∀j,j<(gt b.Ai i).Bn.length->0<=at0 (gt b.Ai i).Bn j/\at0 (gt b.Ai i).Bn j<(gt b.Ai i).Az.length
theorem qbD{b:qh}(h:blockB b=true){i:Nat}(hi:i<b.Ai.length):wireOk b i:=by
 unfold blockB at h;rw[jf,qau] at h;have:=h.2 i hi;unfold wireB lenB at this;simp only[jf,decide_eq_true_eq,beq_iff_eq] at this;obtain⟨⟨f,g⟩,n,o,k,_,_,l,c⟩:=this;refine⟨f,g,by omega,by omega,fun j m a=>?_,?_,fun j a=>?_⟩
 ·have:=qau.1 k j a;unfold treeB at this;rw[show decide (j=0)=false by simp;omega] at this;simp only[cond_false,qbi] at this;omega
 ·rw[qjX];unfold snkN at l;omega
 ·rw[qhC (d:=0),qau] at c;have:=c j a;rw[qbi] at this;unfold at0;omega
theorem qnz{b:qh}(h:blockB b=true):b.Ai.length=b.Aa.As.length:=by
 unfold blockB at h;simp only[jf,beq_iff_eq] at h;omega

instance:Inhabited qx:=⟨⟨0,0,0,0⟩⟩
instance:Inhabited qT:=⟨⟨0,0⟩⟩
theorem qns{α:Type}{m:Nat}{z:α}(h:m<=2147483648):mkS (m:Int) z=V (List.replicate m z):=by
 unfold mkS big;rw[if_pos ⟨by omega,by omega⟩,jr]
theorem que{α:Type}[Inhabited α]{xs:List α}{a k:Nat}{y:α}(h:k≠a):gt (xs.set a y) k=gt xs k:=by
 unfold gt;rw[jD,List.getElem?_set_ne (by omega),<-jD]
theorem qro{α:Type}[Inhabited α]{xs:List α}{a:Nat}{y:α}(h:a<xs.length):gt (xs.set a y) a=y:=by
 rw[qcG (by rw[List.length_set];exact h),List.getElem_set_self]

def sumZ(f:Nat->Int):Nat->Int
 |0=>0
 |n+1=>sumZ f n+f n
theorem qwK{f g:Nat->Int}{n:Nat}(h:∀u,u<n->f u=g u):sumZ f n=sumZ g n:=by
 induction n with
 |zero=>rfl
 |succ n ih=>unfold sumZ;rw[ih (fun u a=>h u (by omega)),h n (by omega)]
theorem qvu{f g:Nat->Int}{a n:Nat}(d:a<n)(h:∀u,u<n->u≠a->f u=g u):sumZ f n=sumZ g n+(f a-g a):=by
 induction n with
 |zero=>omega
 |succ n ih=>
  unfold sumZ;by_cases b:a=n
  ·subst b;rw[qwK (fun u c=>h u (by omega) (by omega))];omega
  ·rw[ih (by omega) (fun u c=>h u (by omega)),h n (by omega) (by omega)];omega
theorem qAH{f:Nat->Int}{n:Nat}(h:∀u,u<n->0<=f u):0<=sumZ f n:=by
 induction n with
 |zero=>exact Jd _
 |succ n ih=>unfold sumZ;have:=ih (fun u a=>h u (by omega));have:=h n (by omega);omega
theorem quO{f:Nat->Int}{a n:Nat}(h:∀u,u<n->0<=f u)(d:a<n):f a<=sumZ f n:=by
 induction n with
 |zero=>omega
 |succ n ih=>
  unfold sumZ;by_cases b:a=n
  ·subst b;have:=qAH (fun u (c:u<a)=>h u (by omega));omega
  ·have:=ih (fun u c=>h u (by omega)) (by omega);have:=h n (by omega);omega
theorem qAw{f:Nat->Int}{n:Nat}{c:Int}(h:∀u,u<n->f u<=c):sumZ f n<=n*c:=by
 induction n with
 |zero=>simp[sumZ]
 |succ n ih=>
  unfold sumZ;have:=ih (fun u a=>h u (by omega));have:=h n (by omega);rw[Int.natCast_succ,Int.add_mul];omega
def pinCap(b:qh)(p:Tplace):Int:=bif decide (p.instance_<0) then 0 else(gt (cellAt b p.instance_).Bh p.pin.toNat).Bu
def capJ(b:qh)(j:Nat):Int:=pinCap b (gt (places b.Aa) j)
theorem qAc{b:qh}(h:blockB b=true){j:Nat}(f:j<(places b.Aa).length){n:Nat}:qhr n b.Aa b.Au (gt (places b.Aa) j)=V (capJ b j):=by
 have d:=qar h;unfold capJ pinCap;rcases qmm f with⟨i,k,hi,hk,_,e⟩|⟨i,hi,_,e⟩
 ·rw[e];obtain⟨⟨a,c⟩,g,_⟩:=qh1 d hi;unfold place1 cellAt;simp only[qhr,show decide ((i:Int)<0)=false by simp,cond_false,qA hi,jd,qgq a c,jr,qA (show k<(gt b.Au.Ay (gt b.Aa.Ab i).Bv.toNat).Bh.length by omega)]
 ·rw[e];rfl
theorem qzx{b:qh}(h:blockB b=true){j:Nat}(f:j<(places b.Aa).length):0<=capJ b j/\capJ b j<=500:=by
 have d:=qar h;unfold capJ pinCap;rcases qmm f with⟨i,k,hi,hk,_,e⟩|⟨i,hi,_,e⟩
 ·rw[e];obtain⟨⟨g,l⟩,m,c⟩:=qh1 d hi;unfold place1 cellAt;simp only[show decide ((i:Int)<0)=false by simp,cond_false,jr];have a:=qj0 c;unfold pinsB at a;rw[jf,qau] at a;have:=a.1 k (by omega);unfold pinB at this;cases hl:decide (k+1=(gt b.Au.Ay (gt b.Aa.Ab i).Bv.toNat).Bh.length)
  ·rw[hl] at this;simp only[cond_false,jf,qbi] at this;exact this.2
  ·rw[hl] at this;simp only[cond_true,jf,beq_iff_eq] at this;omega
 ·rw[e];exact⟨Jd _,show(0:Int)<=500 by omega⟩
def skL(b:qh)(i:Nat):List Int:=sinksL b.Aa (i:Int) (places b.Aa).length
def addSink(b:qh)(w:qE)(sk:List Int)(t:List Int)(j:Nat):List Int:=setS t (at0 w.Bn j) (W64 (gt t (at0 w.Bn j).toNat+capJ b (at0 sk j).toNat))
def ldA(b:qh)(w:qE)(sk:List Int):Nat->List Int
 |0=>w.Bu
 |j+1=>addSink b w sk (ldA b w sk j) j
def addUp(w:qE)(t:List Int)(j:Nat):List Int:=setS t (at0 w.Az j) (W64 (gt t (at0 w.Az j).toNat+gt t j))
def ldB(w:qE):Nat->List Int->List Int
 |0,t=>t
 |j+1,t=>ldB w j (addUp w t (j+1))
def loadsL(b:qh)(i:Nat):List Int:=ldB (gt b.Ai i) ((gt b.Ai i).Az.length-1) (ldA b (gt b.Ai i) (skL b i) (skL b i).length)
theorem qqr{b:qh}{w:qE}{sk:List Int}{j:Nat}:(ldA b w sk j).length=w.Bu.length:=by
 induction j with
 |zero=>rfl
 |succ j ih=>unfold ldA addSink;rw[qcK,ih]
theorem qAt{w:qE}{j:Nat}{t:List Int}:(ldB w j t).length=t.length:=by
 induction j generalizing t with
 |zero=>rfl
 |succ j ih=>unfold ldB addUp;rw[ih,qcK]
theorem qnT{b:qh}(h:blockB b=true){i:Nat}(hi:i<b.Ai.length):(loadsL b i).length=(gt b.Ai i).Az.length:=by
 unfold loadsL;rw[qAt,qqr,(qbD h hi).cap]
theorem qii{b:qh}(h:blockB b=true){i:Nat}:(skL b i).length<=78:=by
 have a:=qaU (qQ (qar h));unfold skL;rw[qjX];have:cntP (snkQ b.Aa (i:Int)) (places b.Aa).length<=(places b.Aa).length:=qgJ;omega
theorem qqH{b:qh}{i j:Nat}(a:j<(skL b i).length):∃y:Nat,y<(places b.Aa).length/\at0 (skL b i) j=(y:Int)/\snkQ b.Aa (i:Int) y=true:=by
 obtain⟨y,c,d,f⟩:=qyB a;exact⟨y,c,by have:=d;rw[show(sinksL b.Aa (i:Int) (places b.Aa).length)=skL b i from rfl,qat a] at this;exact Option.some.inj this,f⟩
theorem qqf{b:qh}(h:blockB b=true){i:Nat}(hi:i<b.Ai.length):Ev (fun n=>qdY n b (i:Int)) (loadsL b i):=by
 have c:=qbD h hi;have m:=qQ (qar h);have u:=c.lo;have r:=c.hi;have d:=c.cap;have x:=qii h (i:=i);have e1:Ev (fun n=>qbx b (gt b.Ai i) (places b.Aa) (skL b i) n (gt b.Ai i).Bu 0) (ldA b (gt b.Ai i) (skL b i) (skL b i).length,((skL b i).length:Int)):=by
  refine loopF (Lf:=qbx b (gt b.Ai i) (places b.Aa) (skL b i)) (S:=ldA b (gt b.Ai i) (skL b i)) (len:=(skL b i).length) (fun n=>?_) (fun j a X l=>?_)
  ·simp only[qbx,qk (je _),cond_false]
  ·obtain⟨y,o,k,_⟩:=qqH a;have f:j<(gt b.Ai i).Bn.length:=by rw[c.snk];exact a
   have g:=c.sin j f;have s:=qqr (b:=b) (w:=gt b.Ai i) (sk:=skL b i) (j:=j);simp only[qbx,qj a,cond_true,qat a,k,jd,qat f,qgq g.1 (show at0 (gt b.Ai i).Bn j<((ldA b (gt b.Ai i) (skL b i) j).length:Int) by omega),qA o,qAc h o,wS j];have:ldA b (gt b.Ai i) (skL b i) (j+1)=setS (ldA b (gt b.Ai i) (skL b i) j) (at0 (gt b.Ai i).Bn j) (W64 (gt (ldA b (gt b.Ai i) (skL b i) j) (at0 (gt b.Ai i).Bn j).toNat+capJ b y)):=by
    show addSink _ _ _ _ _=_;unfold addSink;rw[k,jr]
   rw[this] at l;exact l
 have p:∀j t,t.length=(gt b.Ai i).Az.length->j<(gt b.Ai i).Az.length->Ev (fun n=>qbt (gt b.Ai i) n t (j:Int)) (ldB (gt b.Ai i) j t,0):=by
  intro j
  induction j with
  |zero=>
   intro t _ _;refine Ev.succ ?_;show Ev (fun n=>qbt (gt b.Ai i) (n+1) t 0) _;unfold qbt;exact Ev.ff Z .done
  |succ j ih=>
   intro t z a;have v:=c.par (j+1) (by omega) a;refine Ev.succ ?_;simp only[qbt,show decide (((j+1:Nat):Int) > 0)=true from decide_eq_true (by omega),cond_true,qat a,jd,qgq v.1 (show at0 (gt b.Ai i).Az (j+1)<(t.length:Int) by omega),qA (show j+1<t.length by omega),show((j+1:Nat):Int)-1=(j:Int) by omega,qM (show -9223372036854775808<=(j:Int) by omega) (by omega)];exact ih _ (by rw[qcK];exact z) (by omega)
 unfold qdY qdB;rw[qA hi];simp only[jd,qbn (show([]:List Int).length+(gt b.Ai i).Bu.length<=2147483648 by simp;omega),Jm];refine Ev.bind (qpa m) (Ev.bind (qtE m) (Ev.bind e1 ?_));rw[qfG (show(gt b.Ai i).Bu.length<=9223372036854775807 by omega),show((gt b.Ai i).Bu.length:Int)-1=(((gt b.Ai i).Az.length-1:Nat):Int) by omega];exact Ev.bind (p _ _ (by rw[qqr];exact d) (by omega)) .done
structure LdOk(t:List Int)(L:Nat)(S:Int):Prop where
 len:t.length=L
 nn:∀k,k<L->0<=gt t k
 sum:sumZ (gt t) L<=S
theorem qnF{t:List Int}{a:Nat}{y:Int}{k:Nat}(b:a<t.length):gt (setS t (a:Int) y) k=if k=a then y else gt t k:=by
 unfold setS;rw[jr];by_cases h:k=a
 ·subst h;rw[if_pos Z,qro b]
 ·rw[if_neg h,que h]
theorem qBQ{b:qh}(h:blockB b=true){i:Nat}(hi:i<b.Ai.length)(m:∀k,k<(gt b.Ai i).Bu.length->0<=gt (gt b.Ai i).Bu k/\gt (gt b.Ai i).Bu k<=500) :
  ∀j,j<=(skL b i).length->LdOk (ldA b (gt b.Ai i) (skL b i) j) (gt b.Ai i).Az.length (4000+500*j):=by
 have p:=qbD h hi;have A:=p.hi;have l:=p.cap;have B:=qii h (i:=i);intro j
 induction j with
 |zero=>
  intro _;refine⟨l,fun k v=>(m k (by omega)).1,?_⟩;have:=qAw (f:=gt (gt b.Ai i).Bu) (n:=(gt b.Ai i).Az.length) (c:=500) (fun u J=>(m u (by omega)).2);show sumZ (gt (gt b.Ai i).Bu) _<=_;omega
 |succ j ih=>
  intro H;obtain⟨D,s,K⟩:=ih (by omega);obtain⟨y,C,x,_⟩:=qqH (show j<(skL b i).length by omega);have F:=qzx h C;have o:=p.sin j (by rw[p.snk];exact(show j<(skL b i).length by omega));obtain⟨a,t⟩:∃a:Nat,at0 (gt b.Ai i).Bn j=(a:Int):=⟨_,qgS o.1⟩;rw[t] at o;have d:a<(gt b.Ai i).Az.length:=by omega
  have z:=quO s d;have I:=s a d;have e:ldA b (gt b.Ai i) (skL b i) (j+1)=setS (ldA b (gt b.Ai i) (skL b i) j) (a:Int) (gt (ldA b (gt b.Ai i) (skL b i) j) a+capJ b y):=by
   show addSink _ _ _ _ _=_;unfold addSink;rw[x,t,jr,jr,qM (by omega) (by omega)]
  rw[e];refine⟨by rw[qcK];exact D,fun k v=>?_,?_⟩
  ·rw[qnF (by omega)];split
   ·omega
   ·exact s k v
  ·rw[qvu (g:=gt (ldA b (gt b.Ai i) (skL b i) j)) d (fun u _ r=>by rw[qnF (by omega),if_neg r]),qnF (by omega),if_pos Z];omega
theorem qBX{b:qh}(h:blockB b=true){i:Nat}(hi:i<b.Ai.length){S:Int}(A:S<=1000000000):∀j t,j<(gt b.Ai i).Az.length->t.length=(gt b.Ai i).Az.length->(∀k,k<t.length->0<=gt t k/\gt t k<=S)->sumZ (gt t) (j+1)<=S ->
  ∀k,k<t.length->0<=gt (ldB (gt b.Ai i) j t) k/\gt (ldB (gt b.Ai i) j t) k<=S:=by
 have x:=qbD h hi;intro j
 induction j with
 |zero=>intro t _ _ c _;exact c
 |succ j ih=>
  intro t s v c r;have p:=x.par (j+1) (by omega) s;obtain⟨a,o⟩:∃a:Nat,at0 (gt b.Ai i).Az (j+1)=(a:Int):=⟨_,qgS p.1⟩;rw[o] at p;have y:=c a (by omega);have z:=c (j+1) (by omega);have e:addUp (gt b.Ai i) t (j+1)=setS t (a:Int) (gt t a+gt t (j+1)):=by
   unfold addUp;rw[o,jr,qM (by omega) (by omega)]
  have n:sumZ (gt (setS t (a:Int) (gt t a+gt t (j+1)))) (j+1)<=S:=by
   rw[qvu (g:=gt t) (a:=a) (by omega) (fun u _ l=>by rw[qnF (by omega),if_neg l]),qnF (by omega),if_pos Z];have:sumZ (gt t) (j+1+1)=sumZ (gt t) (j+1)+gt t (j+1):=rfl;omega
  unfold ldB;rw[e];have:=ih (setS t (a:Int) (gt t a+gt t (j+1))) (by omega) (by rw[qcK];exact v) (fun k f=>by
   rw[qcK] at f;have m:∀u,u<j+1->0<=gt (setS t (a:Int) (gt t a+gt t (j+1))) u:=fun u B=>by
    rw[qnF (by omega)];split
    ·omega
    ·exact(c u (by omega)).1
   have d:=quO m (show a<j+1 by omega);rw[qnF (by omega)] at d⊢;rw[if_pos Z] at d;split
   ·omega
   ·exact c k f) n
  rw[qcK] at this;exact this
theorem qrs{b:qh}(h:blockB b=true){i:Nat}(hi:i<b.Ai.length):(∀k,k<(gt b.Ai i).Bu.length->0<=gt (gt b.Ai i).Bu k/\gt (gt b.Ai i).Bu k<=500)/\(∀k,k<(gt b.Ai i).Bz.length->0<=at0 (gt b.Ai i).Bz k/\at0 (gt b.Ai i).Bz k<=1000):=by
 unfold blockB at h;rw[jf,qau] at h;have:=h.2 i hi;unfold wireB lenB at this;simp only[jf,decide_eq_true_eq,beq_iff_eq] at this;obtain⟨_,_,_,_,f,c,_⟩:=this;rw[qhC (d:=0),qau] at f c;exact⟨fun k a=>by have:=c k a;rw[qbi] at this;exact this,fun k a=>by have:=f k a;rw[qbi] at this;exact this⟩
theorem qxo{b:qh}(h:blockB b=true){i:Nat}(hi:i<b.Ai.length){k:Nat}(d:k<(gt b.Ai i).Az.length):0<=gt (loadsL b i) k/\gt (loadsL b i) k<=43000:=by
 have l:=qbD h hi;have f:=l.lo;have g:=qii h (i:=i);obtain⟨m,a,o⟩:=qBQ h hi (qrs h hi).1 (skL b i).length (je _);have:=qBX h hi (S:=43000) (by omega) ((gt b.Ai i).Az.length-1) (ldA b (gt b.Ai i) (skL b i) (skL b i).length) (by omega) m (fun k d=>by
  have c:=a k (by omega);have n:=quO a (show k<(gt b.Ai i).Az.length by omega);exact⟨c,by omega⟩) (by rw[show(gt b.Ai i).Az.length-1+1=(gt b.Ai i).Az.length by omega];omega) k (by omega)
 exact this
def dlL(w:qE)(ld:List Int):Nat->List Int
 |0=>[0]
 |k+1=>dlL w ld k++[W64 (gt (dlL w ld k) (at0 w.Az (k+1)).toNat+W64 (at0 w.Bz (k+1)*gt ld (k+1)))]
theorem qqy{w:qE}{ld:List Int}{k:Nat}:(dlL w ld k).length=k+1:=by
 induction k with
 |zero=>rfl
 |succ k ih=>unfold dlL;rw[jg,ih];rfl
def delaysL(b:qh)(i:Nat):List Int:=dlL (gt b.Ai i) (loadsL b i) ((gt b.Ai i).Az.length-1)
def exactL(b:qh)(i:Nat):List Int:=(gt b.Ai i).Bn.map fun s=>gt (delaysL b i) s.toNat
theorem qoW{b:qh}(h:blockB b=true){i:Nat}(hi:i<b.Ai.length):(delaysL b i).length=(gt b.Ai i).Az.length:=by
 unfold delaysL;rw[qqy];have:=(qbD h hi).lo;omega
theorem qAZ{w:qE}{ld:List Int}{k m:Nat}(b:k+1<m)(c:at0 w.Az (k+1)<((k+1:Nat):Int))(_:0<=at0 w.Az (k+1)) :
  setS (dlL w ld k++List.replicate (m-(k+1)) 0) ((k+1:Nat):Int) (W64 (gt (dlL w ld k++List.replicate (m-(k+1)) 0) (at0 w.Az (k+1)).toNat+W64 (at0 w.Bz (k+1)*gt ld (k+1))))=dlL w ld (k+1)++List.replicate (m-(k+1+1)) 0:=by
 have a:=qqy (w:=w) (ld:=ld) (k:=k);have e1:gt (dlL w ld k++List.replicate (m-(k+1)) 0) (at0 w.Az (k+1)).toNat=gt (dlL w ld k) (at0 w.Az (k+1)).toNat:=by
  rw[qnj,if_pos (by omega)]
 rw[e1];unfold setS;rw[jr,List.set_append,if_neg (by omega),a,Nat.sub_self,show m-(k+1)=(m-(k+1+1))+1 by omega,List.replicate_succ,List.set_cons_zero];show _=(dlL w ld k++[_])++_;rw[jq]
 rfl
theorem qtu{b:qh}(h:blockB b=true){i:Nat}(hi:i<b.Ai.length):Ev (fun n=>qfh n b (i:Int)) (delaysL b i):=by
 have f:=qbD h hi;have t:=f.lo;have r:=f.hi;have o:=f.res;have p:=qnT h hi;have l:mkS ((loadsL b i).length:Int) (0:Int)=V (List.replicate (loadsL b i).length 0):=qjo (by omega);have c:∀d k,k+1+d=(gt b.Ai i).Az.length->Ev (fun n=>qbL (gt b.Ai i) (loadsL b i) (List.replicate (loadsL b i).length 0) n (dlL (gt b.Ai i) (loadsL b i) k++List.replicate ((gt b.Ai i).Az.length-(k+1)) 0) ((k+1:Nat):Int)) (delaysL b i,((loadsL b i).length:Int)):=by
  intro d
  induction d with
  |zero=>
   intro k g;refine Ev.succ ?_;simp only[qbL,jH,qk (show(loadsL b i).length<=k+1 by omega),cond_false];refine Ev.now ?_;rw[show(gt b.Ai i).Az.length-(k+1)=0 by omega,List.replicate_zero,jU,p,<-g];unfold delaysL;rw[<-g]
   rfl
  |succ d ih=>
   intro k g;have m:=f.par (k+1) (by omega) (by omega);have a:=qqy (w:=gt b.Ai i) (ld:=loadsL b i) (k:=k);have s:(dlL (gt b.Ai i) (loadsL b i) k++List.replicate ((gt b.Ai i).Az.length-(k+1)) 0).length=(gt b.Ai i).Az.length:=by rw[jg,jH,a];omega
   refine Ev.succ ?_;simp only[qbL,jH,qj (show k+1<(loadsL b i).length by omega),cond_true,qat (show k+1<(gt b.Ai i).Az.length by omega),jd,qgq m.1 (show at0 (gt b.Ai i).Az (k+1)<((dlL (gt b.Ai i) (loadsL b i) k++List.replicate ((gt b.Ai i).Az.length-(k+1)) 0).length:Int) by omega),
    qat (show k+1<(gt b.Ai i).Bz.length by omega),qA (show k+1<(loadsL b i).length by omega),qA (show k+1<(dlL (gt b.Ai i) (loadsL b i) k++List.replicate ((gt b.Ai i).Az.length-(k+1)) 0).length by omega),qc4 (show k+1<9223372036854775807 by omega)]
   rw[qAZ (by omega) m.2 m.1];exact ih (k+1) (by omega)
 unfold qfh;rw[qA hi];simp only[jd];refine Ev.bind (qqf h hi) ?_;rw[l];simp only[jd];have:=c ((gt b.Ai i).Az.length-1) 0 (by omega);have e0:dlL (gt b.Ai i) (loadsL b i) 0++List.replicate ((gt b.Ai i).Az.length-(0+1)) 0=List.replicate (loadsL b i).length 0:=by
  rw[p];show[(0:Int)]++_=_;rw[show(gt b.Ai i).Az.length=((gt b.Ai i).Az.length-(0+1))+1 by omega,List.replicate_succ]
  rfl
 rw[e0] at this;exact Ev.bind this .done
theorem qsm{b:qh}(h:blockB b=true){i:Nat}(hi:i<b.Ai.length):Ev (fun n=>qez n b (i:Int)) (exactL b i):=by
 have d:=qbD h hi;have l:(gt b.Ai i).Bn.length<=78:=by rw[d.snk];exact qii h
 have k:=qoW h hi;have f:Ev (fun n=>qba (delaysL b i) (gt b.Ai i) n ([]:List Int) 0) (exactL b i,((gt b.Ai i).Bn.length:Int)):=by
  refine loopF (Lf:=qba (delaysL b i) (gt b.Ai i)) (S:=fun j=>((gt b.Ai i).Bn.take j).map fun s=>gt (delaysL b i) s.toNat) (len:=(gt b.Ai i).Bn.length) (fun n=>?_) (fun j a X g=>?_)
  ·simp only[qba,qk (je _),cond_false,jE];rfl
  ·have c:=d.sin j a;simp only[qba,qj a,cond_true,qat a,jd,qgq c.1 (show at0 (gt b.Ai i).Bn j<((delaysL b i).length:Int) by omega),wS j];rw[qbn (by rw[ju,jw,jm];omega)];have:((gt b.Ai i).Bn.take j).map (fun s=>gt (delaysL b i) s.toNat)++[gt (delaysL b i) (at0 (gt b.Ai i).Bn j).toNat]=((gt b.Ai i).Bn.take (j+1)).map fun s=>gt (delaysL b i) s.toNat:=by
    rw[js a,jL,qo5 a];rfl
   rw[this];exact g
 unfold qez;refine Ev.bind (qtu h hi) ?_;rw[qA hi];simp only[jd];exact Ev.bind f .done
theorem qv6{b:qh}(h:blockB b=true){i:Nat}(hi:i<b.Ai.length):∀k,k<(gt b.Ai i).Az.length->∀m,m<=k->0<=gt (dlL (gt b.Ai i) (loadsL b i) k) m/\gt (dlL (gt b.Ai i) (loadsL b i) k) m<=43000000*k:=by
 have l:=qbD h hi;have t:=l.hi;have r:=l.res;intro k
 induction k with
 |zero=>
  intro _ m u;have f:m=0:=by omega
  subst f;exact⟨Jd _,Jd _⟩
 |succ k ih=>
  intro o m u;have c:=qqy (w:=gt b.Ai i) (ld:=loadsL b i) (k:=k);unfold dlL;rw[qnj];split
  ·have:=ih (by omega) m (by omega);omega
  ·have g:m=k+1:=by omega
   subst g;rw[c,Nat.sub_self];show 0<=W64 _/\W64 _<=_;have p:=l.par (k+1) (by omega) o;obtain⟨a,s⟩:∃a:Nat,at0 (gt b.Ai i).Az (k+1)=(a:Int):=⟨_,qgS p.1⟩;rw[s] at p⊢;rw[jr];have v:=ih (by omega) a (by omega);have n:=(qrs h hi).2 (k+1) (by omega);have d:=qxo h hi o;have x:at0 (gt b.Ai i).Bz (k+1)*gt (loadsL b i) (k+1)<=1000*43000:=Jk n.2 d.2 d.1 (by omega);have y:0<=at0 (gt b.Ai i).Bz (k+1)*gt (loadsL b i) (k+1):=jZ n.1 d.1;rw[wO (at0 (gt b.Ai i).Bz (k+1)*gt (loadsL b i) (k+1)),qM (by omega) (by omega)];omega
theorem qsl{b:qh}(h:blockB b=true){i:Nat}(hi:i<b.Ai.length){j:Nat}(a:j<(gt b.Ai i).Bn.length):0<=gt (exactL b i) j/\gt (exactL b i) j<=344000000:=by
 have c:=qbD h hi;have d:=c.hi;have f:=c.sin j a;have e:gt (exactL b i) j=gt (delaysL b i) (at0 (gt b.Ai i).Bn j).toNat:=by
  unfold exactL;rw[qcG (by rw[ju];exact a),List.getElem_map,qo5 a]
 rw[e];have:=qv6 h hi ((gt b.Ai i).Az.length-1) (by omega) (at0 (gt b.Ai i).Bn j).toNat (by omega);show 0<=gt (dlL _ _ _) _/\gt (dlL _ _ _) _<=_;omega

def pre{α:Type}(f:Nat->α)(j:Nat):List α:=(List.range j).map f
theorem qnC{α:Type}{f:Nat->α}{j:Nat}:(pre f j).length=j:=by simp[pre]
theorem qAr{α:Type}{f:Nat->α}{j:Nat}:pre f j++[f j]=pre f (j+1):=by unfold pre;rw[List.range_succ,jL];rfl
theorem qse{α:Type}{f:Nat->α}{j:Nat}(h:j<=1048576):appS (pre f j) [f j]=V (pre f (j+1)):=by
 rw[qbn (by rw[qnC,jm];omega),qAr]
theorem qB4{α:Type}[Inhabited α]{f:Nat->α}{n j:Nat}(h:j<n):gt (pre f n) j=f j:=qsX h
theorem qh0{α:Type}[Inhabited α]{f:Nat->α}{n j:Nat}(h:j<n):idx (pre f n) (j:Int)=V (f j):=by rw[qA (by rw[qnC];exact h),qB4 h]
theorem qhY{α:Type}{f g:Nat->α}{n:Nat}(h:∀k,k<n->f k=g k):pre f n=pre g n:=List.map_congr_left fun k a=>h k (List.mem_range.1 a)
theorem qqA{α:Type}{f:Nat->α}{n k:Nat}{v:α}:setS (pre f n) (k:Int) v=pre (fun i=>if i=k then v else f i) n:=by
 unfold setS pre;rw[jr];refine Jp (by simp) fun i a b=>?_;rw[List.getElem_set];by_cases h:k=i
 ·subst h;simp
 ·rw[if_neg h];simp[show ¬ i=k from fun e=>h e.symm]
def fm{α:Type}(f:Nat->List α)(j:Nat):List α:=(List.range j).flatMap f
theorem qln{α:Type}{f:Nat->List α}{j:Nat}:fm f (j+1)=fm f j++f j:=by unfold fm;rw[List.range_succ,Jl];simp
theorem qqL{α:Type}{f:Nat->List α}{j c:Nat}(h:∀i,i<j->(f i).length<=c):(fm f j).length<=c*j:=by
 induction j with
 |zero=>exact je _
 |succ j ih=>rw[qln,jg];have:=ih (fun i hi=>h i (by omega));have:=h j (by omega);rw[Nat.mul_succ];omega
def transL(a:qJ):List qT:=
 bif (a.Bi==2) then[⟨0,0⟩,⟨0,1⟩] else bif (a.Bi==3) then[⟨1,0⟩,⟨1,1⟩] else bif (a.Bi != 1) then[] else
 bif (a.Br==1) then[⟨0,0⟩,⟨1,1⟩] else bif (a.Br==2) then[⟨0,1⟩,⟨1,0⟩] else[⟨0,0⟩,⟨0,1⟩,⟨1,0⟩,⟨1,1⟩]
theorem qym{a:qJ}{n:Nat}:qfy n a=V (transL a):=by
 unfold qfy transL;cases (a.Bi==2)
 ·cases (a.Bi==3)
  ·cases (a.Bi != 1)
   ·cases (a.Br==1)
    ·cases (a.Br==2)<;>rfl
    ·rfl
   ·rfl
  ·rfl
 ·rfl
theorem qs5{a:qJ}:(transL a).length<=4:=by
 unfold transL;cases (a.Bi==2)
 ·cases (a.Bi==3)
  ·cases (a.Bi != 1)
   ·cases (a.Br==1)
    ·cases (a.Br==2)<;>simp
    ·simp
   ·simp
  ·simp
 ·simp
def b01(x:Int):Prop:=x=0\/x=1
theorem qtU{a:qJ}{t:qT}(h:t∈transL a):b01 t.e0/\b01 t.e1:=by
 have b:∀t∈[(⟨0,0⟩:qT),⟨0,1⟩,⟨1,0⟩,⟨1,1⟩],b01 t.e0/\b01 t.e1:=by
  intro t c;simp only[Jf,jV,or_false] at c;rcases c with rfl|rfl|rfl|rfl<;>simp[b01]
 refine b t ?_;unfold transL at h;revert h;cases (a.Bi==2)
 ·cases (a.Bi==3)
  ·cases (a.Bi != 1)
   ·cases (a.Br==1)
    ·cases (a.Br==2)
     ·exact fun h=>h
     ·intro h;simp at h;rcases h with rfl|rfl<;>simp
    ·intro h;simp at h;rcases h with rfl|rfl<;>simp
   ·intro h;simp at h
  ·intro h;simp at h;rcases h with rfl|rfl<;>simp
 ·intro h;simp at h;rcases h with rfl|rfl<;>simp
def al1(first:Int)(k:Nat)(a:qJ)(t:qT):qx:=⟨2*(first+a.Bm)+t.e0,2*(first+a.To)+t.e1,1,(k:Int)⟩
def arcLs(first:Int)(k:Nat)(a:qJ):List qx:=(transL a).map (al1 first k a)
def cellLs(c:qz)(first:Int)(j:Nat):List qx:=fm (fun k=>arcLs first k (gt c.Bc k)) j
def instLs(b:qh)(j:Nat):List qx:=fm (fun i=>cellLs (cellAt b (i:Int)) (off b.Aa i:Int) (cellAt b (i:Int)).Bc.length) j
theorem qqJ{first:Int}{k:Nat}{a:qJ}:(arcLs first k a).length<=4:=by unfold arcLs;rw[ju];exact qs5
theorem qur{b:qh}(h:blockB b=true){i:Nat}(hi:i<b.Aa.Ab.length):Ev (fun n=>qfw n b (gt b.Aa.Ab i) (off b.Aa i:Int)) (cellLs (cellAt b (i:Int)) (off b.Aa i:Int) (cellAt b (i:Int)).Bc.length):=by
 have u:=qar h;have F:=qQ u;obtain⟨⟨z,A⟩,r,g⟩:=qh1 u hi;have C:=qpL g;have s:=(qhD (qj0 g)).1;have v:off b.Aa i<=78:=by
  have:=qaU F;rw[qhR] at this;have:=qw5 (d:=b.Aa) (show i<=b.Aa.Ab.length by omega);omega
 show Ev _ (cellLs (gt b.Au.Ay (gt b.Aa.Ab i).Bv.toNat) (off b.Aa i:Int) (gt b.Au.Ay (gt b.Aa.Ab i).Bv.toNat).Bc.length);generalize hc:gt b.Au.Ay (gt b.Aa.Ab i).Bv.toNat=c at r g C s⊢;have B:Ev (fun n=>qbs (off b.Aa i:Int) c n ([]:List qx) 0) (cellLs c (off b.Aa i:Int) c.Bc.length,(c.Bc.length:Int)):=by
  refine loopF (Lf:=qbs (off b.Aa i:Int) c) (S:=cellLs c (off b.Aa i:Int)) (len:=c.Bc.length) (fun n=>?_) (fun j p X o=>?_)
  ·simp only[qbs,qk (je _),cond_false]
  ·have I:=qoK g p;have D:(cellLs c (off b.Aa i:Int) j).length<=4*j:=qqL fun _ _=>qqJ;simp only[qbs,qj p,cond_true,qA p,jd,qym,wS j];have m:Ev (fun n=>qbz (off b.Aa i:Int) (j:Int) (gt c.Bc j) (transL (gt c.Bc j)) n (cellLs c (off b.Aa i:Int) j) 0) (cellLs c (off b.Aa i:Int) (j+1),((transL (gt c.Bc j)).length:Int)):=by
    have H:=qs5 (a:=gt c.Bc j);have:=loopF (Lf:=qbz (off b.Aa i:Int) (j:Int) (gt c.Bc j) (transL (gt c.Bc j))) (S:=fun k=>cellLs c (off b.Aa i:Int) j++((transL (gt c.Bc j)).take k).map (al1 (off b.Aa i:Int) j (gt c.Bc j))) (len:=(transL (gt c.Bc j)).length) (fin:=(cellLs c (off b.Aa i:Int) (j+1),((transL (gt c.Bc j)).length:Int))) (fun n=>by
      simp only[qbz,qk (je _),cond_false,jE];show V (cellLs c _ j++arcLs _ j _,_)=V (fm _ (j+1),_);rw[qln];rfl)
     (fun k f X o=>by
      have y:=qtU (a:=gt c.Bc j) (t:=gt (transL (gt c.Bc j)) k) (by rw[qcG f];exact jp f);have e0:W64 (W64 (2*W64 ((off b.Aa i:Int)+(gt c.Bc j).Bm))+(gt (transL (gt c.Bc j)) k).e0)=2*((off b.Aa i:Int)+(gt c.Bc j).Bm)+(gt (transL (gt c.Bc j)) k).e0:=by
       rcases y.1 with e|e<;>rw[e,wO ((off b.Aa i:Int)+(gt c.Bc j).Bm),qM (x:=2*((off b.Aa i:Int)+(gt c.Bc j).Bm)) (by omega) (by omega),qM (by omega) (by omega)]
      have e1:W64 (W64 (2*W64 ((off b.Aa i:Int)+(gt c.Bc j).To))+(gt (transL (gt c.Bc j)) k).e1)=2*((off b.Aa i:Int)+(gt c.Bc j).To)+(gt (transL (gt c.Bc j)) k).e1:=by
       rcases y.2 with e|e<;>rw[e,wO ((off b.Aa i:Int)+(gt c.Bc j).To),qM (x:=2*((off b.Aa i:Int)+(gt c.Bc j).To)) (by omega) (by omega),qM (by omega) (by omega)]
      simp only[qbz,qj f,cond_true,qA f,jd,e0,e1,wS k];rw[qbn (by rw[jg,ju,jw,jm];omega),jq];have:((transL (gt c.Bc j)).take k).map (al1 (off b.Aa i:Int) j (gt c.Bc j))++[al1 (off b.Aa i:Int) j (gt c.Bc j) (gt (transL (gt c.Bc j)) k)]=((transL (gt c.Bc j)).take (k+1)).map (al1 (off b.Aa i:Int) j (gt c.Bc j)):=qgH f;have l:((transL (gt c.Bc j)).take k).map (al1 (off b.Aa i:Int) j (gt c.Bc j))++[(⟨2*((off b.Aa i:Int)+(gt c.Bc j).Bm)+(gt (transL (gt c.Bc j)) k).e0,2*((off b.Aa i:Int)+(gt c.Bc j).To)+(gt (transL (gt c.Bc j)) k).e1,1,(j:Int)⟩:qx)]=((transL (gt c.Bc j)).take (k+1)).map (al1 (off b.Aa i:Int) j (gt c.Bc j)):=this;rw[l];exact o)
    simpa using this
   exact Ev.bind m o
 unfold qfw;rw[qgq z A,hc];simp only[jd];exact Ev.bind B .done
def dvN(d:qd)(k:Nat):Nat:=((List.range (places d).length).find? fun j=>drvQ d (k:Int) j).getD 0
theorem qkN{l:qp}{d:qd}(h:designB l d=true){k:Nat}(f:k<d.As.length):dvN d k<(places d).length/\drvQ d (k:Int) (dvN d k)=true:=by
 obtain⟨j,b,c,a⟩:=qB6 h (k:=(k:Int)) (by omega) (by omega);unfold dvN;cases hf:(List.range (places d).length).find? fun j=>drvQ d (k:Int) j with
 |none=>
  have:=List.find?_eq_none.1 hf j (List.mem_range.2 b);exact absurd (by unfold drvQ;rw[c,a];simp) this
 |some i=>exact⟨List.mem_range.1 (List.mem_of_find?_eq_some hf),by have:=List.find?_some hf;exact this⟩
theorem qqp{d:qd}{k:Int}{j:Nat}:drvQ d k j=true↔(gt (places d) j).net=k/\(gt (places d) j).drives=true:=by unfold drvQ;simp
theorem qAf{l:qp}{d:qd}(h:designB l d=true){k:Nat}(m:k<d.As.length){j:Nat}(i:j<(places d).length)(n:(gt (places d) j).net=(k:Int))(g:(gt (places d) j).drives=true):dvN d k=j:=by
 obtain⟨a,b⟩:=qkN h m;obtain⟨c,f⟩:=qqp.1 b;exact qvv h a i (by rw[c,n]) f g
def wl1(a:Nat)(s:Int)(k:Nat):List qx:=[⟨2*(a:Int),2*s,2,(k:Int)⟩,⟨2*(a:Int)+1,2*s+1,2,(k:Int)⟩]
def wlN(b:qh)(i j:Nat):List qx:=fm (fun k=>wl1 (dvN b.Aa i) (at0 (skL b i) k) k) j
def wireLs(b:qh)(j:Nat):List qx:=fm (fun i=>wlN b i (skL b i).length) j
def linksL(b:qh):List qx:=instLs b b.Aa.Ab.length++wireLs b b.Ai.length
def load0(b:qh)(i:Nat):Int:=gt (loadsL b i) 0
def viewE(b:qh)(ex:List Int):Tview:=⟨b,places b.Aa,linksL b,pre (load0 b) b.Ai.length,pre (exactL b) b.Ai.length,ex⟩
def viewV(b:qh):Tview:=viewE b []
theorem qka{b:qh}(h:blockB b=true){j:Nat}(d:j<=b.Aa.Ab.length):(instLs b j).length<=32*j:=by
 refine qqL fun i hi=>?_;obtain⟨_,_,a⟩:=qh1 (qar h) (show i<b.Aa.Ab.length by omega);have c:=qpL a;have:(cellLs (cellAt b (i:Int)) (off b.Aa i:Int) (cellAt b (i:Int)).Bc.length).length<=4*(cellAt b (i:Int)).Bc.length:=qqL fun _ _=>qqJ;have e:(cellAt b (i:Int)).Bc.length<=8:=c;omega
theorem quJ{b:qh}{i j:Nat}:(wlN b i j).length<=2*j:=qqL fun _ _=>je _
theorem qpE{b:qh}(h:blockB b=true){j:Nat}:(wireLs b j).length<=156*j:=by
 refine qqL fun i _=>?_;have:=quJ (b:=b) (i:=i) (j:=(skL b i).length);have:=qii h (i:=i);omega
theorem qhU{b:qh}(h:blockB b=true):(linksL b).length<=10000:=by
 have a:=qQ (qar h);have c:=a.ni;have d:=a.nn;have f:=qnz h;have g:=qka h (je _);have i:=qpE h (j:=b.Ai.length);unfold linksL;rw[jg];omega
theorem qwO{b:qh}(h:blockB b=true):Ev (fun n=>qld n b) (V (viewV b)):=by
 have r:=qar h;have z:=qQ r;have R:=qaU z;have Y:=z.ni;have a3:=z.nn;have hwl:=qnz h;have e1:Ev (fun n=>qeo b n ([]:List qx) 0 0) (instLs b b.Aa.Ab.length,(off b.Aa b.Aa.Ab.length:Int),(b.Aa.Ab.length:Int)):=by
  have:=loopF (τ:=List qx×Int) (Lf:=fun n t j=>qeo b n t.1 t.2 j) (S:=fun j=>(instLs b j,(off b.Aa j:Int))) (len:=b.Aa.Ab.length) (fin:=(instLs b b.Aa.Ab.length,(off b.Aa b.Aa.Ab.length:Int),(b.Aa.Ab.length:Int))) (fun n=>by simp only[qeo,qk (je _),cond_false])
   (fun j a X m=>by
    have F:=qka h (show j<=b.Aa.Ab.length by omega);have M:=qka h (show j+1<=b.Aa.Ab.length by omega);have N:=ql3 (d:=b.Aa) (i:=j);have a4:off b.Aa (j+1)<=78:=by
     rw[qhR] at R;have:=qw5 (d:=b.Aa) (show j+1<=b.Aa.Ab.length by omega);omega
    simp only[qeo,qj a,cond_true,qA a,jd,qbA,wS j];refine Ev.bind (qur h a) ?_;have e:instLs b j++cellLs (cellAt b (j:Int)) (off b.Aa j:Int) (cellAt b (j:Int)).Bc.length=instLs b (j+1):=qln.symm;rw[qbn (by rw[<-jg,e];omega),e,qM (by omega) (by omega),show(off b.Aa j:Int)+((gt b.Aa.Ab j).As.length:Int)=((off b.Aa (j+1):Nat):Int) by omega];exact m)
  exact this
 have I:mkS (b.Ai.length:Int) (0:Int)=V (vecI (fun _=>0) b.Ai.length):=qtQ (by omega);have J:mkS (b.Ai.length:Int) ([]:List Int)=V (pre (fun _=>[]) b.Ai.length):=by
  rw[qns (by omega)]
  congr 1
  refine Jp (by simp[pre]) fun i u h2=>?_;simp[pre]
 have P:Ev (fun n=>qdu (places b.Aa) n (pre (fun _=>[]) b.Ai.length) (vecI (fun _=>0) b.Ai.length) 0) (pre (fun i=>skL b i) b.Ai.length,vecI (fun k=>(dvN b.Aa k:Int)) b.Ai.length,((places b.Aa).length:Int)):=by
  have v:∀k,k<b.Ai.length->dvN b.Aa k<(places b.Aa).length:=fun k o=>(qkN r (by omega)).1;have:=loopF (τ:=List (List Int)×List Int) (Lf:=fun n t j=>qdu (places b.Aa) n t.1 t.2 j) (S:=fun j=>(pre (fun i=>sinksL b.Aa (i:Int) j) b.Ai.length,vecI (fun k=>if dvN b.Aa k<j then(dvN b.Aa k:Int) else 0) b.Ai.length)) (len:=(places b.Aa).length)
   (fin:=(pre (fun i=>skL b i) b.Ai.length,vecI (fun k=>(dvN b.Aa k:Int)) b.Ai.length,((places b.Aa).length:Int))) (fun n=>by
    simp only[qdu,qk (je _),cond_false];rw[qfX (g:=fun k=>(dvN b.Aa k:Int)) (fun k o=>if_pos (v k o))]
    rfl)
   (fun j a X m=>by
    obtain⟨n0,n1⟩:=qnX r a;obtain⟨l,p⟩:∃l:Nat,(gt (places b.Aa) j).net=(l:Int):=⟨_,qgS n0⟩;have x:l<b.Ai.length:=by omega
    simp only[qdu,qj a,cond_true,qA a,jd,p,wS j,qoC x,qh0 (f:=fun i=>sinksL b.Aa (i:Int) j) x];cases hdr:(gt (places b.Aa) j).drives
    ·have A:pre (fun i=>sinksL b.Aa (i:Int) (j+1)) b.Ai.length=setS (pre (fun i=>sinksL b.Aa (i:Int) j) b.Ai.length) (l:Int) (sinksL b.Aa (l:Int) j++[(j:Int)]):=by
      rw[qqA];refine qhY fun k o=>?_;rw[qkD];unfold snkQ;rw[p,hdr];by_cases c:k=l
      ·subst c;rw[if_pos Z];simp
      ·rw[if_neg c,show(((l:Int)==(k:Int))&&!false)=false by simp;omega];simp
     have B:vecI (fun k=>if dvN b.Aa k<j+1 then(dvN b.Aa k:Int) else 0) b.Ai.length=vecI (fun k=>if dvN b.Aa k<j then(dvN b.Aa k:Int) else 0) b.Ai.length:=by
      refine qfX fun k o=>?_;have K:dvN b.Aa k≠j:=fun e=>by
       have:=(qqp.1 (qkN r (k:=k) (by omega)).2).2;rw[e,hdr] at this;cases this
      by_cases u:dvN b.Aa k<j
      ·rw[if_pos u,if_pos (by omega)]
      ·rw[if_neg u,if_neg (by omega)]
     rw[A,B] at m;simp only[cond_false];have a7:(sinksL b.Aa (l:Int) j).length<=j:=by rw[qjX];exact qgJ
     rw[qbn (by rw[jm];omega)];exact m
    ·have A:pre (fun i=>sinksL b.Aa (i:Int) (j+1)) b.Ai.length=pre (fun i=>sinksL b.Aa (i:Int) j) b.Ai.length:=by
      refine qhY fun k o=>?_;rw[qkD];unfold snkQ;rw[hdr];simp
     have H:=qAf r (show l<b.Aa.As.length by omega) a p hdr;have B:vecI (fun k=>if dvN b.Aa k<j+1 then(dvN b.Aa k:Int) else 0) b.Ai.length=setS (vecI (fun k=>if dvN b.Aa k<j then(dvN b.Aa k:Int) else 0) b.Ai.length) (l:Int) (j:Int):=by
      rw[qsp];refine qfX fun k o=>?_;by_cases c:k=l
      ·subst c;rw[if_pos Z,H,if_pos (by omega)]
      ·rw[if_neg c];have K:dvN b.Aa k≠j:=fun e=>by
        have:=(qqp.1 (qkN r (k:=k) (by omega)).2).1;rw[e,p] at this;omega
       by_cases u:dvN b.Aa k<j
       ·rw[if_pos u,if_pos (by omega)]
       ·rw[if_neg u,if_neg (by omega)]
     rw[A,B] at m;exact m)
  simpa [sinksL,pre,vecI] using this
 have D:∀(i k:Nat) (s:Int) (t:List qx),i<b.Ai.length->0<=s->s<=78->t.length<=1000000->Ev (fun n=>qeq (vecI (fun k=>(dvN b.Aa k:Int)) b.Ai.length) (i:Int) (k:Int) s n t 0) (t++wl1 (dvN b.Aa i) s k,2):=by
  intro i k s t hi a5 a6 ht;have v:=(qkN r (k:=i) (by omega)).1;have L:idx (vecI (fun k=>(dvN b.Aa k:Int)) b.Ai.length) (i:Int)=V (dvN b.Aa i:Int):=qoC hi;refine Ev.succ ?_;simp only[qeq,L,jd];refine Ev.tt Z ?_;rw[wO (2*(dvN b.Aa i:Int)),wO (2*s),wO (2*(dvN b.Aa i:Int)+0),wO (2*s+0),qbn (by rw[jm];omega)];simp only[jd];refine Ev.succ ?_;simp only[qeq,L,jd];refine Ev.tt Z ?_;rw[show W64 (0+1)=1 from rfl,wO (2*(dvN b.Aa i:Int)),wO (2*s),wO (2*(dvN b.Aa i:Int)+1),wO (2*s+1),qbn (by rw[jg,jm,jm];omega)];simp only[jd];refine Ev.succ ?_;simp only[qeq];refine Ev.ff Z (Ev.now ?_);unfold wl1;rw[jq,Int.add_zero,Int.add_zero]
  rfl
 have C:∀(i:Nat) (t:List qx),i<b.Ai.length->t.length<=900000->Ev (fun n=>qej (vecI (fun k=>(dvN b.Aa k:Int)) b.Ai.length) (i:Int) (skL b i) n t 0) (t++wlN b i (skL b i).length,((skL b i).length:Int)):=by
  intro i t hi ht;have a8:=qii h (i:=i);have:=loopF (Lf:=qej (vecI (fun k=>(dvN b.Aa k:Int)) b.Ai.length) (i:Int) (skL b i)) (S:=fun k=>t++wlN b i k) (len:=(skL b i).length) (fin:=(t++wlN b i (skL b i).length,((skL b i).length:Int))) (fun n=>by simp only[qej,qk (je _),cond_false])
   (fun k o X m=>by
    obtain⟨y,L,ey,_⟩:=qqH o;have hwn:=quJ (b:=b) (i:=i) (j:=k);simp only[qej,qj o,cond_true,qat o,jd,wS k];refine Ev.bind (D i k (at0 (skL b i) k) (t++wlN b i k) hi (by omega) (by omega) (by rw[jg];omega)) ?_;rw[jq,show wlN b i k++wl1 (dvN b.Aa i) (at0 (skL b i) k) k=wlN b i (k+1) from qln.symm];exact m)
  simpa [wlN,fm] using this
 have Q:Ev (fun n=>qem b (pre (fun i=>skL b i) b.Ai.length) (vecI (fun k=>(dvN b.Aa k:Int)) b.Ai.length) n ([]:List (List Int)) ([]:List Int) (instLs b b.Aa.Ab.length) 0) (pre (exactL b) b.Ai.length,pre (load0 b) b.Ai.length,linksL b,(b.Ai.length:Int)):=by
  have F:=qka h (je _);have:=loopF (τ:=List (List Int)×List Int×List qx) (Lf:=fun n t j=>qem b (pre (fun i=>skL b i) b.Ai.length) (vecI (fun k=>(dvN b.Aa k:Int)) b.Ai.length) n t.1 t.2.1 t.2.2 j) (S:=fun j=>(pre (exactL b) j,pre (load0 b) j,instLs b b.Aa.Ab.length++wireLs b j)) (len:=b.Ai.length)
   (fin:=(pre (exactL b) b.Ai.length,pre (load0 b) b.Ai.length,linksL b,(b.Ai.length:Int))) (fun n=>by simp only[qem,qk (je _),cond_false];rfl)
   (fun j a X m=>by
    have hw:=qbD h a;have W:=hw.lo;have T:=qnT h a;have O:=qpE h (j:=j);simp only[qem,qj a,cond_true,wS j];refine Ev.bind (qqf h a) ?_;rw[show idx (loadsL b j) (0:Int)=V (load0 b j) from qA (j:=0) (by omega)];simp only[jd];rw[qse (by omega)];simp only[jd];refine Ev.bind (qsm h a) ?_;rw[qse (by omega),qh0 (f:=fun i=>skL b i) a];simp only[jd];refine Ev.bind (C j _ a (by rw[jg];omega)) ?_;rw[jq,show wireLs b j++wlN b j (skL b j).length=wireLs b (j+1) from qln.symm];exact m)
  simpa [wireLs,fm,pre] using this
 unfold qld;refine Ev.bind (qpa z) (Ev.bind e1 ?_);rw[I,J];simp only[jd];exact Ev.bind P (Ev.bind Q .done)
end Go.Fw


namespace Go.Fw
open Go Go.Proofs Go.Proofs.Tryz
open Go.RowKit (Below)
open Ch renaming own->oW,box->oX,grp->oG
open GoT renaming v->oV
open Go.Value renaming slice->oS
set_option maxRecDepth 100000
set_option maxHeartbeats 6400000
variable{n:Nat}{w:World}{cs1 cs2 cs3 cs4 cs5 cs6 cs7 cs8 cs9:List Value}
def qbQ(n:Nat)(b:qh):Option Int:=(qcA n (⟨b.Aa.Ab,b.Aa.As,b.Aa.Ak⟩:qd)).bind fun a=>V (W64 (2*(a.length:Int)))
theorem qdQ{b:qh}(a:Ro w b cs1){r:Int}(F:qbQ n b=V r):RetV prog 79 [oV qh cs1] w r:=by
 obtain⟨_,_,_,_,_,_,_,_,_,_,rfl,_,s2,c,d,_⟩:=qaf a;exact zV 8 func79 Z fun h=>zSR (qw h Z Z fun _ _ h=>X1 6 0 h Z (zcL h F (qcu (qaC _ (h.oldS s2) (h.oldS c) (h.oldS d))) Z fun _ _ _ _ _ h F=>X0 4 Z (ri h F Z)))
def qi6(n:Nat)(s:qe):Option Bool:=(qav n s.Ba (-1000000000) 1000000000).bind fun a=>bif a then(qav n s.Bg (-1000000000) 1000000000).bind fun b=>bif b then V (decide (s.Ba<=s.Bg)) else V false else V false
theorem ql1{s:qe}(a:Ro w s cs1){r:Bool}(F:qi6 n s=V r):RetV prog 238 [oV qe cs1] w r:=by
 obtain rfl:=qB a;refine zV 18 func238 Z fun h=>zSR (qw h Z Z fun _ _ h=>X1 6 0 h Z (zcB h F qah Z fun _ _ h F=>zp1 Z (qn (t:=6) F Z ?_ ?_)))<;>intro F
 ·refine X1 5 0 h Z (zcB h F qah Z fun _ _ h F=>zp2 Z (qn (t:=11) F Z ?_ ?_))<;>intro F
  ·exact X2 13 0 0 h Z (rb h F Z)
  exact X0 8 Z (rb h F Z)
 exact X0 13 Z (rb h F Z)
def qiB(_:Nat)(s:qe):Option Bool:=bif decide (s.Ba>=0) then bif decide (s.Ba<=s.Bg) then V (decide (s.Bg<=1000000)) else V false else V false
theorem qm4{s:qe}(a:Ro w s cs1){r:Bool}(F:qiB n s=V r):RetV prog 274 [oV qe cs1] w r:=by
 obtain rfl:=qB a;refine zV 18 func274 Z fun h=>zSR (qw h Z Z fun _ _ h=>X1 8 0 h Z (qn (t:=6) F Z ?_ ?_))<;>intro F
 ·refine X2 12 0 0 h Z (qn (t:=13) F Z ?_ ?_)<;>intro F
  ·exact X1 9 0 h Z (rb h F Z)
  exact X0 6 Z (rb h F Z)
 exact X0 13 Z (rb h F Z)
def qb7(list:(List qf))(a:Int):Nat->Int->Option (Flow Bool Int)|0,_=>U|n+1,i1=>bif decide (i1<(list.length:Int)) then(idx list i1).bind fun l=>(qav n l.Bs 0 (W64 (a-1))).bind fun g=>bif (!g) then V (.ret false) else bif decide (i1 > 0) then(idx list (W64 (i1-1))).bind fun m=>(idx list i1).bind fun o=>bif decide (m.Bs>=o.Bs) then V (.ret false) else(idx list i1).bind fun b=>(qi6 n (⟨b.Ah.Ba,b.Ah.Bg⟩:qe)).bind fun h=>bif (!h) then V (.ret false) else(idx list i1).bind fun c=>(qiB n (⟨c.Be.Ba,c.Be.Bg⟩:qe)).bind fun r4=>bif (!r4) then V (.ret false) else qb7 list a n (W64 (i1+1)) else(idx list i1).bind fun d=>(qi6 n (⟨d.Ah.Ba,d.Ah.Bg⟩:qe)).bind fun i=>bif (!i) then V (.ret false) else(idx list i1).bind fun f=>(qiB n (⟨f.Be.Ba,f.Be.Bg⟩:qe)).bind fun k=>bif (!k) then V (.ret false) else qb7 list a n (W64 (i1+1)) else V (.nxt i1)
def qgX(n:Nat)(b:qh)(list:(List qf)):Option Bool:=(qbQ n b).bind fun a=>(qb7 list a n 0).bind fun|.ret r=>V r|.nxt _=>V true
theorem qpM{b:qh}{list:(List qf)}(d:Ro w b cs1)(l:Ro w list cs2){r:Bool}(F:qgX n b list=V r):RetV prog 234 [oV qh cs1,oV (List qf) cs2] w r:=by
 obtain⟨_,_,_,_,_,_,_,_,_,_,rfl,_,_,_,_,_⟩:=qaf d;obtain⟨p6,k6,rfl,c⟩:=l;refine zV 60 func234 Z fun h=>zSR (qw h Z Z fun _ _ h=>X1 5 0 h Z (zcI h F (qdQ (h.old d)) Z fun r1 _ h F=>X0 7 Z ?_));obtain⟨o1,F,a⟩:=qc F;refine qm ?_;replace h:=h.p [] Z;refine rL (fun m e w'=>∃i1,qb7 list r1 m i1=V o1/\e=[(1,oS p6 list.length k6),(5,vi r1),(6,vi i1)]/\SH w w' []) n ⟨_,F,rfl,h⟩ Z ?_;rintro m1 _ _ ⟨i1,F,rfl,h⟩;rcases m1 with _|m1
 ·cases F
 refine X0 8 Z (qi Z F ?_ ?_)<;>intro F
 ·refine X0 4 Z (rD (zd2 Z ?_));obtain⟨_,_,F,z,_,_,_,_,J,Q,a3,o⟩:=c.ix F;obtain rfl:=qF a3;refine zdxe J Q z Z (zd1 Z (zdc 0 (o.below h.below) Z (zd2 Z ?_)));obtain⟨r2,a4,F⟩:=qc F;refine qa5 r2 (vsB _) (cB 43 Z) (fun _ hb=>qah  a4) Z Z Z Z (zd2 Z (qaX (t:=24) F Z ?_ ?_))<;>intro F
  ·refine Y0 35 Z (dN h fun _ h=>qcs Z Z (X0 4 Z ?_));obtain rfl:=qb F;replace F:=a;exact rb h F Z
  refine Y0 6 Z (qaX (t:=27) F Z ?_ ?_)<;>intro F
  ·refine Y0 7 Z ?_;obtain⟨_,_,F,A,_,_,_,_,K,R,a5,p⟩:=c.ix F;obtain rfl:=qF a5;refine zdxe K R A Z (Y0 3 Z (zdc 0 (p.below h.below) Z (Y0 5 Z ?_)));obtain⟨_,_,F,B,_,_,_,_,L,S,a6,s⟩:=c.ix F;obtain rfl:=qF a6;refine zdxe L S B Z (Y0 3 Z (zdc 0 (s.below h.below) Z (Y0 6 Z (qaX (t:=42) F Z ?_ ?_))))<;>intro F
   ·refine Y0 17 Z (dN h fun _ h=>qcs Z Z (X0 4 Z ?_));obtain rfl:=qb F;replace F:=a;exact rb h F Z
   refine Y0 5 Z ?_;obtain⟨_,_,F,C,_,_,_,_,M,T,a7,u⟩:=c.ix F;obtain rfl:=qF a7;refine zdxe M T C Z (Y0 3 Z (zdc 1 (u.below h.below) Z (Y0 1 Z ?_)));obtain⟨r3,a8,F⟩:=qc F;refine qa5 r3 (vsB _) (cB 238 Z) (fun _ hb=>ql1 (qD _) a8) Z Z Z Z (Y0 4 Z (qaX (t:=51) F Z ?_ ?_))<;>intro F
   ·refine Y0 8 Z (dN h fun _ h=>qcs Z Z (X0 4 Z ?_));obtain rfl:=qb F;replace F:=a;exact rb h F Z
   refine Y0 5 Z ?_;obtain⟨_,_,F,D,_,_,_,_,N,W,a9,v⟩:=c.ix F;obtain rfl:=qF a9;refine zdxe N W D Z (Y0 3 Z (zdc 3 (v.below h.below) Z (Y0 1 Z ?_)));obtain⟨r4,b4,F⟩:=qc F;refine qa5 r4 (vsB _) (cB 274 Z) (fun _ hb=>qm4 (qD _) b4) Z Z Z Z (Y0 3 Z (dN h fun _ h=>qi Z F ?_ ?_))<;>intro F
   ·refine X0 4 Z ?_;obtain rfl:=qb F;replace F:=a;exact rb h F Z
   exact X0 7 Z (rK ⟨_,F,rfl,h⟩ Z)
  refine Y0 21 Z ?_;obtain⟨_,_,F,H,_,_,_,_,O,X,f,x⟩:=c.ix F;obtain rfl:=qF f;refine zdxe O X H Z (Y0 3 Z (zdc 1 (x.below h.below) Z (Y0 1 Z ?_)));obtain⟨r5,g,F⟩:=qc F;refine qa5 r5 (vsB _) (cB 238 Z) (fun _ hb=>ql1 (qD _) g) Z Z Z Z (Y0 4 Z (qaX (t:=51) F Z ?_ ?_))<;>intro F
  ·refine Y0 8 Z (dN h fun _ h=>qcs Z Z (X0 4 Z ?_));obtain rfl:=qb F;replace F:=a;exact rb h F Z
  refine Y0 5 Z ?_;obtain⟨_,_,F,I,_,_,_,_,P,Y,i,y⟩:=c.ix F;obtain rfl:=qF i;refine zdxe P Y I Z (Y0 3 Z (zdc 3 (y.below h.below) Z (Y0 1 Z ?_)));obtain⟨r6,k,F⟩:=qc F;refine qa5 r6 (vsB _) (cB 274 Z) (fun _ hb=>qm4 (qD _) k) Z Z Z Z (Y0 3 Z (dN h fun _ h=>qi Z F ?_ ?_))<;>intro F
  ·refine X0 4 Z ?_;obtain rfl:=qb F;replace F:=a;exact rb h F Z
  exact X0 7 Z (rK ⟨_,F,rfl,h⟩ Z)
 refine qt Z ?_;obtain rfl:=qb F;replace F:=a;exact X0 4 Z (rb h F Z)
def qmp(n:Nat)(t:Int):Option Bool:=(qa4 n t (-1000000000) 1000000000).bind fun a=>V a
theorem qoO{t}  {r:Bool}(F:qmp n t=V r):RetV prog 221 [vi t] w r:=by
 exact zV 5 func221 Z fun h=>X0 7 Z (zcB h F qaI Z fun _ _ h F=>X0 2 Z (rb h F Z))
def qhW(n:Nat)(s:qe):Option Bool:=(qmp n s.Ba).bind fun a=>bif a then(qmp n s.Bg).bind fun b=>bif b then V (decide (s.Ba<=s.Bg)) else V false else V false
theorem qjG{s:qe}(a:Ro w s cs1){r:Bool}(F:qhW n s=V r):RetV prog 163 [oV qe cs1] w r:=by
 obtain rfl:=qB a;refine zV 18 func163 Z fun h=>zSR (qw h Z Z fun _ _ h=>X1 6 0 h Z (zcB h F qoO Z fun _ _ h F=>zp1 Z (qn (t:=6) F Z ?_ ?_)))<;>intro F
 ·refine X1 5 0 h Z (zcB h F qoO Z fun _ _ h F=>zp2 Z (qn (t:=11) F Z ?_ ?_))<;>intro F
  ·exact X2 13 0 0 h Z (rb h F Z)
  exact X0 8 Z (rb h F Z)
 exact X0 13 Z (rb h F Z)
def qmG(n:Nat)(b:Int):Option Bool:=(qa4 n b 0 1000000).bind fun a=>V a
theorem qoL{a_n}  {r:Bool}(F:qmG n a_n=V r):RetV prog 263 [vi a_n] w r:=by
 exact zV 5 func263 Z fun h=>X0 7 Z (zcB h F qaI Z fun _ _ h F=>X0 2 Z (rb h F Z))
def qiv(n:Nat)(s:qe):Option Bool:=(qhW n s).bind fun a=>bif a then(qmG n s.Ba).bind fun b=>bif b then(qmG n s.Bg).bind fun c=>V c else V false else V false
theorem qmY{s:qe}(a:Ro w s cs1){r:Bool}(F:qiv n s=V r):RetV prog 213 [oV qe cs1] w r:=by
 obtain rfl:=qB a;refine zV 15 func213 Z fun h=>zSR (qw h Z Z fun _ _ h=>X1 5 0 h Z (zcB h F (qjG (h.old a)) Z fun _ _ h F=>zp1 Z (qn (t:=5) F Z ?_ ?_)))<;>intro F
 ·refine X1 5 0 h Z (zcB h F qoL Z fun _ _ h F=>zp2 Z (qn (t:=10) F Z ?_ ?_))<;>intro F
  ·exact X1 5 0 h Z (zcB h F qoL Z fun _ _ h F=>X0 3 Z (rb h F Z))
  exact X0 6 Z (rb h F Z)
 exact X0 11 Z (rb h F Z)
def qeA(_:Nat)(list:(List Tplace)):Option Int:=V (list.length:Int)
theorem qme{list:(List Tplace)}(a:Ro w list cs1){r:Int}(F:qeA n list=V r):RetV prog 112 [oV (List Tplace) cs1] w r:=by
 obtain⟨_,_,rfl,_⟩:=a;exact zV 5 func112 Z fun h=>X0 10 Z (ri h F Z)
def qcb(n:Nat)(v:(Option Tview)):Option Int:=(v).bind fun b=>(qeA n b.places).bind fun a=>V (W64 (2*a))
theorem qdJ{v:(Option Tview)}(a:Ro w v cs1){r:Int}(F:qcb n v=V r):RetV prog 68 [oV (Option Tview) cs1] w r:=by
 obtain⟨_,rfl,g⟩:=qaA a;refine zV 9 func68 Z fun h=>X0 7 Z ?_;obtain⟨_,d,F⟩:=qc F;obtain⟨_,f,_,rfl,-,c,b⟩:=PtR.get g d;obtain⟨_,_,_,_,_,_,_,_,_,_,_,_,_,_,_,_,_,_,_,_,rfl,_,_,_,_,_,i,_,_,_,_⟩:=qcn c;exact zp2 Z (zc 5 (b.below h.below) Z (zcI h F (qme ⟨_,_,rfl,(h.oldS i)⟩) Z fun _ _ h F=>X0 3 Z (ri h F Z)))
def qjW(n:Nat)(v:(Option Tview))(node:Int):Option Bool:=(qcb n v).bind fun a=>(qa4 n node 0 (W64 (a-1))).bind fun b=>V b
theorem qpt{v:(Option Tview)}{node}(a:Ro w v cs1){r:Bool}(F:qjW n v node=V r):RetV prog 216 [oV (Option Tview) cs1,vi node] w r:=by
 obtain⟨_,rfl,b⟩:=qaA a;exact zV 10 func216 Z fun h=>X0 8 Z (zcI h F (qdJ (h.old b)) Z fun _ _ h F=>zp1 Z (zcB h F qaI Z fun _ _ h F=>X0 2 Z (rb h F Z)))
def qa3(v:(Option Tview))(list:(List qf)):Nat->Int->Option (Flow Bool Int)|0,_=>U|n+1,i1=>bif decide (i1<(list.length:Int)) then(idx list i1).bind fun a=>(qjW n v a.Bs).bind fun b=>bif (!b) then V (.ret false) else(qhW n (⟨a.Ah.Ba,a.Ah.Bg⟩:qe)).bind fun c=>bif (!c) then V (.ret false) else(qiv n (⟨a.Be.Ba,a.Be.Bg⟩:qe)).bind fun d=>bif (!d) then V (.ret false) else bif decide (i1 > 0) then(idx list (W64 (i1-1))).bind fun f=>bif decide (f.Bs>=a.Bs) then V (.ret false) else qa3 v list n (W64 (i1+1)) else qa3 v list n (W64 (i1+1)) else V (.nxt i1)
def qd1(n:Nat)(v:(Option Tview))(list:(List qf)):Option Bool:=(qa3 v list n 0).bind fun|.ret r=>V r|.nxt _=>V true
theorem qnk{v:(Option Tview)}{list:(List qf)}(b:Ro w v cs1)(c:Ro w list cs2){r:Bool}(F:qd1 n v list=V r):RetV prog 158 [oV (Option Tview) cs1,oV (List qf) cs2] w r:=by
 obtain⟨H,rfl,L⟩:=qaA b;obtain⟨C,A,rfl,s2⟩:=c;refine zV 47 func158 Z fun h=>X0 11 Z ?_;obtain⟨D,F,a⟩:=qc F;refine qm (rL (fun m e w'=>∃i1,qa3 v list m i1=V D/\e=[(0,.pointer H),(1,oS C list.length A),(7,oS C list.length A),(8,vi (list.length:Int)),(9,vi i1)]/\SH w w' []) n ⟨_,F,rfl,h⟩ Z ?_);rintro B _ _ ⟨i1,F,rfl,h⟩;rcases B with _|B
 ·cases F
 refine X0 5 Z (qi Z F ?_ ?_)<;>intro F
 ·refine X0 6 Z ?_;obtain⟨_,_,F,g,_,_,_,_,k,o,s,d⟩:=s2.ix F;obtain rfl:=qF s;refine zxe k o g Z (zc 0 (d.below h.below) Z (qq qa h Z Z Z fun _ _ h=>zp1 Z (zs 0 h Z fun _ h=>zNS (rD (Y1 3 0 h Z ?_)))));obtain⟨I,u,F⟩:=qc F;refine qa5 I (vsB _) (cB 216 Z) (fun _ M=>qpt ((h.ext M).old L) u) Z Z Z Z (zd2 Z (qaX (t:=19) F Z ?_ ?_))<;>intro F
  ·refine Y0 26 Z (dN h fun _ h=>qcs Z Z (X0 4 Z ?_));obtain rfl:=qb F;replace F:=a;exact rb h F Z
  refine Y1 4 0 h Z ?_;refine Y0 1 Z ?_;obtain⟨J,x,F⟩:=qc F;refine qa5 J (vsB _) (cB 163 Z) (fun _ M=>qjG (qD _) x) Z Z Z Z (Y0 4 Z (qaX (t:=25) F Z ?_ ?_))<;>intro F
  ·refine Y0 20 Z (dN h fun _ h=>qcs Z Z (X0 4 Z ?_));obtain rfl:=qb F;replace F:=a;exact rb h F Z
  refine Y1 4 0 h Z ?_;refine Y0 1 Z ?_;obtain⟨K,y,F⟩:=qc F;refine qa5 K (vsB _) (cB 213 Z) (fun _ M=>qmY (qD _) y) Z Z Z Z (Y0 4 Z (qaX (t:=31) F Z ?_ ?_))<;>intro F
  ·refine Y0 14 Z (dN h fun _ h=>qcs Z Z (X0 4 Z ?_));obtain rfl:=qb F;replace F:=a;exact rb h F Z
  refine Y0 6 Z (qaX (t:=34) F Z ?_ ?_)<;>intro F
  ·refine Y0 7 Z ?_;obtain⟨_,_,F,i,_,_,_,_,l,p,z,f⟩:=s2.ix F;obtain rfl:=qF z;refine zdxe l p i Z (Y0 3 Z (zdc 0 (f.below h.below) Z (Y1 4 0 h Z ?_)));refine Y0 5 Z (dN h fun _ h=>qi Z F ?_ ?_)<;>intro F
   ·refine X0 4 Z ?_;obtain rfl:=qb F;replace F:=a;exact rb h F Z
   refine X0 6 Z ?_;replace h:=h.p [] Z;exact rK ⟨_,F,rfl,h⟩ Z
  refine Y0 12 Z (dN h fun _ h=>qcg Z Z (X0 6 Z ?_));replace h:=h.p [] Z;exact rK ⟨_,F,rfl,h⟩ Z
 refine qt Z ?_;obtain rfl:=qb F;replace F:=a;exact X0 4 Z (rb h F Z)
def qma(_:Nat)(a:(List qf))(left:Int):Option Int:=bif decide ((W64 (left-(a.length:Int)))<0) then V (-1) else V (W64 (left-(a.length:Int)))
theorem qpY{a:(List qf)}{left}(b:Ro w a cs1){r:Int}(F:qma n a left=V r):RetV prog 25 [oV (List qf) cs1,vi left] w r:=by
 obtain⟨_,_,rfl,_⟩:=b;refine zV 12 func25 Z fun h=>X0 18 Z (qi Z F ?_ ?_)<;>intro F
 ·exact X0 4 Z (ri h F Z)
 exact X0 6 Z (ri h F Z)
def qkQ(_:Nat)(a:qe):Option qe:=V (⟨a.Ba,a.Bg⟩:qe)
theorem qop{a:qe}(b:Ro w a cs1){r:qe}(F:qkQ n a=V r):RetV prog 107 [oV qe cs1] w r:=by
 obtain rfl:=qB b;refine zV 11 func107 Z fun h=>zSR (qw h Z Z fun _ _ h=>qq qa h Z Z Z fun _ _ h=>zNSR (qq qa h Z Z Z fun _ _ h=>X1 6 2 h Z (zs 0 h Z fun _ h=>X1 6 2 h Z (zs 0 h Z fun _ h=>X1 4 0 h Z (zs 1 h Z fun _ h=>qan ?_)))));obtain rfl:=qb F;exact qac qa (ρ:=qe) [oV qe (qiL a)] h ⟨⟨_,_,_,rfl,rfl,h.box 1 Z,rfl⟩,G⟩ (PV.done h (qae (qv (S:=fun _=>False) (qD (⟨a.Ba,a.Bg⟩:qe)))))
def qiy(n:Nat)(a:qf):Option qf:=(qkQ n (⟨a.Ah.Ba,a.Ah.Bg⟩:qe)).bind fun b=>(qkQ n (⟨a.Be.Ba,a.Be.Bg⟩:qe)).bind fun c=>V (⟨a.Bs,(⟨b.Ba,b.Bg⟩:qe),(⟨c.Ba,c.Bg⟩:qe)⟩:qf)
theorem qqU{a:qf}(d:Ro w a cs1){r:qf}(F:qiy n a=V r):RetV prog 65 [oV qf cs1] w r:=by
 obtain rfl:=qF d;refine zV 16 func65 Z fun h=>zSR (qw h Z Z fun _ _ h=>qq qa h Z Z Z fun _ _ h=>zNSR (qq qa h Z Z Z fun _ _ h=>X1 6 2 h Z (zs 0 h Z fun _ h=>X1 5 2 h Z (zcO h F (qop (qD _)) Z fun b _ _ _ h F=>?_))));obtain rfl:=qB (h.own 0 Z);refine zp1 Z (zs 1 h Z fun _ h=>X1 5 3 h Z (zcO h F (qop (qD _)) Z fun c _ _ _ h F=>?_));obtain rfl:=qB (h.own 0 Z);refine zp1 Z (zs 2 h Z fun _ h=>X1 4 2 h Z (zs 3 h Z fun _ h=>qan ?_));obtain rfl:=qb F;exact qac qa (ρ:=qf) [oV qf [vi a.Bs,vi b.Ba,vi b.Bg,vi c.Ba,vi c.Bg]] h ⟨⟨_,_,_,rfl,rfl,h.box 3 Z,rfl⟩,G⟩ (PV.done h (qae (qv (S:=fun _=>False) (qaG (⟨a.Bs,(⟨b.Ba,b.Bg⟩:qe),(⟨c.Ba,c.Bg⟩:qe)⟩:qf)))))
def qfI(a:(List qf)):Nat->(List qf)->Int->Option ((List qf)×Int)|0,_,_=>U|n+1,b,i1=>bif decide (i1<(a.length:Int)) then(idx a i1).bind fun d=>(qiy n d).bind fun c=>(idx b i1).bind fun _=>qfI a n (setS b i1 c) (W64 (i1+1)) else V (b,i1)
def qje(n:Nat)(a:(List qf)):Option (List qf):=(mkS (a.length:Int) ((⟨0,(⟨0,0⟩:qe),(⟨0,0⟩:qe)⟩:qf):qf)).bind fun x1=>(qfI a n x1 0).bind fun(b,_)=>V b
theorem qp8{a:(List qf)}(i:Ro w a cs1){r:(List qf)}(F:qje n a=V r):RetV prog 30 [oV (List qf) cs1] w r:=by
 obtain⟨I,D,rfl,J⟩:=i;refine zV 23 func30 Z fun h=>X0 8 Z ?_;obtain⟨x1,b,F⟩:=qc F;obtain⟨B,C,b⟩:=qU b;refine qam qa qf h Z Z Z Z Z Z Z Z Z B C b Z fun _ S1 z h=>X0 7 Z ?_;obtain⟨H,F,g⟩:=qc F;refine qm (rL (fun m e w'=>∃x i1,qfI a m x i1=V H/\e=[(0,oS I a.length D),(3,oS z x1.length x1.length),(4,vi i1)]/\SH w w' [oW S1 (x:List qf) [oS z x1.length x1.length]]) n ⟨_,_,F,rfl,h⟩ Z ?_);rintro y _ _ ⟨x,i1,F,rfl,h⟩;rcases y with _|y
 ·cases F
 refine X0 8 Z (qi Z F ?_ ?_)<;>intro F
 ·refine X0 8 Z ?_;obtain⟨K,_,F,o,_,_,_,_,p,s,t,k⟩:=J.ix F;obtain rfl:=qF t;refine zxe p s o Z (zc 0 (k.below h.below) Z (zcO h F (qqU (qaG K)) Z fun A _ _ _ h F=>?_));obtain rfl:=qF (h.own 0 Z);obtain⟨L,v,F,c,_,_,_,_,d,f,u,l⟩:=(h.sl 1 Z).1.ix F;obtain rfl:=qF u;refine zx d f ⟨c.1,qC c.2.1 (h.sl 1 Z).2⟩ Z (qax qa 1 0 A h Z v d f (qaG L) l Z Z Z (qaG A) Z Z Z fun _ h=>X0 7 Z ?_);replace h:=h.p [1] Z;exact rK ⟨_,_,F,rfl,h⟩ Z
 refine qt Z ?_;obtain rfl:=qb F;replace F:=g;refine X0 5 Z ?_;obtain rfl:=qb F;exact rO 0 h Z ⟨rfl,G⟩
def qky(_:Nat)(a:qe)(b:qe):Option Bool:=bif (a.Ba != b.Ba) then V false else bif (a.Bg != b.Bg) then V false else V true
theorem qoG{a:qe}{b:qe}(c:Ro w a cs1)(d:Ro w b cs2){r:Bool}(F:qky n a b=V r):RetV prog 119 [oV qe cs1,oV qe cs2] w r:=by
 obtain rfl:=qB c;obtain rfl:=qB d;refine zV 15 func119 Z fun h=>zSR (qw h Z Z fun _ _ h=>qw h Z Z fun _ _ h=>X2 11 1 0 h Z (qi Z F ?_ ?_))<;>intro F
 ·exact X0 4 Z (rb h F Z)
 refine X2 10 1 0 h Z (qi Z F ?_ ?_)<;>intro F
 ·exact X0 4 Z (rb h F Z)
 exact X0 5 Z (rb h F Z)
def qis(n:Nat)(a:qf)(b:qf):Option Bool:=bif (a.Bs != b.Bs) then V false else(qky n (⟨a.Ah.Ba,a.Ah.Bg⟩:qe) (⟨b.Ah.Ba,b.Ah.Bg⟩:qe)).bind fun c=>bif (!c) then V false else(qky n (⟨a.Be.Ba,a.Be.Bg⟩:qe) (⟨b.Be.Ba,b.Be.Bg⟩:qe)).bind fun d=>bif (!d) then V false else V true
theorem qq2{a:qf}{b:qf}(c:Ro w a cs1)(d:Ro w b cs2){r:Bool}(F:qis n a b=V r):RetV prog 74 [oV qf cs1,oV qf cs2] w r:=by
 obtain rfl:=qF c;obtain rfl:=qF d;refine zV 22 func74 Z fun h=>zSR (qw h Z Z fun _ _ h=>qw h Z Z fun _ _ h=>X2 11 1 0 h Z (qi Z F ?_ ?_))<;>intro F
 ·exact X0 4 Z (rb h F Z)
 refine X2 8 1 0 h Z (zcB h F (qoG (qD _) (qD _)) Z fun _ _ h F=>X0 2 Z (qi Z F ?_ ?_))<;>intro F
 ·exact X0 4 Z (rb h F Z)
 refine X2 8 1 0 h Z (zcB h F (qoG (qD _) (qD _)) Z fun _ _ h F=>X0 2 Z (qi Z F ?_ ?_))<;>intro F
 ·exact X0 4 Z (rb h F Z)
 exact X0 5 Z (rb h F Z)
def qfS(a:(List qf))(b:(List qf)):Nat->Int->Option (Flow Bool Int)|0,_=>U|n+1,i1=>bif decide (i1<(a.length:Int)) then(idx a i1).bind fun d=>(idx b i1).bind fun f=>(qis n d f).bind fun c=>bif (!c) then V (.ret false) else qfS a b n (W64 (i1+1)) else V (.nxt i1)
def qjt(n:Nat)(a:(List qf))(b:(List qf)):Option Bool:=bif ((a.length:Int) != (b.length:Int)) then V false else(qfS a b n 0).bind fun|.ret r=>V r|.nxt _=>V true
theorem qqb{a:(List qf)}{b:(List qf)}(d:Ro w a cs1)(f:Ro w b cs2){r:Bool}(F:qjt n a b=V r):RetV prog 36 [oV (List qf) cs1,oV (List qf) cs2] w r:=by
 obtain⟨C,z,rfl,I⟩:=d;obtain⟨D,A,rfl,s2⟩:=f;refine zV 27 func36 Z fun h=>X0 13 Z (qi Z F ?_ ?_)<;>intro F
 ·exact X0 4 Z (rb h F Z)
 refine X0 6 Z ?_;obtain⟨B,F,c⟩:=qc F;refine qm (rL (fun m e w'=>∃i1,qfS a b m i1=V B/\e=[(0,oS C a.length z),(1,oS D b.length A),(5,vi i1)]/\SH w w' []) n ⟨_,F,rfl,h⟩ Z ?_);rintro y _ _ ⟨i1,F,rfl,h⟩;rcases y with _|y
 ·cases F
 refine X0 8 Z (qi Z F ?_ ?_)<;>intro F
 ·refine X0 4 Z (rD (zd2 Z ?_));obtain⟨J,_,F,k,_,_,_,_,o,s,u,g⟩:=I.ix F;obtain rfl:=qF u;refine zdxe o s k Z (zdc 0 (g.below h.below) Z (zd2 Z ?_));obtain⟨K,_,F,l,_,_,_,_,p,t,v,i⟩:=s2.ix F;obtain rfl:=qF v;refine zdxe p t l Z (zdc 0 (i.below h.below) Z ?_);obtain⟨H,x,F⟩:=qc F;refine qa5 H (vsB _) (cB 74 Z) (fun _ L=>qq2 (qaG J) (qaG K) x) Z Z Z Z (zd1 Z (dN h fun _ h=>qi Z F ?_ ?_))<;>intro F
  ·refine X0 4 Z ?_;obtain rfl:=qb F;replace F:=c;exact rb h F Z
  exact X0 7 Z (rK ⟨_,F,rfl,h⟩ Z)
 refine qt Z ?_;obtain rfl:=qb F;replace F:=c;exact X0 4 Z (rb h F Z)
def qm1(_:Nat)(list:(List Bool)):Option Int:=V (list.length:Int)
theorem qpo{list:(List Bool)}(a:Ro w list cs1){r:Int}(F:qm1 n list=V r):RetV prog 211 [oV (List Bool) cs1] w r:=by
 obtain⟨_,_,rfl,_⟩:=a;exact zV 5 func211 Z fun h=>X0 10 Z (ri h F Z)
def qho(_:Nat)(list:(List qe)):Option Int:=V (list.length:Int)
theorem qiw{list:(List qe)}(a:Ro w list cs1){r:Int}(F:qho n list=V r):RetV prog 212 [oV (List qe) cs1] w r:=by
 obtain⟨_,_,rfl,_⟩:=a;exact zV 5 func212 Z fun h=>X0 10 Z (ri h F Z)
def qfg(a:qr):Nat->Int->Option (Flow Bool Int)|0,_=>U|n+1,i1=>bif decide (i1<(a.Bb.length:Int)) then(idx a.Bb i1).bind fun g=>(idx a.Ah i1).bind fun h=>(qhW n h).bind fun d=>bif (!d) then V (.ret false) else(idx a.Be i1).bind fun i=>(qiv n i).bind fun f=>bif (!f) then V (.ret false) else bif (!g) then(idx a.Ah i1).bind fun b=>bif (!((b.Ba==0)&&(b.Bg==0))) then V (.ret false) else(idx a.Be i1).bind fun c=>bif (!((c.Ba==0)&&(c.Bg==0))) then V (.ret false) else qfg a n (W64 (i1+1)) else qfg a n (W64 (i1+1)) else V (.nxt i1)
def qlQ(n:Nat)(b:(Option Tview))(a:qr):Option Bool:=(qcb n b).bind fun c=>((qm1 n a.Bb).bind fun r4=>bif (r4 != c) then V true else(qho n a.Ah).bind fun d=>bif (d != c) then V true else(qho n a.Be).bind fun f=>V (f != c)).bind fun b1=>bif b1 then V false else(qfg a n 0).bind fun|.ret r=>V r|.nxt _=>V true
theorem qoe{f:(Option Tview)}{a:qr}(k:Ro w f cs1)(l:Ro w a cs2){r:Bool}(F:qlQ n f a=V r):RetV prog 156 [oV (Option Tview) cs1,oV qr cs2] w r:=by
 obtain⟨_,rfl,s1⟩:=qaA k;obtain⟨W,T,p3,k2,p4,k3,rfl,s2,X,Y⟩:=qdd l;refine zV 76 func156 Z fun h=>zSR (qw h Z Z fun _ c h=>X0 5 Z (zcI h F (qdJ (h.old s1)) Z fun _ _ h F=>X0 4 Z ?_));obtain⟨i,g,_,F,d⟩:=bindE F;refine qa0 (fun e w'=>∃b1,i b1=V r/\e=[(3,vp c),(28,.bool b1)]/\SH w w' [oX c (qb2 a W p3 p4 T k2 k3) 111]) ?_ ?_
 ·refine X1 3 0 h Z (zcI h F (qpo ⟨_,_,rfl,(h.oldS s2)⟩) Z fun _ _ h F=>zp3 Z (qn (t:=15) F Z ?_ ?_))<;>intro F
  ·refine X0 14 Z ?_;obtain rfl:=qb F;exact rG ⟨_,d,rfl,h⟩ Z
  refine X1 5 0 h Z (zcI h F (qiw ⟨_,_,rfl,(h.oldS X)⟩) Z fun _ _ h F=>X0 6 Z (qn (t:=22) F Z ?_ ?_))<;>intro F
  ·refine X0 7 Z ?_;obtain rfl:=qb F;exact rG ⟨_,d,rfl,h⟩ Z
  refine X1 5 0 h Z (zcI h F (qiw ⟨_,_,rfl,(h.oldS Y)⟩) Z fun _ _ h F=>X0 6 Z ?_);obtain rfl:=qb F;exact rG ⟨_,d,rfl,h⟩ Z
 rintro _ _ ⟨b1,F,rfl,h⟩;subst g;refine qi Z F ?_ ?_<;>intro F
 ·exact X0 4 Z (rb h F Z)
 refine X1 9 0 h Z ?_;obtain⟨o1,F,b⟩:=qc F;refine qm (rL (fun m e w'=>∃i1,qfg a m i1=V o1/\e=[(3,vp c),(30,oS W a.Bb.length T),(31,vi (a.Bb.length:Int)),(32,vi i1)]/\SH w w' [oX c (qb2 a W p3 p4 T k2 k3) 111]) n ⟨_,F,rfl,h⟩ Z ?_);rintro m1 _ _ ⟨i1,F,rfl,h⟩;rcases m1 with _|m1
 ·cases F
 refine X0 5 Z (qi Z F ?_ ?_)<;>intro F
 ·refine X0 6 Z ?_;obtain⟨_,_,F,x,_,_,_,_,C,K,rfl,o⟩:=s2.ix F;refine zxe C K x Z (zc 0 (o.below h.below) Z (X1 8 0 h Z ?_));obtain⟨y2,_,F,y,_,_,_,_,D,L,P,p⟩:=X.ix F;obtain rfl:=qB P;refine zxe D L y Z (zc 0 (p.below h.below) Z (zcB h F (qjG (qD y2)) Z fun _ _ h F=>zp2 Z (qn (t:=44) F Z ?_ ?_)))<;>intro F
  ·refine X0 31 Z (qcs Z Z (X0 4 Z ?_));obtain rfl:=qb F;replace F:=b;exact rb h F Z
  refine X1 7 0 h Z ?_;obtain⟨y3,_,F,z,_,_,_,_,H,M,Q,s⟩:=Y.ix F;obtain rfl:=qB Q;refine zxe H M z Z (X0 1 Z (zc 0 (s.below h.below) Z (X0 1 Z (zcB h F (qmY (qD y3)) Z fun _ _ h F=>X0 4 Z (qn (t:=53) F Z ?_ ?_)))))<;>intro F
  ·refine X0 22 Z (qcs Z Z (X0 4 Z ?_));obtain rfl:=qb F;replace F:=b;exact rb h F Z
  refine X0 6 Z (qn (t:=56) F Z ?_ ?_)<;>intro F
  ·refine X1 7 0 h Z ?_;obtain⟨_,_,F,A,_,_,_,_,I,N,R,u⟩:=X.ix F;obtain rfl:=qB R;refine zxe I N A Z (X0 1 Z (zc 0 (u.below h.below) Z (X0 1 Z (r_v (qH qa [] [] Z Z Z Z Z Z Z Z) Z (X0 1 Z (r_v (qzN (by kernel_rfl) Z Z) Z (X0 2 Z (qn (t:=64) F Z ?_ ?_))))))))<;>intro F
   ·refine X0 13 Z (qcs Z Z (X0 4 Z ?_));obtain rfl:=qb F;replace F:=b;exact rb h F Z
   refine X1 7 0 h Z ?_;obtain⟨_,_,F,B,_,_,_,_,J,O,S,v⟩:=Y.ix F;obtain rfl:=qB S;refine zxe J O B Z (X0 1 Z (zc 0 (v.below h.below) Z (X0 1 Z (r_v (qH qa [] [] Z Z Z Z Z Z Z Z) Z (X0 1 Z (r_v (qzN (by kernel_rfl) Z Z) Z (X0 6 Z (qi Z F ?_ ?_))))))))<;>intro F
   ·refine X0 4 Z ?_;obtain rfl:=qb F;replace F:=b;exact rb h F Z
   exact X0 6 Z (rK ⟨_,F,rfl,h⟩ Z)
  exact X0 20 Z (qcg Z Z (X0 6 Z (rK ⟨_,F,rfl,h⟩ Z)))
 refine qt Z ?_;obtain rfl:=qb F;replace F:=b;exact X0 4 Z (rb h F Z)
def qhm(_:Nat)(list:(List qx)):Option Int:=V (list.length:Int)
theorem qmR{list:(List qx)}(a:Ro w list cs1){r:Int}(F:qhm n list=V r):RetV prog 214 [oV (List qx) cs1] w r:=by
 obtain⟨_,_,rfl,_⟩:=a;exact zV 5 func214 Z fun h=>X0 10 Z (ri h F Z)
def qfc(n:Nat)(v:(Option Tview))(list:(List Int)):Option Bool:=(v).bind fun d=>(qhm n d.links).bind fun a=>(qb6 n list 0 (W64 (a-1))).bind fun b=>bif b then(qfQ n list).bind fun c=>V c else V false
theorem qoi{v:(Option Tview)}{list:(List Int)}(a:Ro w v cs1)(b:Ro w list cs2){r:Bool}(F:qfc n v list=V r):RetV prog 157 [oV (Option Tview) cs1,oV (List Int) cs2] w r:=by
 obtain⟨_,rfl,i⟩:=qaA a;obtain⟨_,_,rfl,s2⟩:=b;refine zV 17 func157 Z fun h=>X0 8 Z ?_;obtain⟨_,f,F⟩:=qc F;obtain⟨_,g,_,rfl,-,d,c⟩:=PtR.get i f;obtain⟨_,_,_,_,_,_,_,_,_,_,_,_,_,_,_,_,_,_,_,_,rfl,_,_,_,_,_,_,k,_,_,_⟩:=qcn d;refine zp2 Z (zc 6 (c.below h.below) Z (zcI h F (qmR ⟨_,_,rfl,(h.oldS k)⟩) Z fun _ _ h F=>zp1 Z (zcB h F (qct ⟨_,_,rfl,(h.oldS s2)⟩) Z fun _ _ h F=>zp1 Z (qn (t:=13) F Z ?_ ?_))))<;>intro F
 ·exact X0 3 Z (zcB h F (qkV ⟨_,_,rfl,(h.oldS s2)⟩) Z fun _ _ h F=>X0 3 Z (rb h F Z))
 exact X0 5 Z (rb h F Z)
def qb9(c:(List Int)):Nat->(List Bool)->Int->Option ((List Bool)×Int)|0,_,_=>U|n+1,x3,a=>bif decide (a<(c.length:Int)) then(idx c a).bind fun b=>(idx x3 b).bind fun _=>qb9 c n (setS x3 b false) (W64 (a+1)) else V (x3,a)
def qb8(x1:(List Bool)):Nat->(List Bool)->Int->Option ((List Bool)×Int)|0,_,_=>U|n+1,a,i1=>bif decide (i1<(x1.length:Int)) then(idx a i1).bind fun _=>qb8 x1 n (setS a i1 true) (W64 (i1+1)) else V (a,i1)
def qhp(n:Nat)(v:(Option Tview))(c:(List Int)):Option (Option Tgraph):=(v).bind fun b=>(mkS (b.links.length:Int) (false:Bool)).bind fun x1=>(qb8 x1 n x1 0).bind fun(a,_)=>(qb9 c n a 0).bind fun(x3,_)=>V (V (⟨v,x3⟩:Tgraph))
theorem qo4{A}(hA:∀b,A b->old w b){v:(Option Tview)}{a3:(List Int)}(u:GoT.R w A v cs1)(y:GoT.R w A a3 cs2){r:(Option Tgraph)}(F:qhp n v a3=V r):RetG prog 159 [oV (Option Tview) cs1,oV (List Int) cs2] w A r:=by
 obtain⟨_,rfl,X⟩:=qaA u;obtain⟨W,R,rfl,s2⟩:=y;have hg:=Rg.start hA;refine qeE func159 Z (m:=47) Z Z (fun h=>?_);refine X0 8 Z ?_;obtain⟨_,M,F⟩:=qc F;obtain⟨b1,f,_,rfl,-,K,z⟩:=PtR.get X M;obtain⟨_,_,_,_,_,_,_,_,_,_,_,_,_,_,_,_,_,_,_,_,rfl,_,_,_,_,_,_,_,_,_,_⟩:=qcn K;refine zp2 Z (zc 6 (z.below h.below) Z (zp1 Z ?_));obtain⟨x1,d,F⟩:=qc F;obtain⟨Y,g2,d⟩:=qU d;refine qam qa Bool h Z Z Z Z Z Z Z Z Z Y g2 d Z fun _ S1 c h=>r_v (qH qa [0,1] [.tmp 9,.tmp 15] Z Z Z Z Z Z Z Z) Z (qw h Z Z fun _ a h=>X1 12 0 h Z ?_);obtain⟨o1,F,s⟩:=qc F;refine qm (rL (fun m e w'=>∃Q i1,qb8 x1 m Q i1=V o1/\e=[(1,oS W a3.length R),(5,vp a),(22,vi (x1.length:Int)),(23,vi i1)]/\SH w w' [oX a [.pointer (V ⟨b1,f,U⟩),oS c x1.length x1.length] 138,oW S1 (Q:List Bool) [oS c x1.length x1.length]]) n ⟨_,_,F,rfl,h⟩ Z ?_);rintro S _ _ ⟨Q,i1,F,rfl,h⟩;rcases S with _|S
 ·cases F
 refine X0 5 Z (qi Z F ?_ ?_)<;>intro F
 ·refine X1 14 0 h Z ?_;obtain⟨_,N,F,g,_,_,_,_,k,o,rfl,B⟩:=(h.sl 1 Z).1.ix F;exact zx k o ⟨g.1,qC g.2.1 (h.sl 1 Z).2⟩ Z (qax qa 1 0 true h Z N k o Z B Z Z Z Z Z Z Z fun _ h=>X0 6 Z (rK ⟨_,_,F,rfl,h⟩ Z))
 refine qt Z ?_;obtain rfl:=qb F;replace F:=s;refine X0 7 Z ?_;obtain⟨o2,F,t⟩:=qc F;refine qm (rL (fun m e w'=>∃x3 P,qb9 a3 m x3 P=V o2/\e=[(5,vp a),(33,oS W a3.length R),(34,vi (a3.length:Int)),(35,vi P)]/\SH w w' [oX a [.pointer (V ⟨b1,f,U⟩),oS c x1.length x1.length] 138,oW S1 (x3:List Bool) [oS c x1.length x1.length]]) n ⟨_,_,F,rfl,h⟩ Z ?_);rintro T _ _ ⟨x3,P,F,rfl,h⟩;rcases T with _|T
 ·cases F
 refine X0 5 Z (qi Z F ?_ ?_)<;>intro F
 ·refine zKSBSR ?_;obtain⟨_,_,F,H,_,_,_,_,I,J,rfl,C⟩:=s2.ix F;refine zxe I J H Z (zc 0 (C.below h.below) Z (X1 8 0 h Z ?_));obtain⟨_,O,F,i,_,_,_,_,l,p,rfl,D⟩:=(h.sl 1 Z).1.ix F;exact zx l p ⟨i.1,qC i.2.1 (h.sl 1 Z).2⟩ Z (qax qa 1 0 false h Z O l p Z D Z Z Z Z Z Z Z fun _ h=>X0 6 Z (rK ⟨_,_,F,rfl,h⟩ Z))
 refine qt Z ?_;obtain rfl:=qb F;replace F:=t;refine X0 5 Z ?_;obtain rfl:=qb F;have L:GoRs.Rs (ρ:=(Option Tgraph)) h.wc (reg A w h.wc) (V (⟨v,x3⟩:Tgraph)) [oV (Option Tgraph) [vp a]]:=⟨_,rfl,(hg.outR h (Rg.boxR (x:=(⟨v,x3⟩:Tgraph)) 0 h Z (show GoT.R _ _ ((⟨v,x3⟩:Tgraph):Tgraph) _ from⟨[.pointer (V ⟨b1,f,U⟩)],[oS c x1.length x1.length],rfl,(hg.inR h X),(Rg.ownR 1 h Z)⟩)))⟩;exact qdE qa (ρ:=(Option Tgraph)) (r:=(V (⟨v,x3⟩:Tgraph))) [oV (Option Tgraph) [vp a]] h ⟨rfl,G⟩ L
def qdi(s:(List Int))(v:Int):Nat->Int->Option (Flow Int Int)|0,_=>U|n+1,i1=>bif decide (i1<(s.length:Int)) then(idx s i1).bind fun a=>bif (v==a) then V (.ret i1) else qdi s v n (W64 (i1+1)) else V (.nxt i1)
def qih(n:Nat)(s:(List Int))(v:Int):Option Int:=(qdi s v n 0).bind fun|.ret r=>V r|.nxt _=>V (-1)
theorem qpr{s:(List Int)}{v}(b:Ro w s cs1){r:Int}(F:qih n s v=V r):RetV prog 218 [oV (List Int) cs1,vi v] w r:=by
 obtain⟨o,k,rfl,p⟩:=b;refine zV 19 func218 Z fun h=>X0 11 Z ?_;obtain⟨l,F,a⟩:=qc F;refine qm (rL (fun m e w'=>∃i1,qdi s v m i1=V l/\e=[(0,oS o s.length k),(1,vi v),(7,vi (s.length:Int)),(8,vi i1)]/\SH w w' []) n ⟨_,F,rfl,h⟩ Z ?_);rintro i _ _ ⟨i1,F,rfl,h⟩;rcases i with _|i
 ·cases F
 refine X0 5 Z (qi Z F ?_ ?_)<;>intro F
 ·refine X0 13 Z ?_;obtain⟨_,_,F,d,_,_,_,_,f,g,rfl,c⟩:=p.ix F;refine zxe f g d Z (zc 0 (c.below h.below) Z (X0 2 Z (qi Z F ?_ ?_)))<;>intro F
  ·refine X0 5 Z ?_;obtain rfl:=qb F;replace F:=a;exact ri h F Z
  exact X0 6 Z (rK ⟨_,F,rfl,h⟩ Z)
 refine qt Z ?_;obtain rfl:=qb F;replace F:=a;exact X0 4 Z (ri h F Z)
def qjI(_:Nat)(l:qx)(a:Int):Option Bool:=V (l.Bm==a)
theorem qoz{l:qx}{g}(a:Ro w l cs1){f}(b:Ro w (V g) [.pointer f]){r:Bool}(F:qjI n l g=V r):RetV prog 264 [oV qx cs1,.pointer f] w r:=by
 obtain rfl:=qaw a;obtain⟨_,i,_,rfl,-,d,c⟩:=PtR.get b Z;obtain rfl:=d;exact zV 8 func264 Z fun h=>zSR (qw h Z Z fun _ _ h=>X1 6 0 h Z (zc 0 (c.below h.below) Z (X0 3 Z (rb h F Z))))
def qK(h:Int)(b:Tgraph)(a:Tview):Nat->(List Int)->Int->Option ((List Int)×Int)|0,_,_=>U|n+1,x1,i1=>bif decide (i1<(a.links.length:Int)) then(idx a.links i1).bind fun f=>(idx b.live i1).bind fun g=>bif g then(qjI n f h).bind fun c=>bif c then(appS x1 ([i1]:List Int)).bind fun d=>qK h b a n d (W64 (i1+1)) else qK h b a n x1 (W64 (i1+1)) else qK h b a n x1 (W64 (i1+1)) else V (x1,i1)
def qcy(n:Nat)(g:(Option Tgraph))(c:Int):Option (List Int):=(g).bind fun a=>(a.view).bind fun b=>(qK c a b n ([]:List Int) 0).bind fun(x1,_)=>V x1
theorem qhS{g:(Option Tgraph)}{is_0}(l:Ro w g cs1){Q}(f:Ro w (V is_0) [.pointer Q]){r:(List Int)}(F:qcy n g is_0=V r):RetV prog 131 [oV (Option Tgraph) cs1,.func (.func 264) #[] #[.pointer Q]] w r:=by
 obtain⟨_,rfl,X⟩:=qaA l;obtain⟨b1,K,_,rfl,-,B,_⟩:=PtR.get f Z;obtain rfl:=B;refine zV 39 func131 Z fun h=>X0 12 Z ?_;obtain⟨y1,I,F⟩:=qc F;obtain⟨b2,L,_,rfl,-,C,i⟩:=PtR.get X I;obtain⟨_,_,_,rfl,s2,Y⟩:=qeG C;refine zp2 Z (zc 0 (i.below h.below) Z ?_);obtain⟨O,J,F⟩:=qc F;obtain⟨_,W,_,rfl,-,D,o⟩:=PtR.get s2 J;obtain⟨_,_,_,_,_,_,_,_,_,_,_,_,M,S,_,_,_,_,_,_,rfl,_,_,_,_,_,_,N,_,_,_⟩:=qcn D;refine zp2 Z (zc 6 (o.below h.below) Z (X0 3 Z ?_));replace h:=h.nil (α:=Int);obtain⟨T,F,k⟩:=qc F;refine qm (rL (fun m e w'=>∃S1 d c b x1 i1,qK is_0 y1 O m x1 i1=V T/\e=[(0,.pointer (V ⟨b2,L,U⟩)),(1,.func (.func 264) #[] #[.pointer (V ⟨b1,K,U⟩)]),(5,oS d c b),(14,oS M O.links.length S),(15,vi (O.links.length:Int)),(16,vi i1)]/\SH w w' [oW S1 (x1:List Int) [oS d c b]]) n ⟨_,_,_,_,_,_,F,rfl,h⟩ Z ?_);rintro P _ _ ⟨S1,d,c,b,x1,i1,F,rfl,h⟩;obtain rfl:=(h.sl 0 Z).2;rcases P with _|P
 ·cases F
 refine X0 5 Z (qi Z F ?_ ?_)<;>intro F
 ·refine X0 6 Z ?_;obtain⟨y3,_,F,u,_,_,_,_,x,z,H,p⟩:=N.ix F;obtain rfl:=qaw H;refine zxe x z u Z (zc 0 (p.below h.below) Z (qq qa h Z Z Z fun _ _ h=>zp1 Z (zs 0 h Z fun _ h=>X0 6 Z (zc 1 (i.below h.below) Z (zp1 Z ?_)))));obtain⟨_,_,F,v,_,_,_,_,y,A,rfl,s⟩:=Y.ix F;refine zxe y A v Z (zc 0 (s.below h.below) Z (zp1 Z (qn (t:=28) F Z ?_ ?_)))<;>intro F
  ·refine X1 5 0 h Z (zcB h F (qoz (qch y3) (h.old f)) Z fun _ _ h F=>X0 2 Z (qi Z F ?_ ?_))<;>intro F
   ·refine X0 3 Z (qG qa [.tmp 34] _ ([i1]:List Int) h Z Z Z Z Z Z Z Z Z ⟨rfl,G⟩ Z fun _ _ _ h=>?_);obtain⟨_,a,F⟩:=qc F;obtain⟨R,a⟩:=qO a;refine qbW qa 2 h Z (h.sl 0 Z).1 (h.sl 0 Z).2 Z Z Z Z Z Z Z Z Z R a Z fun _ _ _ _ h=>X0 7 Z ?_;replace h:=h.p [2] Z;exact rK ⟨_,_,_,_,_,_,F,rfl,h⟩ Z
   refine X0 6 Z ?_;replace h:=h.p [1] Z;exact rK ⟨_,_,_,_,_,_,F,rfl,h⟩ Z
  refine X0 5 Z (qcg Z Z (X0 6 Z ?_));replace h:=h.p [1] Z;exact rK ⟨_,_,_,_,_,_,F,rfl,h⟩ Z
 refine qt Z ?_;obtain rfl:=qb F;replace F:=k;refine X0 5 Z ?_;obtain rfl:=qb F;exact rO 0 h Z ⟨rfl,G⟩
def qiQ(n:Nat)(g:(Option Tgraph))(node:Int):Option (List Int):=(qcy n g node).bind fun a=>V a
theorem qpB{g:(Option Tgraph)}{node}(a:Ro w g cs1){r:(List Int)}(F:qiQ n g node=V r):RetV prog 219 [oV (Option Tgraph) cs1,vi node] w r:=by
 obtain⟨_,rfl,b⟩:=qaA a;refine zV 8 func219 Z fun h=>zSR (qw h Z Z fun _ _ h=>X0 6 Z (zcL h F (qhS (h.old b) (qf8 (x:=node) 0 h Z Z)) Z fun _ _ _ _ _ h F=>X0 2 Z ?_));obtain rfl:=qb F;exact rO 0 h Z ⟨rfl,G⟩
def qiY(_:Nat)(_:qx):Option Bool:=V true
theorem qoh{a:qx}(b:Ro w a cs1){r:Bool}(F:qiY n a=V r):RetV prog 217 [oV qx cs1] w r:=by
 obtain rfl:=qaw b;exact zV 3 func217 Z fun h=>zSR (qw h Z Z fun _ _ h=>X0 6 Z (rb h F Z))
def qI(b:Tgraph)(a:Tview):Nat->(List Int)->Int->Option ((List Int)×Int)|0,_,_=>U|n+1,x1,i1=>bif decide (i1<(a.links.length:Int)) then(idx a.links i1).bind fun f=>(idx b.live i1).bind fun g=>bif g then(qiY n f).bind fun c=>bif c then(appS x1 ([i1]:List Int)).bind fun d=>qI b a n d (W64 (i1+1)) else qI b a n x1 (W64 (i1+1)) else qI b a n x1 (W64 (i1+1)) else V (x1,i1)
def qbl(n:Nat)(g:(Option Tgraph)):Option (List Int):=(g).bind fun a=>(a.view).bind fun b=>(qI a b n ([]:List Int) 0).bind fun(x1,_)=>V x1
theorem qhz{g:(Option Tgraph)}(k:Ro w g cs1){r:(List Int)}(F:qbl n g=V r):RetV prog 131 [oV (Option Tgraph) cs1,.func (.func 217) #[] #[]] w r:=by
 obtain⟨_,rfl,R⟩:=qaA k;refine zV 39 func131 Z fun h=>X0 12 Z ?_;obtain⟨T,D,F⟩:=qc F;obtain⟨b1,I,_,rfl,-,A,f⟩:=PtR.get R D;obtain⟨_,_,_,rfl,s2,S⟩:=qeG A;refine zp2 Z (zc 0 (f.below h.below) Z ?_);obtain⟨L,H,F⟩:=qc F;obtain⟨_,Q,_,rfl,-,B,l⟩:=PtR.get s2 H;obtain⟨_,_,_,_,_,_,_,_,_,_,_,_,J,O,_,_,_,_,_,_,rfl,_,_,_,_,_,_,K,_,_,_⟩:=qcn B;refine zp2 Z (zc 6 (l.below h.below) Z (X0 3 Z ?_));replace h:=h.nil (α:=Int);obtain⟨P,F,i⟩:=qc F;refine qm (rL (fun m e w'=>∃S1 d c b x1 i1,qI T L m x1 i1=V P/\e=[(0,.pointer (V ⟨b1,I,U⟩)),(1,.func (.func 217) #[] #[]),(5,oS d c b),(14,oS J L.links.length O),(15,vi (L.links.length:Int)),(16,vi i1)]/\SH w w' [oW S1 (x1:List Int) [oS d c b]]) n ⟨_,_,_,_,_,_,F,rfl,h⟩ Z ?_);rintro M _ _ ⟨S1,d,c,b,x1,i1,F,rfl,h⟩;obtain rfl:=(h.sl 0 Z).2;rcases M with _|M
 ·cases F
 refine X0 5 Z (qi Z F ?_ ?_)<;>intro F
 ·refine X0 6 Z ?_;obtain⟨W,_,F,s,_,_,_,_,v,y,C,o⟩:=K.ix F;obtain rfl:=qaw C;refine zxe v y s Z (zc 0 (o.below h.below) Z (qq qa h Z Z Z fun _ _ h=>zp1 Z (zs 0 h Z fun _ h=>X0 6 Z (zc 1 (f.below h.below) Z (zp1 Z ?_)))));obtain⟨_,_,F,u,_,_,_,_,x,z,rfl,p⟩:=S.ix F;refine zxe x z u Z (zc 0 (p.below h.below) Z (zp1 Z (qn (t:=28) F Z ?_ ?_)))<;>intro F
  ·refine X1 5 0 h Z (zcB h F (qoh (qch W)) Z fun _ _ h F=>X0 2 Z (qi Z F ?_ ?_))<;>intro F
   ·refine X0 3 Z (qG qa [.tmp 34] _ ([i1]:List Int) h Z Z Z Z Z Z Z Z Z ⟨rfl,G⟩ Z fun _ _ _ h=>?_);obtain⟨_,a,F⟩:=qc F;obtain⟨N,a⟩:=qO a;refine qbW qa 2 h Z (h.sl 0 Z).1 (h.sl 0 Z).2 Z Z Z Z Z Z Z Z Z N a Z fun _ _ _ _ h=>X0 7 Z ?_;replace h:=h.p [2] Z;exact rK ⟨_,_,_,_,_,_,F,rfl,h⟩ Z
   refine X0 6 Z ?_;replace h:=h.p [1] Z;exact rK ⟨_,_,_,_,_,_,F,rfl,h⟩ Z
  refine X0 5 Z (qcg Z Z (X0 6 Z ?_));replace h:=h.p [1] Z;exact rK ⟨_,_,_,_,_,_,F,rfl,h⟩ Z
 refine qt Z ?_;obtain rfl:=qb F;replace F:=i;refine X0 5 Z ?_;obtain rfl:=qb F;exact rO 0 h Z ⟨rfl,G⟩
def qck(f:Tgraph)(r4:(List Int)):Nat->(List Int)->Int->Option ((List Int)×Int)|0,_,_=>U|n+1,c,b=>bif decide (b<(r4.length:Int)) then(idx r4 b).bind fun g=>(f.view).bind fun h=>(idx h.links g).bind fun a=>(idx c a.To).bind fun d=>(idx c a.To).bind fun _=>qck f r4 n (setS c a.To (W64 (d-1))) (W64 (b+1)) else V (c,b)
def qcm(a:(Option Tgraph))(f:Tgraph)(x1:(List Int)):Nat->(List Int)->(List Int)->Int->Option (Flow ((List Int)×Bool) ((List Int)×(List Int)×Int))|0,_,_,_=>U|n+1,x3,c,d=>bif decide (d<(x1.length:Int)) then(qih n c 0).bind fun b=>bif decide (b<0) then V (.ret ([],false)) else(idx c b).bind fun _=>(appS x3 ([b]:List Int)).bind fun g=>(qiQ n a b).bind fun r4=>(qck f r4 n (setS c b (-1)) 0).bind fun(h,_)=>qcm a f x1 n g h (W64 (d+1)) else V (.nxt (x3,c,d))
def qco(d:Tgraph)(b:(List Int)):Nat->(List Int)->Int->Option ((List Int)×Int)|0,_,_=>U|n+1,a,i1=>bif decide (i1<(b.length:Int)) then(idx b i1).bind fun f=>(d.view).bind fun g=>(idx g.links f).bind fun c=>(idx a c.To).bind fun h=>(idx a c.To).bind fun _=>qco d b n (setS a c.To (W64 (h+1))) (W64 (i1+1)) else V (a,i1)
def qh8(n:Nat)(a:(Option Tgraph)):Option ((List Int)×Bool):=(a).bind fun b=>(qcb n b.view).bind fun c=>(mkS c (0:Int)).bind fun x1=>(qbl n a).bind fun d=>(qco b d n x1 0).bind fun(f,_)=>(qcm a b x1 n ([]:List Int) f 0).bind fun|.ret r=>V r|.nxt (x3,_,_)=>V (x3,true)
theorem qps{c:(Option Tgraph)}(ha1:Ro w c cs1){r:((List Int)×Bool)}(F:qh8 n c=V r):RetV prog 160 [oV (Option Tgraph) cs1] w r:=by
 obtain⟨_,rfl,s1⟩:=qaA ha1;refine zV 83 func160 Z fun h=>X0 8 Z ?_;obtain⟨y1,hy1,F⟩:=qc F;obtain⟨b1,k,_,rfl,-,hr1,d⟩:=PtR.get s1 hy1;obtain⟨_,_,_,rfl,s2,_⟩:=qeG hr1;refine zp2 Z (zc 0 (d.below h.below) Z (zcI h F (qdJ (h.old s2)) Z fun _ _ h F=>?_));obtain⟨x1,f,F⟩:=qc F;obtain⟨g1,g2,f⟩:=qU f;refine qam qa Int h Z Z Z Z Z Z Z Z Z g1 g2 f Z fun _ S1 l h=>X0 6 Z (zcL h F (qhz (h.old s1)) Z fun Y _ S2 p5 k2 h F=>X0 3 Z ?_);obtain⟨o1,F,hK1⟩:=qc F;refine qm (rL (fun m e w'=>∃x2 i1,qco y1 Y m x2 i1=V o1/\e=[(0,.pointer (V ⟨b1,k,U⟩)),(4,oS l x1.length x1.length),(18,oS p5 Y.length k2),(19,vi (Y.length:Int)),(20,vi i1)]/\SH w w' [oW S2 (Y:List Int) [oS p5 Y.length k2],oW S1 (x2:List Int) [oS l x1.length x1.length]]) n ⟨_,_,F,rfl,h⟩ Z ?_);rintro m1 _ _ ⟨x2,i1,F,rfl,h⟩;rcases m1 with _|m1
 ·cases F
 refine X0 5 Z (qi Z F ?_ ?_)<;>intro F
 ·refine zKSBSR ?_;obtain⟨_,_,F,y,_,_,_,_,hp1,hq1,rfl,hc3⟩:=(h.sl 0 Z).1.ix F;refine zx hp1 hq1 ⟨y.1,qC y.2.1 (h.sl 0 Z).2⟩ Z (zc 0 hc3 Z (X0 7 Z (zc 0 (d.below h.below) Z ?_)));obtain⟨_,hy3,F⟩:=qc F;obtain⟨_,o_3,_,rfl,-,hr5,hc4⟩:=PtR.get s2 hy3;obtain⟨_,_,_,_,_,_,_,_,_,_,_,_,_,_,_,_,_,_,_,_,rfl,_,_,_,_,_,_,s10,_,_,_⟩:=qcn hr5;refine zp2 Z (zc 6 (hc4.below h.below) Z (zp1 Z ?_));obtain⟨_,_,F,he2,_,_,_,_,hp2,hq2,hr6,hc5⟩:=s10.ix F;obtain rfl:=qaw hr6;refine zxe hp2 hq2 he2 Z (zp1 Z (zc 1 (hc5.below h.below) Z ?_));obtain⟨y5,_,F,z,_,_,_,_,hp3,hq3,rfl,hc6⟩:=(h.sl 1 Z).1.ix F;refine zx hp3 hq3 ⟨z.1,qC z.2.1 (h.sl 1 Z).2⟩ Z (zc 0 hc6 Z (zp1 Z ?_));obtain⟨_,hy6,F,A,_,_,_,_,I,L,rfl,hc7⟩:=(h.sl 1 Z).1.ix F;exact zx I L ⟨A.1,qC A.2.1 (h.sl 1 Z).2⟩ Z (qax qa 1 0 (W64 (y5+1)) h Z hy6 I L Z hc7 Z Z Z Z Z Z Z fun _ h=>X0 6 Z (rK ⟨_,_,F,rfl,h⟩ Z))
 refine qt Z ?_;obtain rfl:=qb F;replace F:=hK1;refine X0 11 Z ?_;replace h:=h.nil (α:=Int);obtain⟨o2,F,o⟩:=qc F;refine qm ?_;replace h:=h.p [0,2] Z;refine rL (fun m e w'=>∃S3 b i a x3 x4 i2,qcm c y1 x1 m x3 x4 i2=V o2/\e=[(0,.pointer (V ⟨b1,k,U⟩)),(4,oS l x1.length x1.length),(7,oS b i a),(42,vi (x1.length:Int)),(43,vi i2)]/\SH w w' [oW S3 (x3:List Int) [oS b i a],oW S1 (x4:List Int) [oS l x1.length x1.length]]) n ⟨_,_,_,_,_,_,_,F,rfl,h⟩ Z ?_;rintro m2 _ _ ⟨S3,b,i,a,x3,x4,i2,F,rfl,h⟩;obtain rfl:=(h.sl 0 Z).2;rcases m2 with _|m2
 ·cases F
 refine X0 5 Z (qi Z F ?_ ?_)<;>intro F
 ·refine X0 6 Z (zcI h F (qpr (h.own 1 Z)) Z fun r3 _ h F=>X0 8 Z (qi Z F ?_ ?_))<;>intro F
  ·refine X0 5 Z ?_;obtain rfl:=qb F;replace F:=o;obtain rfl:=qb F;exact qac qa (ρ:=((List Int)×Bool)) [oV (List Int) [oS U 0 0],oV Bool [.bool false]] h ⟨rfl,rfl,G⟩ (PV.done h (qao h qhl (qae (qv (S:=fun _=>False) Z)) (by rfl)))
  refine X0 5 Z ?_;obtain⟨_,hy7,F,B,_,_,_,_,J,M,rfl,p⟩:=(h.sl 1 Z).1.ix F;refine zx J M ⟨B.1,qC B.2.1 (h.sl 1 Z).2⟩ Z (qax qa 1 0 (-1) h Z hy7 J M Z p Z Z Z Z Z Z Z fun _ h=>X0 5 Z (qG qa [.tmp 53] _ ([r3]:List Int) h Z Z Z Z Z Z Z Z Z ⟨rfl,G⟩ Z fun _ _ _ h=>?_));obtain⟨x5,g,F⟩:=qc F;obtain⟨g3,g⟩:=qO g;refine qbW qa 1 h Z (h.sl 0 Z).1 (h.sl 0 Z).2 Z Z Z Z Z Z Z Z Z g3 g Z fun _ W R S5 h=>X0 6 Z (zcL h F (qpB (h.old s1)) Z fun r4 _ S6 X T h F=>X0 3 Z ?_);obtain⟨o3,F,hK3⟩:=qc F;refine qm ?_;replace h:=h.p [0,2,3] Z;refine rL (fun m e w'=>∃x6 i3,qck y1 r4 m x6 i3=V o3/\e=[(0,.pointer (V ⟨b1,k,U⟩)),(4,oS l x1.length x1.length),(7,oS W x5.length R),(42,vi (x1.length:Int)),(43,vi i2),(58,oS X r4.length T),(59,vi (r4.length:Int)),(60,vi i3)]/\SH w w' [oW S6 (r4:List Int) [oS X r4.length T],oW S5 (x5:List Int) [oS W x5.length R],oW S1 (x6:List Int) [oS l x1.length x1.length]]) m2 ⟨_,_,F,rfl,h⟩ Z ?_;rintro m3 _ _ ⟨x6,i3,F,rfl,h⟩;rcases m3 with _|m3
  ·cases F
  refine X0 5 Z (qi Z F ?_ ?_)<;>intro F
  ·refine zKSBSR ?_;obtain⟨_,_,F,C,_,_,_,_,hp6,hq6,rfl,s⟩:=(h.sl 0 Z).1.ix F;refine zx hp6 hq6 ⟨C.1,qC C.2.1 (h.sl 0 Z).2⟩ Z (zc 0 s Z (X0 7 Z (zc 0 (d.below h.below) Z ?_)));obtain⟨_,hy9,F⟩:=qc F;obtain⟨_,o_9,_,rfl,-,O,t⟩:=PtR.get s2 hy9;obtain⟨_,_,_,_,_,_,_,_,_,_,_,_,_,_,_,_,_,_,_,_,rfl,_,_,_,_,_,_,s20,_,_,_⟩:=qcn O;refine zp2 Z (zc 6 (t.below h.below) Z (zp1 Z ?_));obtain⟨_,_,F,he7,_,_,_,_,hp7,hq7,P,u⟩:=s20.ix F;obtain rfl:=qaw P;refine zxe hp7 hq7 he7 Z (zp1 Z (zc 1 (u.below h.below) Z ?_));obtain⟨y11,_,F,D,_,_,_,_,hp8,hq8,rfl,v⟩:=(h.sl 2 Z).1.ix F;refine zx hp8 hq8 ⟨D.1,qC D.2.1 (h.sl 2 Z).2⟩ Z (zc 0 v Z (zp1 Z ?_));obtain⟨_,Q,F,H,_,_,_,_,K,N,rfl,x⟩:=(h.sl 2 Z).1.ix F;exact zx K N ⟨H.1,qC H.2.1 (h.sl 2 Z).2⟩ Z (qax qa 2 0 (W64 (y11-1)) h Z Q K N Z x Z Z Z Z Z Z Z fun _ h=>X0 6 Z (rK ⟨_,_,F,rfl,h⟩ Z))
  refine qt Z ?_;obtain rfl:=qb F;replace F:=hK3;refine X0 5 Z ?_;replace h:=h.p [1,2] Z;exact rK ⟨_,_,_,_,_,_,_,F,rfl,h⟩ Z
 refine qt Z ?_;obtain rfl:=qb F;replace F:=o;refine X0 6 Z ?_;obtain rfl:=qb F;exact qac qa (ρ:=((List Int)×Bool)) [oV (List Int) [oS b x3.length a],oV Bool [.bool true]] h ⟨rfl,rfl,G⟩ (PV.done h (qao h (qab 0 h Z) (qae (qv (S:=fun _=>False) Z)) (by rfl)))
def qgv(n:Nat)(b:qh)(c:qu)(p:(List Int))(r:(List qf))(t:(Option qr)):Option ((Option Tgraph)×(List Int)×Int):=((qjC n b).bind fun l=>bif (!l) then V true else(qiF n c).bind fun d=>V (!d)).bind fun b1=>bif b1 then V (U,[],1) else(qld n b).bind fun a=>(bif (!(t).isNone) then(t).bind fun m=>(qlQ n a m).bind fun k=>V (!k) else V false).bind fun b2=>bif b2 then V (U,[],1) else((qfc n a p).bind fun h=>bif (!h) then V true else(qd1 n a r).bind fun i=>V (!i)).bind fun b3=>bif b3 then V (U,[],2) else(qhp n a p).bind fun f=>(qh8 n f).bind fun(r4,g)=>bif (!g) then V (U,[],7) else V (f,r4,0)
theorem qpk{A}(hA:∀b,A b->old w b){b:qh}{c:qu}{b9:(List Int)}{c0:(List qf)}{t:(Option qr)}(i:GoT.R w A b cs1)(x:GoT.R w A c cs2)(M:GoT.R w A b9 cs3)(N:GoT.R w A c0 cs4)(O:GoT.R w A t cs5){r:((Option Tgraph)×(List Int)×Int)}(F:qgv n b c b9 c0 t=V r):RetG prog 108 [oV qh cs1,oV qu cs2,oV (List Int) cs3,oV (List qf) cs4,oV (Option qr) cs5] w A r:=by
 obtain⟨p1,k1,p2,k2,p3,k3,p4,k4,p5,k5,rfl,_,_,_,_,_⟩:=qaf i;obtain rfl:=qaL x;obtain⟨p6,k6,rfl,s6⟩:=M;obtain⟨p7,k7,rfl,s7⟩:=N;obtain⟨p8,rfl,s8⟩:=qaA O;have hg:=Rg.start hA;refine qeE func108 Z (m:=61) Z Z (fun h=>?_);refine zSR (qw h Z Z fun _ k h=>qw h Z Z fun _ _ h=>X0 6 Z ?_);obtain⟨L,v,_,F,p⟩:=bindE F;refine qa0 (fun e w'=>∃b1,L b1=V r/\e=[(2,oS p6 b9.length k6),(3,oS p7 c0.length k7),(4,.pointer p8),(5,vp k),(24,.bool b1)]/\SH w w' [oX k (qa8 b p1 p2 p3 p4 p5 k1 k2 k3 k4 k5) 53]) ?_ ?_
 ·refine X1 2 1 h Z (zcB h F (qrM (h.old (GoT.mono i hg.old))) Z fun _ _ h F=>zp2 Z (qn (t:=20) F Z ?_ ?_))<;>intro F
  ·refine X0 5 Z ?_;replace h:=h.p [1] Z;obtain rfl:=qb F;exact rG ⟨_,p,rfl,h⟩ Z
  refine X1 3 0 h Z (zcB h F (qq9 (h.old (GoT.mono x hg.old))) Z fun _ _ h F=>X0 4 Z ?_);replace h:=h.p [1] Z;obtain rfl:=qb F;exact rG ⟨_,p,rfl,h⟩ Z
 rintro _ _ ⟨b1,F,rfl,h⟩;subst v;refine qi Z F ?_ ?_<;>intro F
 ·refine X0 6 Z ?_;obtain rfl:=qb F;have a4:GoRs.Rs (ρ:=((Option Tgraph)×(List Int)×Int)) h.wc (reg A w h.wc) (U,[],1) [oV (Option Tgraph) [.pointer U],oV (List Int) [oS U 0 0],oV Int [vi 1]]:=⟨_,_,rfl,rfl,⟨_,_,rfl,(hg.outR h (⟨_,_,rfl,qiT⟩)),⟨_,rfl,rfl⟩⟩⟩;exact qdE qa (ρ:=((Option Tgraph)×(List Int)×Int)) (r:=(U,[],1)) [oV (Option Tgraph) [.pointer U],oV (List Int) [oS U 0 0],oV Int [vi 1]] h ⟨rfl,rfl,rfl,G⟩ a4
 refine X1 4 0 h Z ?_;obtain⟨r1,R,F⟩:=qc F;refine qlb r1 hg h (cB 155 Z) (qr5 (hg.regOld h) (hg.inR h i) R) Z Z Z Z fun w3 _ _ a f b7 a5=>?_;have hL1:=h.ext f.below;have s9:=Up.S hg h f s6;have s10:=Up.S hg h f s7;have H:=Up.Pt hg h f s8;have hb1:=h.below.trans (f.below.mono h.below.size);replace h:=b7;obtain⟨_,rfl,S⟩:=qj1 a5;obtain⟨p9,rfl,g⟩:=qaA S;refine X0 5 Z ?_;obtain⟨K,u,_,F,o⟩:=bindE F;refine qa0 (fun e w'=>∃b2,K b2=V r/\e=[(2,oS p6 b9.length k6),(3,oS p7 c0.length k7),(13,.pointer p9),(27,.bool b2)]/\SH w3 w' []) ?_ ?_
 ·refine X0 2 Z ?_;have Q:=PtR.isNone H;refine r_v (qzT qa Z Z Z Z Q) Z (zp1 Z (qn (t:=30) F Z ?_ ?_))<;>intro F
  ·refine X0 5 Z ?_;obtain⟨y1,b6,F⟩:=qc F;obtain⟨_,o_1,_,rfl,-,y,P⟩:=PtR.get H b6;obtain⟨_,_,_,_,_,_,rfl,s14,s15,s16⟩:=qdd y;refine X0 2 Z (zc 0 (P.below h.below) Z (X0 1 Z (zcB h F (qoe (h.old (GoT.mono g a.old)) (qvo y1 (h.oldS (s14.mono a.old)) (h.oldS (s15.mono a.old)) (h.oldS (s16.mono a.old)))) Z fun _ _ h F=>X0 5 Z ?_)));obtain rfl:=qb F;exact rG ⟨_,o,rfl,h⟩ Z
  refine X0 9 Z ?_;obtain rfl:=qb F;exact rG ⟨_,o,rfl,h⟩ Z
 rintro _ _ ⟨b2,F,rfl,h⟩;subst u;refine qi Z F ?_ ?_<;>intro F
 ·refine X0 6 Z ?_;obtain rfl:=qb F;have a6:GoRs.Rs (ρ:=((Option Tgraph)×(List Int)×Int)) h.wc (reg A w h.wc) (U,[],1) [oV (Option Tgraph) [.pointer U],oV (List Int) [oS U 0 0],oV Int [vi 1]]:=⟨_,_,rfl,rfl,⟨_,_,rfl,(a.outR h (⟨_,_,rfl,qiT⟩)),⟨_,rfl,rfl⟩⟩⟩;exact qdE qa (ρ:=((Option Tgraph)×(List Int)×Int)) (r:=(U,[],1)) [oV (Option Tgraph) [.pointer U],oV (List Int) [oS U 0 0],oV Int [vi 1]] (h.unbase a.below (show NoD [] from trivial)) ⟨rfl,rfl,rfl,G⟩ a6
 refine qZ ?_;obtain⟨J,s,_,F,l⟩:=bindE F;refine qa0 (fun e w'=>∃b3,J b3=V r/\e=[(2,oS p6 b9.length k6),(13,.pointer p9),(38,.bool b3)]/\SH w3 w' []) ?_ ?_
 ·refine X0 3 Z (zcB h F (qoi (h.old (GoT.mono g a.old)) ⟨_,_,rfl,(h.oldS (s9.mono a.old))⟩) Z fun _ _ h F=>zp2 Z (qn (t:=43) F Z ?_ ?_))<;>intro F
  ·refine X0 7 Z ?_;obtain rfl:=qb F;exact rG ⟨_,l,rfl,h⟩ Z
  refine X0 5 Z (zcB h F (qnk (h.old (GoT.mono g a.old)) ⟨_,_,rfl,(h.oldS (s10.mono a.old))⟩) Z fun _ _ h F=>X0 5 Z ?_);obtain rfl:=qb F;exact rG ⟨_,l,rfl,h⟩ Z
 rintro _ _ ⟨b3,F,rfl,h⟩;subst s;refine qi Z F ?_ ?_<;>intro F
 ·refine X0 6 Z ?_;obtain rfl:=qb F;have a7:GoRs.Rs (ρ:=((Option Tgraph)×(List Int)×Int)) h.wc (reg A w h.wc) (U,[],2) [oV (Option Tgraph) [.pointer U],oV (List Int) [oS U 0 0],oV Int [vi 2]]:=⟨_,_,rfl,rfl,⟨_,_,rfl,(a.outR h (⟨_,_,rfl,qiT⟩)),⟨_,rfl,rfl⟩⟩⟩;exact qdE qa (ρ:=((Option Tgraph)×(List Int)×Int)) (r:=(U,[],2)) [oV (Option Tgraph) [.pointer U],oV (List Int) [oS U 0 0],oV Int [vi 2]] (h.unbase a.below (show NoD [] from trivial)) ⟨rfl,rfl,rfl,G⟩ a7
 refine X0 6 Z ?_;obtain⟨r2,T,F⟩:=qc F;refine qlb r2 a h (cB 159 Z) (qo4 (a.regOld h) (a.inR h g) ⟨_,_,rfl,(a.inS h s9)⟩ T) Z Z Z Z fun _ _ _ d z b8 a8=>?_;have hL2:=h.ext z.below;have hb2:=h.below.trans (z.below.mono h.below.size);replace h:=b8;obtain⟨_,rfl,W⟩:=qj1 a8;obtain⟨C,rfl,I⟩:=qaA W;refine X0 5 Z ?_;obtain⟨⟨r4,r5⟩,X,F⟩:=qc F;refine qaS (r4,r5) h (cB 160 Z) (qps (h.old (GoT.mono I d.old)) X) Z Z Z Z fun _ _ _ a9 Y=>?_;obtain⟨_,_,D,k8,_,rfl,b4,a3⟩:=a9.consL Y;obtain⟨rfl,h⟩:=b4.lastB a3;refine X0 12 Z (qi Z F ?_ ?_)<;>intro F
 ·refine X0 6 Z ?_;obtain rfl:=qb F;have b5:GoRs.Rs (ρ:=((Option Tgraph)×(List Int)×Int)) h.wc (reg A w h.wc) (U,[],7) [oV (Option Tgraph) [.pointer U],oV (List Int) [oS U 0 0],oV Int [vi 7]]:=⟨_,_,rfl,rfl,⟨_,_,rfl,(d.outR h (⟨_,_,rfl,qiT⟩)),⟨_,rfl,rfl⟩⟩⟩;exact qdE qa (ρ:=((Option Tgraph)×(List Int)×Int)) (r:=(U,[],7)) [oV (Option Tgraph) [.pointer U],oV (List Int) [oS U 0 0],oV Int [vi 7]] (h.unbase d.below ⟨fun _ h=>h,G⟩) ⟨rfl,rfl,rfl,G⟩ b5
 refine X0 9 Z ?_;obtain rfl:=qb F;have B:GoRs.Rs (ρ:=((Option Tgraph)×(List Int)×Int)) h.wc (reg A w h.wc) (r2,r4,0) [oV (Option Tgraph) [.pointer C],oV (List Int) [oS D r4.length k8],oV Int [vi 0]]:=⟨_,_,rfl,(d.outR h (d.inR h I)),⟨_,_,rfl,(d.outR h (Rg.ownR 0 h Z)),⟨_,rfl,rfl⟩⟩⟩;exact qdE qa (ρ:=((Option Tgraph)×(List Int)×Int)) (r:=(r2,r4,0)) [oV (Option Tgraph) [.pointer C],oV (List Int) [oS D r4.length k8],oV Int [vi 0]] (h.unbase d.below ⟨fun _ h=>h,G⟩) ⟨rfl,rfl,rfl,G⟩ B
def qcj(a:Int)(c:(List Bool))(d:(List Bool)):Nat->Int->Option Int|0,_=>U|n+1,b=>bif decide (b<a) then(idx c b).bind fun f=>bif f then qcj a c d n (W64 (b+1)) else(idx d b).bind fun g=>bif g then qcj a c d n (W64 (b+1)) else V b else V b
def qcV(a:(List qx))(b:(List Bool))(d:(List Bool)):Nat->(List Bool)->Int->Option ((List Bool)×Int)|0,_,_=>U|n+1,c,i1=>bif decide (i1<(a.length:Int)) then((idx b i1).bind fun g=>bif g then(idx a i1).bind fun h=>(idx d h.Bm).bind fun i=>V (!i) else V false).bind fun b1=>bif b1 then(idx a i1).bind fun f=>(idx c f.To).bind fun _=>qcV a b d n (setS c f.To true) (W64 (i1+1)) else qcV a b d n c (W64 (i1+1)) else V (c,i1)
def qeT(a:Int)(b:(List qx))(c:(List Bool)):Nat->(List Bool)->(List Int)->Option (Flow ((List Int)×Bool) ((List Bool)×(List Int)))|0,_,_=>U|n+1,d,x3=>bif decide ((x3.length:Int)<a) then(mkS a (false:Bool)).bind fun g=>(qcV b c d n g 0).bind fun(h,_)=>(qcj a d h n 0).bind fun f=>bif (f==a) then V (.ret (([]:List Int),false)) else(idx d f).bind fun _=>(appS x3 ([f]:List Int)).bind fun i=>qeT a b c n (setS d f true) i else V (.nxt (d,x3))
def qha(n:Nat)(a:Int)(b:(List qx))(c:(List Bool)):Option ((List Int)×Bool):=(mkS a (false:Bool)).bind fun x1=>(qeT a b c n x1 ([]:List Int)).bind fun|.ret r=>V r|.nxt (_,x3)=>V (x3,true)
theorem qm3{a}{b:(List qx)}{c:(List Bool)}(ha1:Ro w b cs1)(ha2:Ro w c cs2){r:((List Int)×Bool)}(F:qha n a b c=V r):RetV prog 80 [vi a,oV (List qx) cs1,oV (List Bool) cs2] w r:=by
 obtain⟨W,R,rfl,s1⟩:=ha1;obtain⟨X,T,rfl,s2⟩:=ha2;refine zV 79 func80 Z fun h=>X0 7 Z (qG qa [] _ ([]:List Int) h Z Z Z Z Z Z Z Z Z trivial Z fun _ _ _ h=>X0 5 Z ?_);obtain⟨x1,k,F⟩:=qc F;obtain⟨g1,g2,k⟩:=qU k;refine qam qa Bool h Z Z Z Z Z Z Z Z Z g1 g2 k Z fun _ S2 g h=>X0 3 Z ?_;obtain⟨o1,F,x⟩:=qc F;refine qm (rL (fun m e w'=>∃i s d p k3 x3,qeT a b c m i x3=V o1/\e=[(0,vi a),(1,oS W b.length R),(2,oS X c.length T),(8,oS d p k3),(9,oS g x1.length x1.length)]/\SH w w' [oW S2 (i:List Bool) [oS g x1.length x1.length],oW s (x3:List Int) [oS d p k3]]) n ⟨_,_,_,_,_,_,F,rfl,h⟩ Z ?_);rintro m1 _ _ ⟨i,s,d,p,k3,x3,F,rfl,h⟩;obtain rfl:=(h.sl 1 Z).2;rcases m1 with _|m1
 ·cases F
 refine X0 8 Z (qi Z F ?_ ?_)<;>intro F
 ·refine X0 5 Z ?_;obtain⟨f,l,F⟩:=qc F;obtain⟨g3,g4,l⟩:=qU l;refine qam qa Bool h Z Z Z Z Z Z Z Z Z g3 g4 l Z fun _ S4 u h=>X0 7 Z ?_;obtain⟨o2,F,hK2⟩:=qc F;refine qm (rL (fun m e w'=>∃v i1,qcV b c i m v i1=V o2/\e=[(0,vi a),(1,oS W b.length R),(2,oS X c.length T),(8,oS d x3.length k3),(9,oS g x1.length x1.length),(10,oS u f.length f.length),(11,vi i1)]/\SH w w' [oW S4 (v:List Bool) [oS u f.length f.length],oW S2 (i:List Bool) [oS g x1.length x1.length],oW s (x3:List Int) [oS d x3.length k3]]) m1 ⟨_,_,F,rfl,h⟩ Z ?_);rintro m2 _ _ ⟨v,i1,F,rfl,h⟩;rcases m2 with _|m2
  ·cases F
  refine X0 8 Z (qi Z F ?_ ?_)<;>intro F
  ·refine X0 4 Z ?_;obtain⟨KF1,A,_,F,y⟩:=bindE F;refine qa0 (fun e w'=>∃b1,KF1 b1=V o2/\e=[(0,vi a),(1,oS W b.length R),(2,oS X c.length T),(8,oS d x3.length k3),(9,oS g x1.length x1.length),(10,oS u f.length f.length),(11,vi i1),(42,.bool b1)]/\SH w w' [oW S4 (v:List Bool) [oS u f.length f.length],oW S2 (i:List Bool) [oS g x1.length x1.length],oW s (x3:List Int) [oS d x3.length k3]]) ?_ ?_
   ·refine X0 3 Z ?_;obtain⟨_,_,F,he3,_,_,_,_,hp3,hq3,rfl,hc6⟩:=s2.ix F;refine zxe hp3 hq3 he3 Z (zc 0 (hc6.below h.below) Z (zp1 Z (qn (t:=32) F Z ?_ ?_)))<;>intro F
    ·refine X0 7 Z ?_;obtain⟨_,_,F,he4,_,_,_,_,hp4,hq4,hr4,hc7⟩:=s1.ix F;obtain rfl:=qaw hr4;refine zxe hp4 hq4 he4 Z (X0 3 Z (zc 0 (hc7.below h.below) Z (X0 1 Z ?_)));obtain⟨_,_,F,J,_,_,_,_,hp5,hq5,rfl,hc8⟩:=(h.sl 1 Z).1.ix F;refine zx hp5 hq5 ⟨J.1,qC J.2.1 (h.sl 1 Z).2⟩ Z (X0 1 Z (zc 0 hc8 Z (X0 4 Z ?_)));obtain rfl:=qb F;exact rG ⟨_,y,rfl,h⟩ Z
    refine X0 11 Z ?_;obtain rfl:=qb F;exact rG ⟨_,y,rfl,h⟩ Z
   rintro _ _ ⟨b1,F,rfl,h⟩;subst A;refine qi Z F ?_ ?_<;>intro F
   ·refine X0 4 Z ?_;obtain⟨_,_,F,he1,_,_,_,_,hp1,hq1,hr1,hc4⟩:=s1.ix F;obtain rfl:=qaw hr1;refine zxe hp1 hq1 he1 Z (zp1 Z (zc 1 (hc4.below h.below) Z ?_));obtain⟨_,hy2,F,I,_,_,_,_,N,P,rfl,hc5⟩:=(h.sl 0 Z).1.ix F;exact zx N P ⟨I.1,qC I.2.1 (h.sl 0 Z).2⟩ Z (qax qa 0 0 true h Z hy2 N P Z hc5 Z Z Z Z Z Z Z fun _ h=>X0 7 Z (rK ⟨_,_,F,rfl,h⟩ Z))
   exact X0 7 Z (rK ⟨_,_,F,rfl,h⟩ Z)
  refine qt Z ?_;obtain rfl:=qb F;replace F:=hK2;refine X0 5 Z ?_;obtain⟨KF2,B,o4,F,z⟩:=bindE F;refine qa0 (fun e w'=>∃Y,KF2 Y=V o1/\e=[(0,vi a),(1,oS W b.length R),(2,oS X c.length T),(8,oS d x3.length k3),(9,oS g x1.length x1.length),(12,vi Y)]/\SH w w' [oW S2 (i:List Bool) [oS g x1.length x1.length],oW s (x3:List Int) [oS d x3.length k3]]) ?_ ?_
  ·refine qm (rL (fun m e w'=>∃i4,qcj a i v m i4=V o4/\e=[(0,vi a),(1,oS W b.length R),(2,oS X c.length T),(8,oS d x3.length k3),(9,oS g x1.length x1.length),(10,oS u f.length f.length),(12,vi i4)]/\SH w w' [oW S4 (v:List Bool) [oS u f.length f.length],oW S2 (i:List Bool) [oS g x1.length x1.length],oW s (x3:List Int) [oS d x3.length k3]]) m1 ⟨_,F,rfl,h⟩ Z ?_);rintro m3 _ _ ⟨i4,F,rfl,h⟩;rcases m3 with _|m3
   ·cases F
   refine X0 7 Z (qn (t:=53) F Z ?_ ?_)<;>intro F
   ·refine X0 5 Z ?_;obtain⟨_,_,F,L,_,_,_,_,hp7,hq7,rfl,D⟩:=(h.sl 1 Z).1.ix F;refine zx hp7 hq7 ⟨L.1,qC L.2.1 (h.sl 1 Z).2⟩ Z (X0 1 Z (zc 0 D Z (X0 2 Z (qn (t:=58) F Z ?_ ?_))))<;>intro F
    ·exact X0 8 Z (qcs Z Z (X0 8 Z (rK ⟨_,F,rfl,h⟩ Z)))
    refine X0 5 Z ?_;obtain⟨_,_,F,M,_,_,_,_,hp8,hq8,rfl,H⟩:=(h.sl 0 Z).1.ix F;refine zx hp8 hq8 ⟨M.1,qC M.2.1 (h.sl 0 Z).2⟩ Z (X0 1 Z (zc 0 H Z (X0 4 Z (qi Z F ?_ ?_))))<;>intro F
    ·exact X0 8 Z (rK ⟨_,F,rfl,h⟩ Z)
    refine qt Z ?_;replace h:=h.p [1,2] Z;obtain rfl:=qb F;exact rG ⟨_,z,rfl,h⟩ Z
   refine X0 12 Z (qcg Z Z (qt Z ?_));replace h:=h.p [1,2] Z;obtain rfl:=qb F;exact rG ⟨_,z,rfl,h⟩ Z
  rintro _ _ ⟨Y,F,rfl,h⟩;subst B;refine X0 7 Z (qi Z F ?_ ?_)<;>intro F
  ·refine zSR (qG qa [] _ ([]:List Int) h Z Z Z Z Z Z Z Z Z trivial Z fun _ p7 _ h=>X0 3 Z ?_);obtain rfl:=qb F;replace F:=x;obtain rfl:=qb F;exact qac qa (ρ:=((List Int)×Bool)) [oV (List Int) [oS p7 0 0],oV Bool [.bool false]] h ⟨rfl,rfl,G⟩ (PV.done h (qao h (qab 0 h Z) (qae (qv (S:=fun _=>False) Z)) (by rfl)))
  refine X0 5 Z ?_;obtain⟨_,hy6,F,K,_,_,_,_,O,Q,rfl,C⟩:=(h.sl 0 Z).1.ix F;refine zx O Q ⟨K.1,qC K.2.1 (h.sl 0 Z).2⟩ Z (qax qa 0 0 true h Z hy6 O Q Z C Z Z Z Z Z Z Z fun _ h=>X0 4 Z (qG qa [.tmp 75] _ ([Y]:List Int) h Z Z Z Z Z Z Z Z Z ⟨rfl,G⟩ Z fun _ _ _ h=>?_));obtain⟨_,o,F⟩:=qc F;obtain⟨g5,o⟩:=qO o;refine qbW qa 2 h Z (h.sl 0 Z).1 (h.sl 0 Z).2 Z Z Z Z Z Z Z Z Z g5 o Z fun _ _ _ _ h=>X0 3 Z ?_;replace h:=h.p [1,2] Z;exact rK ⟨_,_,_,_,_,_,F,rfl,h⟩ Z
 refine qt Z ?_;obtain rfl:=qb F;replace F:=x;refine X0 6 Z ?_;obtain rfl:=qb F;exact qac qa (ρ:=((List Int)×Bool)) [oV (List Int) [oS d x3.length k3],oV Bool [.bool true]] h ⟨rfl,rfl,G⟩ (PV.done h (qao h (qab 1 h Z) (qae (qv (S:=fun _=>False) Z)) (by rfl)))
end Go.Fw


namespace Go.Fw
open Go
set_option maxRecDepth 100000
structure LkOk(ls:List qx)(M:Nat):Prop where
 len:ls.length<=10000
 nodes:M<=156
 fr0:∀x,x<ls.length->0<=(gt ls x).Bm
 fr1:∀x,x<ls.length->(gt ls x).Bm<(M:Int)
 to0:∀x,x<ls.length->0<=(gt ls x).To
 to1:∀x,x<ls.length->(gt ls x).To<(M:Int)
def frL(ls:List qx)(x:Nat):Int:=(gt ls x).Bm
def toL(ls:List qx)(x:Nat):Int:=(gt ls x).To
def lvL(lv:List Bool)(x:Nat):Bool:=gt lv x
abbrev inL(ls:List qx)(lv:List Bool)(j:Nat)(R:List Nat)(k:Nat):Nat:=inN j (frL ls) (toL ls) (lvL lv) R k
abbrev nxtL(ls:List qx)(lv:List Bool)(M:Nat)(R:List Nat):Option Nat:=nxtN ls.length (frL ls) (toL ls) (lvL lv) M R
abbrev ordL(ls:List qx)(lv:List Bool)(M m:Nat)(R:List Nat):Option (List Nat):=ordN ls.length (frL ls) (toL ls) (lvL lv) M m R
def ordR(ls:List qx)(lv:List Bool)(M:Nat):List Int×Bool:=match ordL ls lv M M [] with|some R=>(ints R,true)|none=>([],false)
theorem qy4{ls:List qx}{lv:List Bool}{M m:Nat}{R:List Nat}(h:nxtL ls lv M R=U):ordL ls lv M (m+1) R=U:=by
 show(match nxtL ls lv M R with|none=>U|some k=>ordL ls lv M m (R++[k]))=U;rw[h]
theorem qy0{ls:List qx}{lv:List Bool}{M m k:Nat}{R:List Nat}(h:nxtL ls lv M R=V k):ordL ls lv M (m+1) R=ordL ls lv M m (R++[k]):=by
 show(match nxtL ls lv M R with|none=>U|some k=>ordL ls lv M m (R++[k]))=_;rw[h]
theorem qqW{M:Nat}{v:Bool}(h:M<=2147483648):mkS (M:Int) v=V (pre (fun _=>v) M):=by
 rw[qns h]
 congr 1
 refine Jp (by simp[pre]) fun i a b=>?_;simp[pre]
theorem qBO{L:Nat}{fr to:Nat->Int}{lv:Nat->Bool}{R:List Nat}{k:Nat}:inN L fr to lv R k<=L:=qgJ
theorem qv8{L:Nat}{fr to:Nat->Int}{lv:Nat->Bool}{R:List Nat}{k:Nat}:inN (L+1) fr to lv R k=inN L fr to lv R k+(bif lv L&&(to L==(k:Int)&&!decide (fr L∈ints R)) then 1 else 0):=rfl
def ledB(ls:List qx)(lv:List Bool)(j:Nat)(R:List Nat)(M:Nat):List Bool:=pre (fun k=>!decide (inL ls lv j R k=0)) M
def inB(R:List Nat)(M:Nat):List Bool:=pre (fun k=>decide (k∈R)) M
theorem qAD{ls:List qx}{lv:List Bool}{M:Nat}(h:LkOk ls M)(z:lv.length=ls.length){R:List Nat} :
  Ev (fun n=>qcV ls lv (inB R M) n (pre (fun _=>false) M) 0) (ledB ls lv ls.length R M,(ls.length:Int)):=by
 have x:=h.len;refine loopF (Lf:=qcV ls lv (inB R M)) (S:=fun j=>ledB ls lv j R M) (len:=ls.length) (fun n=>?_) (fun j l X i=>?_)
 ·simp only[qcV,qk (je _),cond_false]
 ·obtain⟨a,u⟩:∃a:Nat,(gt ls j).Bm=(a:Int):=⟨_,qgS (h.fr0 j l)⟩;obtain⟨c,v⟩:∃c:Nat,(gt ls j).To=(c:Int):=⟨_,qgS (h.to0 j l)⟩;have p:a<M:=by have:=h.fr1 j l;omega
  have r:c<M:=by have:=h.to1 j l;omega
  have s:frL ls j=(a:Int):=u;have o:toL ls j=(c:Int):=v;have b:decide (frL ls j∈ints R)=decide (a∈R):=by rw[s];exact decide_eq_decide.2 qiD
  have i1:idx (inB R M) (a:Int)=V (decide (a∈R)):=qh0 (f:=fun k=>decide (k∈R)) p;have y:idx (ledB ls lv j R M) (c:Int)=V (!decide (inL ls lv j R c=0)):=qh0 (f:=fun k=>!decide (inL ls lv j R k=0)) r;have t:(lvL lv j&&!decide (a∈R))=true->ledB ls lv (j+1) R M=setS (ledB ls lv j R M) (c:Int) true:=by
   intro g;unfold ledB;rw[qqA];refine qhY fun k _=>?_;show(!decide (inN (j+1) _ _ _ R k=0))=_;rw[qv8,o,b];by_cases m:k=c
   ·subst m;rw[if_pos Z];simp only[jf] at g;simp[g.1,g.2]
   ·rw[if_neg m,show((c:Int)==(k:Int))=false by simp;omega];simp
  have d:(lvL lv j&&!decide (a∈R))=false->ledB ls lv (j+1) R M=ledB ls lv j R M:=by
   intro g;unfold ledB;refine qhY fun k _=>?_;show(!decide (inN (j+1) _ _ _ R k=0))=_;rw[qv8,o,b,show(lvL lv j&&(((c:Int)==(k:Int))&&!decide (a∈R)))=false by
    cases h1:lvL lv j
    ·rfl
    ·rw[h1] at g;simp only[jG] at g;rw[g];simp]
   simp
  simp only[qcV,qj l,cond_true,qA (show j<lv.length by omega),qA l,jd,u,v,i1,y,wS j];cases h1:gt lv j
  ·simp only[cond_false,jd];have:=d (by unfold lvL;rw[h1];rfl);rw[this] at i;exact i
  ·simp only[cond_true,jd];cases h2:decide (a∈R)
   ·simp only[Bool.not_false,cond_true];have:=t (by unfold lvL;rw[h1,h2];rfl);rw[this] at i;exact i
   ·simp only[Ji,cond_false];have:=d (by unfold lvL;rw[h1,h2];rfl);rw[this] at i;exact i
theorem qzX{ls:List qx}{lv:List Bool}{M:Nat}(h:LkOk ls M){R:List Nat} :
  Ev (fun n=>qcj (M:Int) (inB R M) (ledB ls lv ls.length R M) n 0) (match nxtL ls lv M R with|some k=>(k:Int)|none=>(M:Int)):=by
 have t:=h.nodes;have b:∀d j,j+d=M->(∀i,i<j->freeN ls.length (frL ls) (toL ls) (lvL lv) R i=false) ->
   Ev (fun n=>qcj (M:Int) (inB R M) (ledB ls lv ls.length R M) n (j:Int)) (match nxtL ls lv M R with|some k=>(k:Int)|none=>(M:Int)):=by
  intro d
  induction d with
  |zero=>
   intro j p c;have l:nxtL ls lv M R=U:=by
    show(List.range M).find? _=U;rw[List.find?_eq_none];intro x r;rw[List.mem_range] at r;rw[c x (by omega)];simp
   rw[l];refine Ev.succ ?_;simp only[qcj,qk (show M<=j by omega),cond_false];rw[show j=M by omega];exact .done
  |succ d ih=>
   intro j p c;have a:j<M:=by omega
   have i1:idx (inB R M) (j:Int)=V (decide (j∈R)):=qh0 (f:=fun k=>decide (k∈R)) a;have s:idx (ledB ls lv ls.length R M) (j:Int)=V (!decide (inL ls lv ls.length R j=0)):=qh0 (f:=fun k=>!decide (inL ls lv ls.length R k=0)) a;refine Ev.succ ?_;simp only[qcj,qj a,cond_true,i1,s,jd,wS j];have m:freeN ls.length (frL ls) (toL ls) (lvL lv) R j=false->Ev (fun n=>qcj (M:Int) (inB R M) (ledB ls lv ls.length R M) n ((j+1:Nat):Int)) (match nxtL ls lv M R with|some k=>(k:Int)|none=>(M:Int)):=fun o=>
    ih (j+1) (by omega) fun i hi=>by
     by_cases g:i=j
     ·rw[g];exact o
     ·exact c i (by omega)
   cases h1:decide (j∈R)
   ·simp only[cond_false];cases h2:decide (inL ls lv ls.length R j=0)
    ·simp only[Bool.not_false,cond_true];exact m (by unfold freeN;rw[h1];show(!false&&decide (inL ls lv ls.length R j=0))=false;rw[h2];rfl)
    ·simp only[Ji,cond_false];have:nxtL ls lv M R=V j:=by
      show(List.range M).find? _=V j;rw[List.find?_range_eq_some];refine⟨?_,List.mem_range.2 a,fun i hi=>by rw[c i hi];rfl⟩;unfold freeN;rw[h1];show(!false&&decide (inL ls lv ls.length R j=0))=true;rw[h2];rfl
     rw[this];exact .done
   ·simp only[cond_true];exact m (by unfold freeN;rw[h1];rfl)
 exact b M 0 (by omega) (fun i hi=>absurd hi (by omega))
theorem qui{ls:List qx}{lv:List Bool}{M:Nat}(h:LkOk ls M)(g:lv.length=ls.length):Ev (fun n=>qha n (M:Int) ls lv) (ordR ls lv M):=by
 have l:=h.nodes;have b:∀m R,R.length+m=M->Ev (fun n=>qeT (M:Int) ls lv n (inB R M) (ints R))
   (match ordL ls lv M m R with|some R'=>.nxt (inB R' M,ints R')|none=>.ret ([],false)):=by
  intro m
  induction m with
  |zero=>
   intro R c;refine Ev.succ ?_;simp only[qeT,qbZ,qk (show M<=R.length by omega),cond_false];exact .done
  |succ m ih=>
   intro R c;refine Ev.succ ?_;simp only[qeT,qbZ,qj (show R.length<M by omega),cond_true,qqW (v:=false) (show M<=2147483648 by omega),jd];refine Ev.bind (qAD h g) (Ev.bind (qzX h) ?_);show Ev _ (match (match nxtL ls lv M R with|none=>U|some k=>ordL ls lv M m (R++[k])) with|some R'=>_|none=>_);cases hn:nxtL ls lv M R with
   |none=>
    simp only[beq_self_eq_true,cond_true];exact .done
   |some k=>
    obtain⟨d,_,_⟩:=qq3 hn;have i1:idx (inB R M) (k:Int)=V (decide (k∈R)):=qh0 (f:=fun k=>decide (k∈R)) d;have e1:setS (inB R M) (k:Int) true=inB (R++[k]) M:=by
     unfold inB;rw[qqA];refine qhY fun i _=>?_;by_cases a:i=k
     ·subst a;simp
     ·simp[a]
    simp only[show((k:Int)==(M:Int))=false by simp;omega,cond_false,i1,jd];rw[qbn (by rw[qbZ,jm];omega),e1,<-qlC];exact ih (R++[k]) (by rw[jg,jm];omega)
 have e0:pre (fun _=>false) M=inB [] M:=qhY fun k _=>by simp
 unfold qha;rw[qqW (v:=false) (show M<=2147483648 by omega)];simp only[jd];rw[e0];refine Ev.bind (b M [] (by simp)) ?_;unfold ordR;cases ordL ls lv M M []<;>exact .done
def grV(ls:List qx)(lv:List Bool)(ps:List Tplace)(b:qh)(lo:List Int)(de:List (List Int))(ex:List Int):Option Tgraph:=V ⟨V ⟨b,ps,ls,lo,de,ex⟩,lv⟩
theorem quI{xs:List Int}(c:xs.length<=1000000):Ev (fun n=>qih n xs 0) (ixL (fun y=>(0:Int)==y) xs):=
 qg0 (fin:=(xs.length:Int)) (Lf:=qdi xs 0) (pf:=fun _ y=>V ((0:Int)==y)) (fun _ _=>.done)
  (fun n=>by simp only[qdi,qk (je _),cond_false])
  (fun n j x a=>by
   have b:=(List.getElem?_eq_some_iff.1 a).1;simp only[qdi,qj b,cond_true,qas a,jd,wS j])
  (fun n=>by unfold qih;congr 1;funext o;cases o<;>rfl)
theorem qA8{f:Nat->Int}{M:Nat}{p:Int->Bool}:ixL p (vecI f M)=match (List.range M).find? (fun k=>p (f k)) with|some k=>(k:Int)|none=>-1:=by
 cases hf:(List.range M).find? (fun k=>p (f k)) with
 |none=>
  have a:(vecI f M).findIdx? p=U:=by
   rw[List.findIdx?_eq_none_iff];intro x g;obtain⟨k,d,rfl⟩:=List.mem_map.1 g;have:=List.find?_eq_none.1 hf k d;simpa using this
  unfold ixL;rw[a]
 |some k=>
  obtain⟨a,b,c⟩:=List.find?_range_eq_some.1 hf;rw[List.mem_range] at b;have:=qum (p:=p) (xs:=vecI f M) (j:=k) (by rw[qnb];exact b) (by simpa [vecI] using a) (fun i hi=>by
   have:=c i hi;simpa [vecI] using this)
  rw[this]
section
variable{ls:List qx}{lv:List Bool}{M:Nat}{ps:List Tplace}{b:qh}{lo:List Int}{de:List (List Int)}{ex:List Int}
theorem quY(h:LkOk ls M)(k:lv.length=ls.length):Ev (fun n=>qbl n (grV ls lv ps b lo de ex)) (ints (selN (lvL lv) ls.length)):=by
 have g:=h.len;have f:Ev (fun n=>qI ⟨V ⟨b,ps,ls,lo,de,ex⟩,lv⟩ ⟨b,ps,ls,lo,de,ex⟩ n ([]:List Int) 0) (ints (selN (lvL lv) ls.length),(ls.length:Int)):=by
  refine qqP (q:=lvL lv) (Lf:=qI ⟨V ⟨b,ps,ls,lo,de,ex⟩,lv⟩ ⟨b,ps,ls,lo,de,ex⟩) (len:=ls.length) (by omega) (Ev.succ ?_) (fun j a t i X c d=>?_)
  ·simp only[qI,qk (je _),cond_false];exact .done
  ·simp only[qI,qj a,cond_true,qA a,qA (show j<lv.length by omega),jd,qiY,i,wS j];cases hq:gt lv j
   ·simp only[cond_false];exact d hq
   ·simp only[cond_true];exact c hq
 unfold qbl grV;simp only[jd];exact Ev.bind f .done
theorem qBx(h:LkOk ls M)(k:lv.length=ls.length){v:Int}:Ev (fun n=>qiQ n (grV ls lv ps b lo de ex) v) (ints (selN (fun x=>lvL lv x&&(frL ls x==v)) ls.length)):=by
 have g:=h.len;have f:Ev (fun n=>qK v ⟨V ⟨b,ps,ls,lo,de,ex⟩,lv⟩ ⟨b,ps,ls,lo,de,ex⟩ n ([]:List Int) 0) (ints (selN (fun x=>lvL lv x&&(frL ls x==v)) ls.length),(ls.length:Int)):=by
  refine qqP (q:=fun x=>lvL lv x&&(frL ls x==v)) (Lf:=qK v ⟨V ⟨b,ps,ls,lo,de,ex⟩,lv⟩ ⟨b,ps,ls,lo,de,ex⟩) (len:=ls.length) (by omega) (Ev.succ ?_) (fun j d t i X c a=>?_)
  ·simp only[qK,qk (je _),cond_false];exact .done
  ·simp only[qK,qj d,cond_true,qA d,qA (show j<lv.length by omega),jd,qjI,i,wS j];unfold lvL frL at c a;cases hq:gt lv j
   ·simp only[cond_false];exact a (by rw[hq];rfl)
   ·simp only[cond_true];cases hw:(gt ls j).Bm==v
    ·simp only[cond_false];exact a (by rw[hq,hw];rfl)
    ·simp only[cond_true];exact c (by rw[hq,hw];rfl)
 unfold qiQ qcy grV;simp only[jd];exact Ev.bind (Ev.bind f .done) .done
theorem qzz{q:Nat->Bool}{m:Nat}{p:Nat->Bool}:(selN q m).countP p=cntP (fun x=>q x&&p x) m:=by
 induction m with
 |zero=>rfl
 |succ m ih=>
  rw[qkc,List.countP_append,ih];show _=cntP (fun x=>q x&&p x) m+(bif (q m&&p m) then 1 else 0);cases q m
  ·rfl
  ·cases hp:p m<;>simp[hp]
def cntT(ls:List qx)(S:List Nat)(k:Nat):Nat:=S.countP (fun x=>toL ls x==(k:Int))
theorem qxM{S:List Nat}{k:Nat}:cntT ls S k<=S.length:=List.countP_le_length
theorem qyV{S:List Nat}{j k:Nat}(a:j<S.length):cntT ls (S.take (j+1)) k=cntT ls (S.take j) k+(if toL ls S[j]=(k:Int) then 1 else 0):=by
 unfold cntT;rw[js a,List.countP_append];by_cases h:toL ls S[j]=(k:Int)<;>simp[h]
theorem bumpV{f:Nat->Int}{c:Nat}{S:List Nat}{j:Nat}{d v:Int}(g:j<S.length)(b:toL ls S[j]=(c:Int))(h:v=f c+d*(cntT ls (S.take j) c:Int)+d) :
  setS (vecI (fun k=>f k+d*(cntT ls (S.take j) k:Int)) M) (c:Int) v=vecI (fun k=>f k+d*(cntT ls (S.take (j+1)) k:Int)) M:=by
 rw[qsp];refine qfX fun k _=>?_;rw[qyV g,b];by_cases a:k=c
 ·subst a;rw[if_pos Z,if_pos Z,h];rw[Int.natCast_add,Int.mul_add];omega
 ·rw[if_neg a,if_neg (by omega)];simp
theorem qCf(h:LkOk ls M){S:List Nat}(p:∀x,x∈S->x<ls.length)(s:S.length<=10000) :
  Ev (fun n=>qco ⟨V ⟨b,ps,ls,lo,de,ex⟩,lv⟩ (ints S) n (vecI (fun _=>0) M) 0) (vecI (fun k=>(cntT ls S k:Int)) M,(S.length:Int)):=by
 have:=loopF (Lf:=qco ⟨V ⟨b,ps,ls,lo,de,ex⟩,lv⟩ (ints S)) (S:=fun j=>vecI (fun k=>0+1*(cntT ls (S.take j) k:Int)) M) (len:=S.length) (fin:=(vecI (fun k=>(cntT ls S k:Int)) M,(S.length:Int))) (fun n=>by
   simp only[qco,qbZ,qk (je _),cond_false,jE];rw[qfX (f:=fun k=>0+1*(cntT ls S k:Int)) (g:=fun k=>(cntT ls S k:Int)) (fun k _=>by omega)])
  (fun j a X r=>by
   have m:=p S[j] (jp a);obtain⟨c,o⟩:∃c:Nat,(gt ls S[j]).To=(c:Int):=⟨_,qgS (h.to0 _ m)⟩;have i:c<M:=by have:=h.to1 _ m;omega
   have l:=qxM (ls:=ls) (S:=S.take j) (k:=c);rw[jw] at l;simp only[qco,qbZ,qj a,cond_true,qmH a,jd,qA m,o,qoC i,wS j];rw[qM (by omega) (by omega),bumpV (d:=1) a o (by omega)];exact r)
 rw[qfX (f:=fun k=>0+1*(cntT ls (S.take 0) k:Int)) (g:=fun _=>0) (fun k _=>by unfold cntT;simp)] at this;exact this
theorem qAe(h:LkOk ls M){S:List Nat}{f:Nat->Int}(p:∀x,x∈S->x<ls.length)(u:S.length<=10000)(s:∀k,k<M->-1<=f k/\f k<=10000) :
  Ev (fun n=>qck ⟨V ⟨b,ps,ls,lo,de,ex⟩,lv⟩ (ints S) n (vecI f M) 0) (vecI (fun k=>f k-(cntT ls S k:Int)) M,(S.length:Int)):=by
 have:=loopF (Lf:=qck ⟨V ⟨b,ps,ls,lo,de,ex⟩,lv⟩ (ints S)) (S:=fun j=>vecI (fun k=>f k+(-1)*(cntT ls (S.take j) k:Int)) M) (len:=S.length) (fin:=(vecI (fun k=>f k-(cntT ls S k:Int)) M,(S.length:Int))) (fun n=>by
   simp only[qck,qbZ,qk (je _),cond_false,jE];rw[qfX (f:=fun k=>f k+(-1)*(cntT ls S k:Int)) (g:=fun k=>f k-(cntT ls S k:Int)) (fun k _=>by omega)])
  (fun j i X r=>by
   have m:=p S[j] (jp i);obtain⟨c,o⟩:∃c:Nat,(gt ls S[j]).To=(c:Int):=⟨_,qgS (h.to0 _ m)⟩;have a:c<M:=by have:=h.to1 _ m;omega
   have l:=qxM (ls:=ls) (S:=S.take j) (k:=c);rw[jw] at l;have t:=s c a;simp only[qck,qbZ,qj i,cond_true,qmH i,jd,qA m,o,qoC a,wS j];rw[qM (by omega) (by omega),bumpV (d:=-1) i o (by omega)];exact r)
 rw[qfX (f:=fun k=>f k+(-1)*(cntT ls (S.take 0) k:Int)) (g:=f) (fun k _=>by unfold cntT;simp)] at this;exact this
def openV(ls:List qx)(lv:List Bool)(R:List Nat)(k:Nat):Int:=if k∈R then -1 else(inL ls lv ls.length R k:Int)
theorem qyy{R:List Nat}:ixL (fun y=>(0:Int)==y) (vecI (openV ls lv R) M)=match nxtL ls lv M R with|some k=>(k:Int)|none=>-1:=by
 rw[qA8];have:(fun k=>((0:Int)==openV ls lv R k))=freeN ls.length (frL ls) (toL ls) (lvL lv) R:=by
  funext k
  unfold openV freeN;by_cases a:k∈R
  ·rw[if_pos a];simp[a]
  ·rw[if_neg a];simp only[a,decide_false,Bool.not_false,jG];by_cases b:inL ls lv ls.length R k=0
   ·simp[b]
   ·rw[show((0:Int)==((inL ls lv ls.length R k:Nat):Int))=false from beq_eq_false_iff_ne.2 (by omega)];simpa using b
 rw[this]
 rfl
theorem qy2(h:LkOk ls M)(t:lv.length=ls.length)(F:M=2*ps.length):Ev (fun n=>qh8 n (grV ls lv ps b lo de ex)) (ordR ls lv M):=by
 have H:=h.nodes;have C:=h.len;have g:∀m R,R.length+m=M->Closed ls.length (frL ls) (toL ls) (lvL lv) R->∃y:List Int×List Int×Int,Ev (fun n=>qcm (grV ls lv ps b lo de ex) ⟨V ⟨b,ps,ls,lo,de,ex⟩,lv⟩ (vecI (fun _=>0) M) n (ints R) (vecI (openV ls lv R) M) (R.length:Int))
   (match ordL ls lv M m R with|some R'=>.nxt (ints R',y.2.1,y.2.2)|none=>.ret ([],false)):=by
  intro m
  induction m with
  |zero=>
   intro R A _;refine⟨(ints R,vecI (openV ls lv R) M,(R.length:Int)),Ev.succ ?_⟩;simp only[qcm,qnb,qk (show M<=R.length by omega),cond_false];exact .done
  |succ m ih=>
   intro R A s;have c:=quI (xs:=vecI (openV ls lv R) M) (by rw[qnb];omega);rw[qyy] at c;cases hn:nxtL ls lv M R with
   |none=>
    rw[hn] at c;rw[qy4 hn];refine⟨([],[],0),Ev.succ ?_⟩;simp only[qcm,qnb,qj (show R.length<M by omega),cond_true];exact Ev.bind c (Ev.tt (by decide) .done)
   |some k=>
    rw[hn] at c;rw[qy0 hn];obtain⟨B,d,r⟩:=qq3 hn;obtain⟨y,o⟩:=ih (R++[k]) (by rw[jg,jm];omega) (s.snoc r);refine⟨y,Ev.succ ?_⟩;simp only[qcm,qnb,qj (show R.length<M by omega),cond_true];refine Ev.bind c (Ev.ff (by simp) ?_);rw[qoC B,qbn (by rw[qbZ,jm];omega),qsp,<-qlC];simp only[jd];refine Ev.bind (qBx h t) ?_;have D:=qnn (q:=fun x=>lvL lv x&&(frL ls x==(k:Int))) (j:=ls.length);refine Ev.bind (qAe h (fun x p=>(qfx.1 p).1) (by omega) (fun i hi=>?_)) ?_
    ·split
     ·omega
     ·unfold openV;have:inL ls lv ls.length R i<=ls.length:=qBO;split<;>omega
    ·have u:vecI (fun i=>(if i=k then -1 else openV ls lv R i)-(cntT ls (selN (fun x=>lvL lv x&&(frL ls x==(k:Int))) ls.length) i:Int)) M=vecI (openV ls lv (R++[k])) M:=by
      refine qfX fun i _=>?_;have v:cntT ls (selN (fun x=>lvL lv x&&(frL ls x==(k:Int))) ls.length) i=lkN ls.length (frL ls) (toL ls) (lvL lv) k i:=qzz;rw[v];unfold openV;by_cases a:i∈R++[k]
      ·rw[if_pos a,s.no_back d r a];rcases List.mem_append.1 a with l|l
       ·split
        ·rfl
        ·rfl
       ·rw[if_pos (List.mem_singleton.1 l)];rfl
      ·have l:i∉R:=fun e=>a (jJ _ e);have z:i≠k:=fun e=>a (jR _ (List.mem_singleton.2 e));rw[if_neg a,if_neg z,if_neg l];have:=qy7 (L:=ls.length) (fr:=frL ls) (to:=toL ls) (lv:=lvL lv) (R:=R) (i:=k) (k:=i) d;show(inN _ _ _ _ R i:Int)-_=(inN _ _ _ _ (R++[k]) i:Int);omega
     rw[u,qc4 (show R.length<9223372036854775807 by omega)];rw[jg,jm] at o;exact o
 have f:=qCf (b:=b) (ps:=ps) (lo:=lo) (de:=de) (ex:=ex) (lv:=lv) h (S:=selN (lvL lv) ls.length) (fun x p=>(qfx.1 p).1) (by have:=qnn (q:=lvL lv) (j:=ls.length);omega);have e0:vecI (fun k=>(cntT ls (selN (lvL lv) ls.length) k:Int)) M=vecI (openV ls lv []) M:=by
  refine qfX fun k _=>?_;unfold openV;rw[if_neg (by simp)]
  congr 1
  show List.countP _ _=inN _ _ _ _ [] k;rw[qzz];unfold inN;exact qsH fun x _=>by simp[ints]
 rw[e0] at f;obtain⟨y,o⟩:=g M [] (by simp) Closed.nil;unfold qh8;show Ev (fun n=>(V _).bind _) _;simp only[jd,qcb,qeA];rw[qM (by omega) (by omega),show 2*(ps.length:Int)=(M:Int) by omega,qtQ (by omega)];simp only[jd];refine Ev.bind (quY h t) (Ev.bind f (Ev.bind o ?_));unfold ordR;cases ordL ls lv M M []<;>exact .done
end
end Go.Fw


namespace Go.Fw
open Go Go.Proofs Go.Proofs.Tryz
open Go.RowKit (Below)
open Ch renaming own->oW,box->oX,grp->oG
open GoT renaming v->oV
open Go.Value renaming slice->oS
set_option maxRecDepth 100000
set_option maxHeartbeats 6400000
variable{n:Nat}{w:World}{cs1 cs2 cs3 cs4 cs5 cs6 cs7 cs8 cs9:List Value}
def qmI(_:Nat)(b:Int):Option qr:=(mkS b (false:Bool)).bind fun x1=>(mkS b ((⟨0,0⟩:qe):qe)).bind fun a=>(mkS b ((⟨0,0⟩:qe):qe)).bind fun x3=>V (⟨x1,a,x3⟩:qr)
theorem qrh{a_n}  {r:qr}(F:qmI n a_n=V r):RetV prog 236 [vi a_n] w r:=by
 refine zV 10 func236 Z fun h=>zSR (qq qa h Z Z Z fun _ I h=>zNS (rA [] [] h Z fun _ h=>M0 21 [0,2,4] (h.p [] Z) Z ?_));obtain⟨x1,a,F⟩:=qc F;obtain⟨A,b,F⟩:=qc F;obtain⟨x3,c,F⟩:=qc F;refine qlc (fun e w'=>∃C x D y H z,e=[(2,vp I)]/\SH w w' [oW C (x3:List qe) [oS x x3.length x3.length],oW D (A:List qe) [oS y A.length A.length],oW H (x1:List Bool) [oS z x1.length x1.length],oX I [oS z x1.length x1.length,oS y A.length A.length,oS x x3.length x3.length] 111]) 0 (bits 8 255) ?_ ?_
 ·intro K;refine qsa 1 3 5 Z Z Z (bits 8 23) (bits 8 29) (bits 8 53) (by kernel_rfl) (by kernel_rfl) (by kernel_rfl) (by kernel_rfl) ?_ ?_ ?_
  ·obtain⟨m,o,a⟩:=qU a;refine qam qa Bool h Z Z Z Z Z Z Z Z Z m o a Z fun L B J h=>Ag (h.p [] Z) (At 3 5 31 55 Z ?_ ?_)
   ·obtain⟨d,f,b⟩:=qU b;refine qam qa qe h Z Z Z Z Z Z Z Z Z d f b Z fun t k p h=>Ag (h.p [] Z) (Ao 5 63 Z ?_);obtain⟨g,i,c⟩:=qU c;refine qam qa qe h Z Z Z Z Z Z Z Z Z g i c Z fun u l s h=>Ag (h.p [] Z) (Aw 6 127 (fun w' M=>qH qa [0,1,2] [.tmp 4,.tmp 6,.tmp 8] Z Z Z Z Z Z Z Z) (h.p [] Z) Z ?_);exact Ao 7 255 Z (zs 3 h Z fun v h=>Ag (h.p [] Z) (qrx [(2,_)] ⟨rfl,G⟩ (K _ _ ⟨_,_,_,_,_,_,rfl,h⟩)))
   obtain⟨d,f,c⟩:=qU c;refine qam qa qe h Z Z Z Z Z Z Z Z Z d f c Z fun t k p h=>Ag (h.p [] Z) (Ao 3 63 Z ?_);obtain⟨g,i,b⟩:=qU b;refine qam qa qe h Z Z Z Z Z Z Z Z Z g i b Z fun u l s h=>Ag (h.p [] Z) (Aw 6 127 (fun w' M=>qH qa [0,1,2] [.tmp 4,.tmp 6,.tmp 8] Z Z Z Z Z Z Z Z) (h.p [] Z) Z ?_);refine Ao 7 255 Z (zs 3 h Z fun v h=>Ag (h.p [] Z) ?_);replace h:=h.p [1,0,2,3] Z;exact aK K ⟨_,_,_,_,_,_,rfl,h⟩ Z
  ·obtain⟨m,o,b⟩:=qU b;refine qam qa qe h Z Z Z Z Z Z Z Z Z m o b Z fun L B J h=>Ag (h.p [] Z) (At 1 5 31 61 Z ?_ ?_)
   ·obtain⟨d,f,a⟩:=qU a;refine qam qa Bool h Z Z Z Z Z Z Z Z Z d f a Z fun t k p h=>Ag (h.p [] Z) (Ao 5 63 Z ?_);obtain⟨g,i,c⟩:=qU c;refine qam qa qe h Z Z Z Z Z Z Z Z Z g i c Z fun u l s h=>Ag (h.p [] Z) (Aw 6 127 (fun w' M=>qH qa [0,1,2] [.tmp 4,.tmp 6,.tmp 8] Z Z Z Z Z Z Z Z) (h.p [] Z) Z ?_);refine Ao 7 255 Z (zs 3 h Z fun v h=>Ag (h.p [] Z) ?_);replace h:=h.p [0,2,1,3] Z;exact aK K ⟨_,_,_,_,_,_,rfl,h⟩ Z
   obtain⟨d,f,c⟩:=qU c;refine qam qa qe h Z Z Z Z Z Z Z Z Z d f c Z fun t k p h=>Ag (h.p [] Z) (Ao 1 63 Z ?_);obtain⟨g,i,a⟩:=qU a;refine qam qa Bool h Z Z Z Z Z Z Z Z Z g i a Z fun u l s h=>Ag (h.p [] Z) (Aw 6 127 (fun w' M=>qH qa [0,1,2] [.tmp 4,.tmp 6,.tmp 8] Z Z Z Z Z Z Z Z) (h.p [] Z) Z ?_);refine Ao 7 255 Z (zs 3 h Z fun v h=>Ag (h.p [] Z) ?_);replace h:=h.p [1,2,0,3] Z;exact aK K ⟨_,_,_,_,_,_,rfl,h⟩ Z
  obtain⟨m,o,c⟩:=qU c;refine qam qa qe h Z Z Z Z Z Z Z Z Z m o c Z fun L B J h=>Ag (h.p [] Z) (At 1 3 55 61 Z ?_ ?_)
  ·obtain⟨d,f,a⟩:=qU a;refine qam qa Bool h Z Z Z Z Z Z Z Z Z d f a Z fun t k p h=>Ag (h.p [] Z) (Ao 3 63 Z ?_);obtain⟨g,i,b⟩:=qU b;refine qam qa qe h Z Z Z Z Z Z Z Z Z g i b Z fun u l s h=>Ag (h.p [] Z) (Aw 6 127 (fun w' M=>qH qa [0,1,2] [.tmp 4,.tmp 6,.tmp 8] Z Z Z Z Z Z Z Z) (h.p [] Z) Z ?_);refine Ao 7 255 Z (zs 3 h Z fun v h=>Ag (h.p [] Z) ?_);replace h:=h.p [2,0,1,3] Z;exact aK K ⟨_,_,_,_,_,_,rfl,h⟩ Z
  obtain⟨d,f,b⟩:=qU b;refine qam qa qe h Z Z Z Z Z Z Z Z Z d f b Z fun t k p h=>Ag (h.p [] Z) (Ao 1 63 Z ?_);obtain⟨g,i,a⟩:=qU a;refine qam qa Bool h Z Z Z Z Z Z Z Z Z g i a Z fun u l s h=>Ag (h.p [] Z) (Aw 6 127 (fun w' M=>qH qa [0,1,2] [.tmp 4,.tmp 6,.tmp 8] Z Z Z Z Z Z Z Z) (h.p [] Z) Z ?_);refine Ao 7 255 Z (zs 3 h Z fun v h=>Ag (h.p [] Z) ?_);replace h:=h.p [2,1,0,3] Z;exact aK K ⟨_,_,_,_,_,_,rfl,h⟩ Z
 rintro _ _ ⟨C,x,D,y,H,z,rfl,h⟩;refine Ad ?_;obtain rfl:=qb F;exact qac qa (ρ:=qr) [oV qr [oS z x1.length x1.length,oS y A.length A.length,oS x x3.length x3.length]] h ⟨⟨_,_,_,rfl,rfl,h.box 3 Z,rfl⟩,G⟩ (PV.done h (qae (qgN (⟨x1,A,x3⟩:qr) h (qab 2 h Z) (qab 1 h Z) (qab 0 h Z) (by rfl) (by rfl))))
def qnB(_:Nat)(list:(List Int)):Option (List Int):=(appS ([]:List Int) list).bind fun x1=>V x1
theorem qry{list:(List Int)}(b:Ro w list cs1){r:(List Int)}(F:qnB n list=V r):RetV prog 246 [oV (List Int) cs1] w r:=by
 obtain⟨_,_,rfl,d⟩:=b;refine zV 6 func246 Z fun h=>X0 6 Z (qG qa [] _ ([]:List Int) h Z Z Z Z Z Z Z Z Z trivial Z fun _ _ _ h=>zp1 Z ?_);obtain⟨_,a,F⟩:=qc F;obtain⟨c,a⟩:=qO a;refine qbW qa 0 h Z (h.oldS d) Z Z Z Z Z Z Z Z Z Z c a Z fun _ _ _ _ h=>X0 2 Z ?_;obtain rfl:=qb F;exact rO 0 h Z ⟨rfl,G⟩
def qmD(_:Nat)(l:qp)(d:qd)(p:Tl05Place):Option Int:=bif decide (p.instance_<0) then V 0 else(idx d.Ab p.instance_).bind fun a=>(idx l.Ay a.Bv).bind fun b=>(idx b.Bh p.pin).bind fun c=>V c.Bu
theorem qsO{l:qp}{d:qd}{p:Tl05Place}(a:Ro w l cs1)(b:Ro w d cs2)(c:Ro w p cs3){r:Int}(F:qmD n l d p=V r):RetV prog 247 [oV qp cs1,oV qd cs2,oV Tl05Place cs3] w r:=by
 obtain⟨_,_,rfl,C⟩:=qbN a;obtain⟨_,_,_,_,_,_,rfl,s2,_,_⟩:=qaE b;obtain rfl:=qb5 c;refine zV 27 func247 Z fun h=>zSR (qw h Z Z fun _ _ h=>qw h Z Z fun _ _ h=>qw h Z Z fun _ _ h=>X1 9 0 h Z (qi Z F ?_ ?_))<;>intro F
 ·exact X0 4 Z (ri h F Z)
 refine zKS (rD (Y1 2 2 h Z ?_));refine Y1 2 1 h Z ?_;refine Y1 2 0 h Z ?_;obtain⟨_,_,F,k,_,_,_,_,s,v,z,f⟩:=s2.ix F;obtain⟨_,_,rfl,_⟩:=qV z;refine zdxe s v k Z (zd1 Z (zdc 1 (f.below h.below) Z ?_));obtain⟨_,_,F,m,_,_,_,_,t,x,A,g⟩:=C.ix F;obtain⟨_,_,_,_,_,_,rfl,D,_,_⟩:=qag A;refine zdxe t x m Z (zd1 Z (zdc 2 (g.below h.below) Z (Y1 2 0 h Z ?_)));obtain⟨_,_,F,o,_,_,_,_,u,y,B,i⟩:=D.ix F;obtain rfl:=qa2 B;exact zdxe u y o Z (zd1 Z (zdc 2 (i.below h.below) Z (zd1 Z (dN h fun _ h=>ri h F Z))))
def qdH(d:qE):Nat->(List Int)->Int->Option ((List Int)×Int)|0,_,_=>U|n+1,b,a=>bif decide (a > 0) then(idx d.Az a).bind fun c=>(idx b c).bind fun f=>(idx b a).bind fun g=>(idx b c).bind fun _=>qdH d n (setS b c (W64 (f+g))) (W64 (a-1)) else V (b,a)
def qdD(a:qh)(f:qE)(d:(List Tl05Place))(b:(List Int)):Nat->(List Int)->Int->Option ((List Int)×Int)|0,_,_=>U|n+1,x1,i1=>bif decide (i1<(b.length:Int)) then(idx f.Bn i1).bind fun c=>(idx x1 c).bind fun g=>(idx b i1).bind fun h=>(idx d h).bind fun i=>(qmD n (⟨a.Au.Ay⟩:qp) (⟨a.Aa.Ab,a.Aa.As,a.Aa.Ak⟩:qd) i).bind fun r4=>(idx x1 c).bind fun _=>qdD a f d b n (setS x1 c (W64 (g+r4))) (W64 (i1+1)) else V (x1,i1)
def qiC(n:Nat)(a:qh)(b:Int):Option (List Int):=(idx a.Ai b).bind fun c=>(qnB n c.Bu).bind fun d=>(qcA n (⟨a.Aa.Ab,a.Aa.As,a.Aa.Ak⟩:qd)).bind fun f=>(qhg n (⟨a.Aa.Ab,a.Aa.As,a.Aa.Ak⟩:qd) b).bind fun g=>(qdD a c f g n d 0).bind fun(x1,_)=>(qdH c n x1 (W64 ((d.length:Int)-1))).bind fun(h,_)=>V h
theorem qm5{a:qh}{k}(a5:Ro w a cs1){r:(List Int)}(F:qiC n a k=V r):RetV prog 196 [oV qh cs1,vi k] w r:=by
 obtain⟨p1,k1,p2,k2,p3,k3,p4,k4,p5,k5,rfl,s1,s2,s3,s4,s5⟩:=qaf a5;refine zV 76 func196 Z fun h=>zSR (qw h Z Z fun w1 l h=>X1 7 0 h Z ?_);obtain⟨Y,_,F,b4,_,_,_,_,b7,c0,c3,a6⟩:=s5.ix F;obtain⟨p6,k6,p7,k7,p8,k8,p9,k9,rfl,s6,_,s8,s9⟩:=qaR c3;refine zxe b7 c0 b4 Z (zc 0 (a6.below h.below) Z (qq qa h Z Z Z fun _ b h=>zs 0 h Z fun _ h=>X1 5 0 h Z (zcL h F (qry ⟨_,_,rfl,(h.oldS s8)⟩) Z fun T _ S1 d c h F=>X1 6 2 h Z (zcL h F (qcu (qaC _ (h.oldS s2) (h.oldS s3) (h.oldS s4))) Z fun W _ S2 Q O h F=>X1 7 3 h Z (zcL h F (qjY (qaC _ (h.oldS s2) (h.oldS s3) (h.oldS s4))) Z fun X _ S3 R P h F=>X0 7 Z ?_)))));obtain⟨o1,F,a3⟩:=qc F;refine qm (rL (fun m e w'=>∃x1 i1,qdD a Y W X m x1 i1=V o1/\e=[(2,vp l),(5,vp b),(6,oS d T.length c),(7,oS Q W.length O),(8,oS R X.length P),(9,vi i1)]/\SH w w' [oW S3 (X:List Int) [oS R X.length P],oW S2 (W:List Tl05Place) [oS Q W.length O],oW S1 (x1:List Int) [oS d T.length c],oX b (qhx Y p6 p7 p8 p9 k6 k7 k8 k9) 183,oX l (qa8 a p1 p2 p3 p4 p5 k1 k2 k3 k4 k5) 53]) n ⟨_,_,F,rfl,h⟩ Z ?_);rintro m1 _ _ ⟨x1,i1,F,rfl,h⟩;rcases m1 with _|m1
 ·cases F
 refine X0 8 Z (qi Z F ?_ ?_)<;>intro F
 ·refine zKSB (rA [22] [0,1,2,3,4] h Z fun _ h=>M1 15 [0,1,2,3] 3 (h.p [0,1,2,3,4] Z) Z ?_);obtain⟨_,_,F,b5,_,_,_,_,b8,c1,rfl,a7⟩:=s9.ix F;refine Ae 4 31 b8 c1 b5 (h.p [0,1,2,3,4] Z) Z (Al 5 63 0 a7 (h.p [0,1,2,3,4] Z) Z ?_);obtain⟨y3,c5,F,p,_,_,_,_,y,H,rfl,_⟩:=(h.sl 2 Z).1.ix F;refine Ax 6 127 y H ⟨p.1,qC p.2.1 (h.sl 2 Z).2⟩ (h.p [0,1,2,3,4] Z) Z (Aw 7 255 (fun w' hw=>qf2 qa (qb1 (w1:=w) (S1:=fun _=>False) hw 2 Z c5 y H Z) (j:=0) Z Z Z) (h.p [0,1,2,3,4] Z) Z ?_);refine M2 32767 [8,9,10,11,12,13,14] 4 4 (h.p [0,1,2,3,4] Z) Z ?_;obtain⟨_,c6,F,s,_,_,_,_,z,I,rfl,_⟩:=(h.sl 0 Z).1.ix F;refine Ax 15 65535 z I ⟨s.1,qC s.2.1 (h.sl 0 Z).2⟩ (h.p [0,1,2,3,4] Z) Z (Aw 16 131071 (fun w' hw=>qf2 qa (qb1 (w1:=w) (S1:=fun _=>False) hw 0 Z c6 z I Z) (j:=0) Z Z Z) (h.p [0,1,2,3,4] Z) Z ?_);obtain⟨y5,c7,F,t,_,_,_,_,A,J,c4,_⟩:=(h.sl 1 Z).1.ix F;obtain rfl:=qb5 c4;refine Ax 17 262143 A J ⟨t.1,qC t.2.1 (h.sl 1 Z).2⟩ (h.p [0,1,2,3,4] Z) Z (Aw 18 524287 (fun w' hw=>qf2 qa (qb1 hw 1 Z c7 A J (qf1 (w:=w) (S:=fun _=>False) y5)) (j:=0) Z Z Z) (h.p [0,1,2,3,4] Z) Z ?_);refine Ao 19 1048575 Z (zcI h F (qsO (qeC _ (h.oldS s1)) (qaC _ (h.oldS s2) (h.oldS s3) (h.oldS s4)) (qf1 y5)) Z fun r4 _ h F=>G0 2097151 [20] (h.p [0,1,2,3,4] Z) Z ?_);obtain⟨_,c8,F,u,_,_,_,_,B,K,rfl,a8⟩:=(h.sl 2 Z).1.ix F;exact Ax 21 4194303 B K ⟨u.1,qC u.2.1 (h.sl 2 Z).2⟩ (h.p [0,1,2,3,4] Z) Z (Ao 22 8388607 Z (qax qa 2 0 (W64 (y3+r4)) h Z c8 B K Z a8 Z Z Z Z Z Z Z fun _ h=>qa6 (fun hs=>absurd (hs 22 (by decide)) (by decide)) (Ad (X0 6 Z (rK ⟨_,_,F,rfl,h⟩ Z)))))
 refine qt Z ?_;obtain rfl:=qb F;replace F:=a3;refine X0 8 Z ?_;obtain⟨o2,F,a4⟩:=qc F;refine qm ?_;replace h:=h.p [2,3] Z;refine rL (fun m e w'=>∃x2 i2,qdH Y m x2 i2=V o2/\e=[(5,vp b),(6,oS d T.length c),(10,vi i2)]/\SH w w' [oW S1 (x2:List Int) [oS d T.length c],oX b (qhx Y p6 p7 p8 p9 k6 k7 k8 k9) 183]) n ⟨_,_,F,rfl,h⟩ Z ?_;rintro m2 _ _ ⟨x2,i2,F,rfl,h⟩;rcases m2 with _|m2
 ·cases F
 refine X0 6 Z (qi Z F ?_ ?_)<;>intro F
 ·refine zKSB (rA [14] [0,1] h Z fun _ h=>M1 15 [0,1,2,3] 1 (h.p [0,1] Z) Z ?_);obtain⟨_,_,F,b6,_,_,_,_,b9,c2,rfl,a9⟩:=s6.ix F;refine Ae 4 31 b9 c2 b6 (h.p [0,1] Z) Z (Al 5 63 0 a9 (h.p [0,1] Z) Z ?_);obtain⟨y8,c9,F,v,_,_,_,_,C,L,rfl,_⟩:=(h.sl 0 Z).1.ix F;refine Ax 6 127 C L ⟨v.1,qC v.2.1 (h.sl 0 Z).2⟩ (h.p [0,1] Z) Z (Aw 7 255 (fun w' hw=>qf2 qa (qb1 (w1:=w) (S1:=fun _=>False) hw 0 Z c9 C L Z) (j:=0) Z Z Z) (h.p [0,1] Z) Z ?_);refine M0 1023 [8,9] (h.p [0,1] Z) Z ?_;obtain⟨y9,d0,F,x,_,_,_,_,D,M,rfl,_⟩:=(h.sl 0 Z).1.ix F;refine Ax 10 2047 D M ⟨x.1,qC x.2.1 (h.sl 0 Z).2⟩ (h.p [0,1] Z) Z (Aw 11 4095 (fun w' hw=>qf2 qa (qb1 (w1:=w) (S1:=fun _=>False) hw 0 Z d0 D M Z) (j:=0) Z Z Z) (h.p [0,1] Z) Z ?_);refine M0 8191 [12] (h.p [0,1] Z) Z ?_;obtain⟨_,N,F,f,_,_,_,_,g,i,rfl,o⟩:=(h.sl 0 Z).1.ix F;exact Ax 13 16383 g i ⟨f.1,qC f.2.1 (h.sl 0 Z).2⟩ (h.p [0,1] Z) Z (Ao 14 32767 Z (qax qa 0 0 (W64 (y8+y9)) h Z N g i Z o Z Z Z Z Z Z Z fun _ h=>qa6 (fun hs=>absurd (hs 14 (by decide)) (by decide)) (Ad (X0 6 Z (rK ⟨_,_,F,rfl,h⟩ Z)))))
 refine qt Z ?_;obtain rfl:=qb F;replace F:=a4;refine X0 5 Z ?_;obtain rfl:=qb F;exact rO 0 h Z ⟨rfl,G⟩
def qkK(n:Nat)(b:qh)(x:qx):Option (qJ×Int):=(qcA n (⟨b.Aa.Ab,b.Aa.As,b.Aa.Ak⟩:qd)).bind fun c=>(idx c (W64 (x.To.tdiv 2))).bind fun a=>(idx b.Aa.Ab a.instance_).bind fun f=>(idx b.Au.Ay f.Bv).bind fun g=>(idx g.Bc x.Cb).bind fun h=>(qiC n b a.net).bind fun d=>(idx d 0).bind fun i=>V (h,i)
theorem qoA{A}(hA:∀b,A b->old w b){b:qh}{x:qx}(y:GoT.R w A b cs1)(N:GoT.R w A x cs2){r:(qJ×Int)}(F:qkK n b x=V r):RetG prog 142 [oV qh cs1,oV qx cs2] w A r:=by
 obtain⟨p1,k1,p2,k2,p3,k3,p4,k4,p5,k5,rfl,s1,s2,s3,s4,_⟩:=qaf y;obtain rfl:=qaw N;have hg:=Rg.start hA;refine qeE func142 Z (m:=39) Z Z (fun h=>?_);refine zSR (qw h Z Z fun w1 f h=>qw h Z Z fun _ g h=>qq qa h Z Z Z fun _ c h=>X0 3 Z ?_);obtain⟨r1,I,F⟩:=qc F;obtain⟨L,a,F⟩:=qc F;refine qa0 (fun e w'=>∃d,e=[(2,vp f),(3,vp g),(4,vp c),(6,vp d)]/\SH w w' [oX d (qmw L) 287,oX c [vi 0,vi 0,vi 0,vi 0,oS U 0 0,oS U 0 0] 238,oX g (qlu x) 154,oX f (qa8 b p1 p2 p3 p4 p5 k1 k2 k3 k4 k5) 53]) ?_ ?_
 ·refine rA [9] [1,2] h Z fun _ h=>M2 59 [0,1,3,4,5] 1 0 (h.p [1,2] Z) Z (At 2 8 63 315 Z ?_ ?_)
  ·refine qlg r1 h (cB 127 Z) (qcu (qaC _ (h.oldS (s2.mono hg.old)) (h.oldS (s3.mono hg.old)) (h.oldS (s4.mono hg.old))) I) Z Z Z Z fun _ _ _ _ h=>Ag (h.p [2,3] Z) ?_;have z:=qaO a;obtain⟨_,o_4,_,_,i,l,-,a7,_⟩:=(h.sl 0 Z).1.at a;obtain rfl:=qb5 a7;refine Ax 6 127 i l ⟨z.1,qC z.2.1 (h.sl 0 Z).2⟩ (h.p [2,3] Z) Z (At 7 8 255 383 Z ?_ ?_)
   ·refine r_v (qf2 qa (qb1 h 0 Z a i l (qf1 (w:=w) (S:=fun _=>False) L)) (j:=0) Z Z Z) Z (Ag (h.p [2,3] Z) (Ao 8 511 Z (qq qa h Z Z Z fun _ _ h=>Ag (h.p [3,4] Z) (Ao 9 1023 Z (zs 0 h Z fun _ h=>qa6 (fun hs=>absurd (hs 9 (by decide)) (by decide)) (Ad ?_))))));replace h:=h.p [0,2,3,4] Z;exact rG ⟨_,rfl,h⟩ Z
   refine qq qa h Z Z Z fun _ _ h=>Ag (h.p [3,4] Z) (Ao 7 511 Z (r_v (qf2 qa (qb1 h 1 Z a i l (qf1 (w:=w) (S:=fun _=>False) L)) (j:=0) Z Z Z) Z (Ag (h.p [3,4] Z) (Ao 9 1023 Z (zs 0 h Z fun _ h=>qa6 (fun hs=>absurd (hs 9 (by decide)) (by decide)) (Ad ?_))))));replace h:=h.p [0,2,3,4] Z;exact rG ⟨_,rfl,h⟩ Z
  refine qq qa h Z Z Z fun _ _ h=>Ag (h.p [2,3] Z) (Ao 2 319 Z (qlg r1 h (cB 127 Z) (qcu (qaC _ (h.oldS (s2.mono hg.old)) (h.oldS (s3.mono hg.old)) (h.oldS (s4.mono hg.old))) I) Z Z Z Z fun _ _ _ _ h=>Ag (h.p [3,4] Z) ?_));have B:=qaO a;obtain⟨_,o_5,_,_,D,H,-,a8,_⟩:=(h.sl 0 Z).1.at a;obtain rfl:=qb5 a8;refine Ax 6 383 D H ⟨B.1,qC B.2.1 (h.sl 0 Z).2⟩ (h.p [3,4] Z) Z (Ao 7 511 Z (r_v (qf2 qa (qb1 h 0 Z a D H (qf1 (w:=w) (S:=fun _=>False) L)) (j:=0) Z Z Z) Z (Ag (h.p [3,4] Z) (Ao 9 1023 Z (zs 1 h Z fun _ h=>qa6 (fun hs=>absurd (hs 9 (by decide)) (by decide)) (Ad ?_))))));replace h:=h.p [1,2,3,4] Z;exact rG ⟨_,rfl,h⟩ Z
 rintro _ _ ⟨d,rfl,h⟩;refine qZ (rA [] [0,2,3] h Z fun _ h=>M3 255 [0,1,2,3,4,5,6,7] 2 2 0 (h.p [0,2,3] Z) Z ?_);obtain⟨_,_,F,R,_,_,_,_,X,a4,a9,O⟩:=s2.ix F;obtain⟨_,_,rfl,_⟩:=qV a9;refine Ae 8 511 X a4 R (h.p [0,2,3] Z) Z (M0 1023 [9] (h.p [0,2,3] Z) Z (Al 10 2047 1 O (h.p [0,2,3] Z) Z ?_));obtain⟨_,_,F,T,_,_,_,_,Y,a5,b4,P⟩:=s1.ix F;obtain⟨_,_,_,_,_,_,rfl,_,s8,_⟩:=qag b4;refine Ae 11 4095 Y a5 T (h.p [0,2,3] Z) Z (M0 8191 [12] (h.p [0,2,3] Z) Z (Al 13 16383 3 P (h.p [0,2,3] Z) Z (M1 65535 [14,15] 1 (h.p [0,2,3] Z) Z ?_)));obtain⟨v,_,F,W,_,_,_,_,a3,a6,b5,Q⟩:=s8.ix F;obtain⟨t,p,u,s,rfl,b7,b8⟩:=qaj b5;refine Ae 16 131071 a3 a6 W (h.p [0,2,3] Z) Z (Al 17 262143 0 Q (h.p [0,2,3] Z) Z (M2 2097151 [18,19,20] 2 0 (h.p [0,2,3] Z) Z (Ao 21 4194303 Z (zcL h F (qm5 (h.old (GoT.mono y hg.old))) Z fun _ _ _ _ _ h F=>Ag (h.p [1,3,4] Z) ?_))));obtain⟨M,J,F,C,_,_,_,_,k,o,rfl,_⟩:=(h.sl 0 Z).1.ix F;refine Ax 22 8388607 k o ⟨C.1,qC C.2.1 (h.sl 0 Z).2⟩ (h.p [1,3,4] Z) Z (qlc (fun e w'=>e=[(4,vp c),(5,vi M)]/\SH w w' [oX d (qmw L) 287,oX c (qhH v t u p s) 238,oX g (qlu x) 154,oX f (qa8 b p1 p2 p3 p4 p5 k1 k2 k3 k4 k5) 53]) 0 (bits 26 67108863) ?_ ?_)
 ·intro K;refine At 23 24 16777215 25165823 Z ?_ ?_
  ·refine r_v (qf2 qa (qb1 (w1:=w) (S1:=fun _=>False) h 0 Z J k o Z) (j:=0) Z Z Z) Z (Ag (h.p [1,3,4] Z) (Ao 24 33554431 Z (zs 2 h Z fun b9 h=>G0 67108863 [25] (h.p [1,3,4] Z) Z ?_)));replace h:=h.p [1,2,3,4] Z;exact aK K ⟨rfl,h⟩ Z
  refine zs 2 h Z fun b9 h=>Ag (h.p [1,3,4] Z) (Ao 23 33554431 Z (r_v (qf2 qa (qb1 (w1:=w) (S1:=fun _=>False) h 0 Z J k o Z) (j:=0) Z Z Z) Z (G0 67108863 [25] (h.p [1,3,4] Z) Z ?_)));replace h:=h.p [1,2,3,4] Z;exact aK K ⟨rfl,h⟩ Z
 rintro _ _ ⟨rfl,h⟩;refine Ad ?_;obtain rfl:=qb F;have b6:GoRs.Rs (ρ:=(qJ×Int)) h.wc (reg A w h.wc) (v,M) [oV qJ (qhH v t u p s),oV Int [vi M]]:=⟨_,_,rfl,(hg.outR h (qgb v (hg.inS h b7) (hg.inS h b8))),⟨_,rfl,rfl⟩⟩;exact qdE qa (ρ:=(qJ×Int)) (r:=(v,M)) [oV qJ (qhH v t u p s),oV Int [vi M]] h ⟨⟨_,_,_,rfl,rfl,h.box 1 Z,rfl⟩,rfl,G⟩ b6
def qcO(_:Nat)(a:Int)(b:Int)(mode:Int):Option Int:=(quoS a b).bind fun c=>(remS a b).bind fun d=>(bif decide (d<0) then V (mode==0) else V false).bind fun b1=>bif b1 then V (W64 (c-1)) else bif decide (d > 0) then bif (mode==1) then V (W64 (c+1)) else V c else V c
theorem qhF{a b mode}  {r:Int}(F:qcO n a b mode=V r):RetV prog 146 [vi a,vi b,vi mode] w r:=by
 refine zV 32 func146 Z fun h=>X0 8 Z ?_;obtain⟨m,c,F⟩:=qc F;obtain⟨k,c⟩:=qub c;refine r_v (qBH k Z Z) Z ?_;rw[c];refine X0 6 Z ?_;obtain⟨o,d,F⟩:=qc F;obtain⟨l,d⟩:=qtM d;refine r_v (qBB l Z Z) Z ?_;rw[d];refine X0 4 Z ?_;obtain⟨i,g,_,F,f⟩:=bindE F;refine qa0 (fun e w'=>∃b1,i b1=V r/\e=[(2,vi mode),(7,vi m),(8,vi o),(20,.bool b1)]/\SH w w' []) ?_ ?_
 ·refine X0 4 Z (qn (t:=17) F Z ?_ ?_)<;>intro F
  ·refine X0 6 Z ?_;obtain rfl:=qb F;exact rG ⟨_,f,rfl,h⟩ Z
  refine X0 4 Z ?_;obtain rfl:=qb F;exact rG ⟨_,f,rfl,h⟩ Z
 rintro _ _ ⟨b1,F,rfl,h⟩;subst g;refine qi Z F ?_ ?_<;>intro F
 ·exact X0 6 Z (ri h F Z)
 refine X0 7 Z (qn (t:=25) F Z ?_ ?_)<;>intro F
 ·refine X0 6 Z (qi Z F ?_ ?_)<;>intro F
  ·exact X0 6 Z (ri h F Z)
  exact X0 6 Z (ri h F Z)
 exact X0 4 Z (qcg Z Z (X0 6 Z (ri h F Z)))
def qbI(h:(List Int))(x:Int)(a:Int)(b:Int):Nat->Int->Option (Flow (Int×Int×Int) Int)|0,_=>U|n+1,i1=>bif decide (i1>=0) then(idx h i1).bind fun c=>bif ((if b<(if a > x then a else x) then b else(if a > x then a else x))==c) then V (.ret (i1,1,0)) else(idx h i1).bind fun d=>bif decide ((if b<(if a > x then a else x) then b else(if a > x then a else x)) > d) then(idx h (W64 (i1+1))).bind fun f=>(idx h i1).bind fun g=>V (.ret (i1,W64 (f-(if b<(if a > x then a else x) then b else(if a > x then a else x))),W64 ((if b<(if a > x then a else x) then b else(if a > x then a else x))-g))) else qbI h x a b n (W64 (i1-1)) else V (.nxt i1)
def qds(n:Nat)(c:(List Int))(x:Int):Option (Int×Int×Int):=(idx c 0).bind fun a=>(idx c (W64 ((c.length:Int)-1))).bind fun b=>(qbI c x a b n (W64 ((c.length:Int)-1))).bind fun|.ret r=>V r|.nxt _=>V (0,1,0)
theorem qlO{Y:(List Int)}{x}(f:Ro w Y cs1){r:(Int×Int×Int)}(F:qds n Y x=V r):RetV prog 197 [oV (List Int) cs1,vi x] w r:=by
 obtain⟨T,Q,rfl,d⟩:=f;refine zV 56 func197 Z fun h=>X0 16 Z ?_;obtain⟨a,_,F,s,_,_,_,_,A,J,rfl,g⟩:=d.ix F;refine zxe A J s Z (zc 0 (g.below h.below) Z (X0 9 Z ?_));obtain⟨c,_,F,t,_,_,_,_,B,K,rfl,i⟩:=d.ix F;refine zxe B K t Z (zc 0 (i.below h.below) Z (X0 10 Z ?_));obtain⟨R,F,b⟩:=qc F;refine qm (rL (fun m e w'=>∃i1,qbI Y x a c m i1=V R/\e=[(0,oS T Y.length Q),(1,vi (if c<(if a > x then a else x) then c else(if a > x then a else x))),(8,vi i1)]/\SH w w' []) n ⟨_,F,rfl,h⟩ Z ?_);rintro P _ _ ⟨i1,F,rfl,h⟩;rcases P with _|P
 ·cases F
 refine X0 6 Z (qi Z F ?_ ?_)<;>intro F
 ·refine X0 9 Z ?_;obtain⟨_,_,F,u,_,_,_,_,C,L,rfl,k⟩:=d.ix F;refine zxe C L u Z (zc 0 (k.below h.below) Z (X0 2 Z (qi Z F ?_ ?_)))<;>intro F
  ·refine X0 7 Z ?_;obtain rfl:=qb F;replace F:=b;obtain rfl:=qb F;exact qac qa (ρ:=(Int×Int×Int)) [oV Int [vi i1],oV Int [vi 1],oV Int [vi 0]] h ⟨rfl,rfl,rfl,G⟩ (PV.done h (qao h (qv (S:=fun _=>False) Z) (qao h (qv (S:=fun _=>False) Z) (qae (qv (S:=fun _=>False) Z)) (by rfl)) (by rfl)))
  refine X0 6 Z ?_;obtain⟨_,_,F,v,_,_,_,_,D,M,rfl,l⟩:=d.ix F;refine zxe D M v Z (zc 0 (l.below h.below) Z (X0 2 Z (qi Z F ?_ ?_)))<;>intro F
  ·refine qZ (rD (zd4 Z ?_));obtain⟨W,_,F,y,_,_,_,_,H,N,rfl,o⟩:=d.ix F;refine zdxe H N y Z (zdc 0 (o.below h.below) Z (zd5 Z ?_));obtain⟨X,_,F,z,_,_,_,_,I,O,rfl,p⟩:=d.ix F;refine zdxe I O z Z (zdc 0 (p.below h.below) Z (zd4 Z (dN h fun _ h=>?_)));obtain rfl:=qb F;replace F:=b;obtain rfl:=qb F;exact qac qa (ρ:=(Int×Int×Int)) [oV Int [vi i1],oV Int [vi (W64 (W-(if c<(if a > x then a else x) then c else(if a > x then a else x))))],oV Int [vi (W64 ((if c<(if a > x then a else x) then c else(if a > x then a else x))-X))]] h ⟨rfl,rfl,rfl,G⟩ (PV.done h (qao h (qv (S:=fun _=>False) Z) (qao h (qv (S:=fun _=>False) Z) (qae (qv (S:=fun _=>False) Z)) (by rfl)) (by rfl)))
  exact X0 7 Z (rK ⟨_,F,rfl,h⟩ Z)
 refine qt Z ?_;obtain rfl:=qb F;replace F:=b;refine X0 6 Z ?_;obtain rfl:=qb F;exact qac qa (ρ:=(Int×Int×Int)) [oV Int [vi 0],oV Int [vi 1],oV Int [vi 0]] h ⟨rfl,rfl,rfl,G⟩ (PV.done h (qao h (qv (S:=fun _=>False) Z) (qao h (qv (S:=fun _=>False) Z) (qae (qv (S:=fun _=>False) Z)) (by rfl)) (by rfl)))
def qcE(a:qy)(f:Int)(g:Int)(r4:Int)(h:Int)(i:Int)(k:Int)(c:Int):Nat->Int->Int->Option (Int×Int)|0,_,_=>U|n+1,d,b=>bif decide (b<2) then(bif (c==1) then V r4 else V g).bind fun l=>(bif (b==0) then V (W64 (l*i)) else V (W64 (l*k))).bind fun m=>bif decide (m > 0) then(idx a.Bj (W64 ((W64 ((W64 ((W64 (f+c))*(a.Bk.length:Int)))+h))+b))).bind fun o=>qcE a f g r4 h i k c n (W64 (d+(W64 (m*o)))) (W64 (b+1)) else qcE a f g r4 h i k c n d (W64 (b+1)) else V (d,b)
def qen(a:qy)(c:Int)(d:Int)(r4:Int)(f:Int)(g:Int)(h:Int):Nat->Int->Int->Option (Int×Int)|0,_,_=>U|n+1,i1,b=>bif decide (b<2) then(qcE a c d r4 f g h b n i1 0).bind fun(i,_)=>qen a c d r4 f g h n i (W64 (b+1)) else V (i1,b)
def qgG(n:Nat)(a:qy)(b:Int)(c:Int)(d:Int):Option Int:=(qds n a.Bo b).bind fun(i,f,r4)=>(qds n a.Bk c).bind fun(k,g,h)=>(qen a i f r4 k g h n 0 0).bind fun(i1,_)=>(qcO n i1 (W64 ((W64 (f+r4))*(W64 (g+h)))) d).bind fun l=>V l
theorem qn8{a:qy}{o p c}(L:Ro w a cs1){r:Int}(F:qgG n a o p c=V r):RetV prog 143 [oV qy cs1,vi o,vi p,vi c] w r:=by
 obtain⟨B,z,C,A,D,k3,rfl,s1,s2,s3⟩:=qaK L;refine zV 88 func143 Z fun h=>zSR (qw h Z Z fun _ b h=>X1 7 0 h Z ?_);obtain⟨⟨f,g,r4⟩,Q,F⟩:=qc F;refine qaS (f,g,r4) h (cB 197 Z) (qlO ⟨_,_,rfl,(h.oldS s1)⟩ Q) Z Z Z Z fun _ _ _ a4 R=>?_;obtain⟨_,_,rfl,a5,S⟩:=a4.consI R;obtain⟨_,_,rfl,a6,T⟩:=a5.consI S;obtain⟨rfl,h⟩:=a6.lastI T;refine X1 13 0 h Z ?_;obtain⟨⟨i,k,l⟩,W,F⟩:=qc F;refine qaS (i,k,l) h (cB 197 Z) (qlO ⟨_,_,rfl,(h.oldS s2)⟩ W) Z Z Z Z fun _ _ _ a7 X=>?_;obtain⟨_,_,rfl,a8,Y⟩:=a7.consI X;obtain⟨_,_,rfl,a9,a3⟩:=a8.consI Y;obtain⟨rfl,h⟩:=a9.lastI a3;refine X1 24 0 h Z ?_;obtain⟨o1,F,J⟩:=qc F;refine qm (rL (fun m e w'=>∃i1 d,qen a f g r4 i k l m i1 d=V o1/\e=[(3,vi c),(4,vp b),(9,vi f),(10,vi g),(11,vi r4),(12,vi i),(13,vi k),(14,vi l),(15,vi (a.Bk.length:Int)),(16,vi i1),(17,vi d)]/\SH w w' [oX b (qhV a B C D z A k3) 243]) n ⟨_,_,F,rfl,h⟩ Z ?_);rintro m1 _ _ ⟨i1,d,F,rfl,h⟩;rcases m1 with _|m1
 ·cases F
 refine X0 6 Z (qi Z F ?_ ?_)<;>intro F
 ·refine X0 7 Z ?_;obtain⟨o2,F,K⟩:=qc F;refine qm (rL (fun m e w'=>∃x y,qcE a f g r4 i k l d m x y=V o2/\e=[(3,vi c),(4,vp b),(9,vi f),(10,vi g),(11,vi r4),(12,vi i),(13,vi k),(14,vi l),(15,vi (a.Bk.length:Int)),(16,vi x),(17,vi d),(18,vi y)]/\SH w w' [oX b (qhV a B C D z A k3) 243]) m1 ⟨_,_,F,rfl,h⟩ Z ?_);rintro m2 _ _ ⟨x,y,F,rfl,h⟩;rcases m2 with _|m2
  ·cases F
  refine X0 6 Z (qi Z F ?_ ?_)<;>intro F
  ·refine X0 14 Z ?_;obtain⟨I,v,_,F,t⟩:=bindE F;refine qa0 (fun e w'=>∃i5,I i5=V o2/\e=[(3,vi c),(4,vp b),(9,vi f),(10,vi g),(11,vi r4),(12,vi i),(13,vi k),(14,vi l),(15,vi (a.Bk.length:Int)),(16,vi x),(17,vi d),(18,vi y),(19,vi i5)]/\SH w w' [oX b (qhV a B C D z A k3) 243]) ?_ ?_
   ·refine qi Z F ?_ ?_<;>intro F
    ·refine X0 4 Z ?_;obtain rfl:=qb F;exact rG ⟨_,t,rfl,h⟩ Z
    refine qcI ?_;obtain rfl:=qb F;exact rG ⟨_,t,rfl,h⟩ Z
   rintro _ _ ⟨i5,F,rfl,h⟩;subst v;refine X0 6 Z ?_;obtain⟨H,u,_,F,s⟩:=bindE F;refine qa0 (fun e w'=>∃i6,H i6=V o2/\e=[(3,vi c),(4,vp b),(9,vi f),(10,vi g),(11,vi r4),(12,vi i),(13,vi k),(14,vi l),(15,vi (a.Bk.length:Int)),(16,vi x),(17,vi d),(18,vi y),(19,vi i6)]/\SH w w' [oX b (qhV a B C D z A k3) 243]) ?_ ?_
   ·refine qi Z F ?_ ?_<;>intro F
    ·refine X0 6 Z ?_;obtain rfl:=qb F;exact rG ⟨_,s,rfl,h⟩ Z
    refine X0 6 Z ?_;obtain rfl:=qb F;exact rG ⟨_,s,rfl,h⟩ Z
   rintro _ _ ⟨i6,F,rfl,h⟩;subst u;refine X0 5 Z (qi Z F ?_ ?_)<;>intro F
   ·refine X1 14 0 h Z ?_;obtain⟨_,_,F,N,_,_,_,_,O,P,rfl,M⟩:=s3.ix F;exact zxe O P N Z (zc 0 (M.below h.below) Z (X0 10 Z (rK ⟨_,_,F,rfl,h⟩ Z)))
   exact X0 7 Z (rK ⟨_,_,F,rfl,h⟩ Z)
  refine qt Z ?_;obtain rfl:=qb F;replace F:=K;exact X0 6 Z (rK ⟨_,_,F,rfl,h⟩ Z)
 refine qt Z ?_;obtain rfl:=qb F;replace F:=J;exact X0 11 Z (zcI h F qhF Z fun _ _ h F=>X0 2 Z (ri h F Z))
def qee(b:qE)(a:(List Int)):Nat->(List Int)->Int->Option ((List Int)×Int)|0,_,_=>U|n+1,x1,i1=>bif decide (i1<(a.length:Int)) then(idx b.Az i1).bind fun d=>(idx x1 d).bind fun f=>(idx b.Bz i1).bind fun g=>(idx a i1).bind fun h=>(appS x1 ([W64 (f+(W64 (g*h)))]:List Int)).bind fun c=>qee b a n c (W64 (i1+1)) else V (x1,i1)
def qhJ(n:Nat)(b:qh)(net:Int):Option (List Int):=(idx b.Ai net).bind fun c=>(qiC n b net).bind fun a=>(qee c a n ([0]:List Int) 1).bind fun(x1,_)=>V x1
theorem qmA{b:qh}{net}(i:Ro w b cs1){r:(List Int)}(F:qhJ n b net=V r):RetV prog 198 [oV qh cs1,vi net] w r:=by
 obtain⟨_,_,_,_,_,_,_,_,_,_,rfl,_,_,_,_,s5⟩:=qaf i;refine zV 47 func198 Z fun h=>zSR (qw h Z Z fun w1 _ h=>X1 7 0 h Z ?_);obtain⟨T,_,F,B,_,_,_,_,H,L,P,x⟩:=s5.ix F;obtain⟨p6,X,p7,Y,p8,k8,p9,k9,rfl,s6,s7,_,_⟩:=qaR P;refine zxe H L B Z (zc 0 (x.below h.below) Z (qq qa h Z Z Z fun _ g h=>zs 0 h Z fun _ h=>X1 5 1 h Z (zcL h F (qm5 (h.old i)) Z fun u _ S1 t s h F=>X0 4 Z (qG qa [.const (vi (0))] _ ([0]:List Int) h Z Z Z Z Z Z Z Z Z ⟨rfl,G⟩ Z fun _ _ _ h=>X0 7 Z ?_))));obtain⟨o1,F,v⟩:=qc F;refine qm ?_;replace h:=h.p [0,1,2] Z;refine rL (fun m e w'=>∃R f d c x1 i1,qee T u m x1 i1=V o1/\e=[(5,vp g),(6,oS t u.length s),(7,oS f d c),(8,vi i1)]/\SH w w' [oW R (x1:List Int) [oS f d c],oW S1 (u:List Int) [oS t u.length s],oX g (qhx T p6 p7 p8 p9 X Y k8 k9) 183]) n ⟨_,_,_,_,_,_,F,rfl,h⟩ Z ?_;rintro S _ _ ⟨R,f,d,c,x1,i1,F,rfl,h⟩;obtain rfl:=(h.sl 0 Z).2;rcases S with _|S
 ·cases F
 refine X0 8 Z (qi Z F ?_ ?_)<;>intro F
 ·refine zKSB (rA [] [1,2] h Z fun _ h=>M1 31 [0,1,2,3,4] 1 (h.p [1,2] Z) Z ?_);obtain⟨_,_,F,C,_,_,_,_,I,M,rfl,y⟩:=s6.ix F;refine Ae 5 63 I M C (h.p [1,2] Z) Z (Al 6 127 0 y (h.p [1,2] Z) Z ?_);obtain⟨y3,_,F,k,_,_,_,_,J,N,rfl,z⟩:=(h.sl 0 Z).1.ix F;refine Ax 7 255 J N ⟨k.1,qC k.2.1 (h.sl 0 Z).2⟩ (h.p [1,2] Z) Z (M1 3839 [9,10,11] 1 (h.p [1,2] Z) Z ?_);obtain⟨y4,_,F,D,_,_,_,_,K,O,rfl,A⟩:=s7.ix F;refine Ae 12 7935 K O D (h.p [1,2] Z) Z (Al 13 16127 0 A (h.p [1,2] Z) Z (M0 65279 [14,15] (h.p [1,2] Z) Z ?_));obtain⟨y5,Q,F,l,_,_,_,_,o,p,rfl,_⟩:=(h.sl 1 Z).1.ix F;refine Ax 16 130815 o p ⟨l.1,qC l.2.1 (h.sl 1 Z).2⟩ (h.p [1,2] Z) Z (Aw 17 261887 (fun w' hw=>qf2 qa (qb1 (w1:=w) (S1:=fun _=>False) hw 0 Z Q o p Z) (j:=0) Z Z Z) (h.p [1,2] Z) Z ?_);refine M0 524031 [18] (h.p [1,2] Z) Z (Ao 8 524287 Z (zc 0 z Z (G0 1048575 [19] (h.p [1,2] Z) Z (Ao 20 2097151 Z (qG qa [.tmp 43] _ ([W64 (y3+(W64 (y4*y5)))]:List Int) h Z Z Z Z Z Z Z Z Z ⟨rfl,G⟩ Z fun _ _ _ h=>Ag (h.p [2,3] Z) (Ao 21 4194303 Z ?_))))));obtain⟨_,a,F⟩:=qc F;obtain⟨W,a⟩:=qO a;refine qbW qa 1 h Z (h.sl 0 Z).1 (h.sl 0 Z).2 Z Z Z Z Z Z Z Z Z W a Z fun _ _ _ _ h=>G0 8388607 [22] (h.p [2,3] Z) Z (Ad (X0 6 Z ?_));replace h:=h.p [1,2,3] Z;exact rK ⟨_,_,_,_,_,_,F,rfl,h⟩ Z
 refine qt Z ?_;obtain rfl:=qb F;replace F:=v;refine X0 5 Z ?_;obtain rfl:=qb F;exact rO 0 h Z ⟨rfl,G⟩
def qbV(b:qh)(net:Int)(mode:Int)(a:(List Int)):Nat->(List Int)->Int->Option ((List Int)×Int)|0,_,_=>U|n+1,x1,i1=>(idx b.Ai net).bind fun f=>bif decide (i1<(f.Bn.length:Int)) then(idx b.Ai net).bind fun g=>(idx g.Bn i1).bind fun h=>(idx a h).bind fun i=>(qcO n i 1000 mode).bind fun c=>(appS x1 ([c]:List Int)).bind fun d=>qbV b net mode a n d (W64 (i1+1)) else V (x1,i1)
def qgK(n:Nat)(b:qh)(net:Int)(mode:Int):Option (List Int):=(qhJ n b net).bind fun a=>(qbV b net mode a n ([]:List Int) 0).bind fun(x1,_)=>V x1
theorem qod{b:qh}{net mode}(f:Ro w b cs1){r:(List Int)}(F:qgK n b net mode=V r):RetV prog 144 [oV qh cs1,vi net,vi mode] w r:=by
 obtain⟨p1,T,p2,W,p3,k3,p4,X,p5,Y,rfl,_,_,_,_,R⟩:=qaf f;refine zV 43 func144 Z fun h=>zSR (qw h Z Z fun _ d h=>X1 6 0 h Z (zcL h F (qmA (h.old f)) Z fun i _ S1 Q O h F=>X0 4 Z (qG qa [] _ ([]:List Int) h Z Z Z Z Z Z Z Z Z trivial Z fun _ _ _ h=>X0 7 Z ?_)));obtain⟨o1,F,k⟩:=qc F;refine qm (rL (fun m e w'=>∃N L c K x1 i1,qbV b net mode i m x1 i1=V o1/\e=[(1,vi net),(2,vi mode),(3,vp d),(7,oS Q i.length O),(8,oS L c K),(9,vi i1)]/\SH w w' [oW N (x1:List Int) [oS L c K],oW S1 (i:List Int) [oS Q i.length O],oX d (qa8 b p1 p2 p3 p4 p5 T W k3 X Y) 53]) n ⟨_,_,_,_,_,_,F,rfl,h⟩ Z ?_);rintro P _ _ ⟨N,L,c,K,x1,i1,F,rfl,h⟩;obtain rfl:=(h.sl 0 Z).2;rcases P with _|P
 ·cases F
 refine X1 7 2 h Z ?_;obtain⟨_,_,F,t,_,_,_,_,x,B,I,l⟩:=R.ix F;obtain⟨_,_,_,_,_,_,_,_,rfl,_,_,_,_⟩:=qaR I;refine zxe x B t Z (zp1 Z (zc 3 (l.below h.below) Z (X0 3 Z (qi Z F ?_ ?_))))<;>intro F
 ·refine X1 9 2 h Z ?_;obtain⟨_,_,F,u,_,_,_,_,y,C,J,o⟩:=R.ix F;obtain⟨_,_,_,_,_,_,_,_,rfl,_,_,_,M⟩:=qaR J;refine zxe y C u Z (zp1 Z (zc 3 (o.below h.below) Z (zp1 Z ?_)));obtain⟨_,_,F,v,_,_,_,_,z,D,rfl,p⟩:=M.ix F;refine zxe z D v Z (zc 0 (p.below h.below) Z ?_);obtain⟨_,_,F,g,_,_,_,_,A,H,rfl,s⟩:=(h.sl 1 Z).1.ix F;refine zx A H ⟨g.1,qC g.2.1 (h.sl 1 Z).2⟩ Z (zc 0 s Z (zp1 Z (zcI h F qhF Z fun r2 _ h F=>qG qa [.tmp 39] _ ([r2]:List Int) h Z Z Z Z Z Z Z Z Z ⟨rfl,G⟩ Z fun _ _ _ h=>?_)));obtain⟨_,a,F⟩:=qc F;obtain⟨S,a⟩:=qO a;refine qbW qa 1 h Z (h.sl 0 Z).1 (h.sl 0 Z).2 Z Z Z Z Z Z Z Z Z S a Z fun _ _ _ _ h=>X0 8 Z ?_;replace h:=h.p [1,2,3] Z;exact rK ⟨_,_,_,_,_,_,F,rfl,h⟩ Z
 refine qt Z ?_;obtain rfl:=qb F;replace F:=k;refine X0 5 Z ?_;obtain rfl:=qb F;exact rO 0 h Z ⟨rfl,G⟩
def qkU(n:Nat)(b:qh)(x:qx):Option Int:=(qcA n (⟨b.Aa.Ab,b.Aa.As,b.Aa.Ak⟩:qd)).bind fun a=>(idx a (W64 (x.To.tdiv 2))).bind fun c=>V c.net
theorem qo1{b:qh}{x:qx}(c:Ro w b cs1)(d:Ro w x cs2){r:Int}(F:qkU n b x=V r):RetV prog 145 [oV qh cs1,oV qx cs2] w r:=by
 obtain⟨_,_,_,_,_,_,_,_,_,_,rfl,_,s2,l,m,_⟩:=qaf c;obtain rfl:=qaw d;refine zV 14 func145 Z fun h=>zSR (qw h Z Z fun _ _ h=>qw h Z Z fun _ _ h=>X0 3 Z (rA [] [0,1] h Z fun _ h=>M2 59 [0,1,3,4,5] 1 0 (h.p [0,1] Z) Z (Ao 2 63 Z (zcL h F (qcu (qaC _ (h.oldS s2) (h.oldS l) (h.oldS m))) Z fun _ _ _ _ _ h F=>Ag (h.p [1,2] Z) ?_))));obtain⟨_,_,F,a,_,_,_,_,g,i,k,f⟩:=(h.sl 0 Z).1.ix F;obtain rfl:=qb5 k;exact Ax 6 127 g i ⟨a.1,qC a.2.1 (h.sl 0 Z).2⟩ (h.p [1,2] Z) Z (M0 255 [7] (h.p [1,2] Z) Z (Ao 8 511 Z (zc 2 f Z (G0 1023 [9] (h.p [1,2] Z) Z (Ad (ri h F Z))))))
def qhO(_:Nat)(c:qu)(kind:Int)(mode:Int):Option Int:=bif (kind==1) then bif (mode==0) then V c.Am else V c.Ar else bif (mode==0) then V c.Aj else V c.Ap
theorem qmx{c:qu}{kind mode}(a:Ro w c cs1){r:Int}(F:qhO n c kind mode=V r):RetV prog 147 [oV qu cs1,vi kind,vi mode] w r:=by
 obtain rfl:=qaL a;refine zV 21 func147 Z fun h=>zSR (qw h Z Z fun _ _ h=>X0 8 Z (qi Z F ?_ ?_))<;>intro F
 ·refine X0 6 Z (qi Z F ?_ ?_)<;>intro F
  ·exact X1 6 0 h Z (ri h F Z)
  exact X1 7 0 h Z (ri h F Z)
 refine X0 7 Z (qi Z F ?_ ?_)<;>intro F
 ·exact X1 6 0 h Z (ri h F Z)
 exact X1 7 0 h Z (ri h F Z)
def qca(n:Nat)(b:qh)(c:qu)(x:qx)(r:Int)(mode:Int):Option Int:=bif (x.Bi==1) then(qkK n b x).bind fun(d,f)=>(idx d.Bp (x.To.tmod 2)).bind fun m=>(qgG n m r f mode).bind fun r4=>(qhO n c x.Bi mode).bind fun g=>(qcO n (W64 (r4*g)) 1000 mode).bind fun h=>V h else(qkU n b x).bind fun i=>(qgK n b i mode).bind fun k=>(idx k x.Cb).bind fun p=>(qhO n c x.Bi mode).bind fun l=>(qcO n (W64 (p*l)) 1000 mode).bind fun a=>V a
theorem qcL{b:qh}{c:qu}{x:qx}{slew mode}(i:Ro w b cs1)(k:Ro w c cs2)(f:Ro w x cs3){r:Int}(F:qca n b c x slew mode=V r):RetV prog 99 [oV qh cs1,oV qu cs2,oV qx cs3,vi slew,vi mode] w r:=by
 obtain⟨_,_,_,_,_,_,_,_,_,_,rfl,_,_,_,_,_⟩:=qaf i;obtain rfl:=qaL k;obtain rfl:=qaw f;refine zV 53 func99 Z fun h=>zSR (qw h Z Z fun _ _ h=>qw h Z Z fun _ _ h=>qw h Z Z fun _ _ h=>X1 13 0 h Z (qi Z F ?_ ?_))<;>intro F
 ·refine X2 4 2 0 h Z ?_;have a:Rg (old w) w (old w) w:=.start (fun _ h=>h);obtain⟨⟨S,T⟩,B,F⟩:=qc F;refine qlb (S,T) a h (cB 142 Z) (qoA (a.regOld h) (a.inR h i) (a.inR h f) B) Z Z Z Z fun _ _ _ g d J H=>?_;have N:=h.ext d.below;have p:=Up.box 1 h d Z;have W:=Up.R a h d k;have O:=Up.boxP (x:=c) a 1 h d Z (a.inR h k);have l:=Up.box 0 h d Z;have e:=Up.R a h d f;have P:=Up.boxP (x:=x) a 0 h d Z (a.inR h f);have R:=h.below.trans (d.below.mono h.below.size);replace h:=J;obtain⟨_,_,rfl,o,I⟩:=qlx H;have Q:=o;obtain⟨_,_,_,_,rfl,X,_⟩:=qaj o;obtain⟨_,rfl,C⟩:=qj1 I;obtain rfl:=C;refine zp3 Z (qq qa h Z Z Z fun _ _ h=>zs 0 h Z fun _ h=>X1 6 0 h Z (zc 1 (l.below h.below) Z (zp1 Z ?_)));obtain⟨Y,_,F,u,_,_,_,_,v,z,D,s⟩:=X.ix F;obtain⟨_,_,_,_,_,_,rfl,K,L,M⟩:=qaK D;refine zxe v z u Z (zc 0 (s.below h.below) Z (zp3 Z (zcI h F (qn8 (qfV Y (h.oldS (K.mono g.old)) (h.oldS (L.mono g.old)) (h.oldS (M.mono g.old)))) Z fun _ _ h F=>X0 5 Z (zc 0 (p.below h.below) Z (zp1 Z (zc 2 (l.below h.below) Z (zp1 Z (zcI h F (qmx (h.old (GoT.mono W g.old))) Z fun _ _ h F=>zp2 Z (zcI h F qhF Z fun _ _ h F=>X0 2 Z ?_)))))))));replace h:=h.unbase g.below ⟨fun _ h=>h,G⟩;exact ri h F Z
 refine rA [] [0,2] h Z fun _ h=>M4 215 [0,1,2,4,6,7] 1 1 0 0 (h.p [0,2] Z) Z (Ao 3 223 Z (zcI h F (qo1 (h.old i) (h.old f)) Z fun _ _ h F=>Ag (h.p [0,2] Z) (Ao 5 255 Z (zcL h F (qod (h.old i)) Z fun _ _ _ _ _ h F=>Ag (h.p [1,3] Z) ?_))));obtain⟨_,_,F,m,_,_,_,_,y,A,rfl,t⟩:=(h.sl 0 Z).1.ix F;exact Ax 8 511 y A ⟨m.1,qC m.2.1 (h.sl 0 Z).2⟩ (h.p [1,3] Z) Z (Ao 9 1023 Z (zc 0 t Z (G0 2047 [10] (h.p [1,3] Z) Z (Ad (X2 7 2 1 h Z (zcI h F (qmx (h.old k)) Z fun _ _ h F=>zp2 Z (zcI h F qhF Z fun _ _ h F=>X0 2 Z (ri h F Z))))))))
def qer(b:Int):Nat->Int->Int->Option (Int×Int)|0,_,_=>U|n+1,i1,a=>bif decide (i1<a) then bif decide ((W64 ((W64 ((W64 ((W64 (i1+a))+1)).tdiv 2))*(W64 ((W64 ((W64 (i1+a))+1)).tdiv 2))))<=b) then qer b n (W64 ((W64 ((W64 (i1+a))+1)).tdiv 2)) a else qer b n i1 (W64 ((W64 ((W64 ((W64 (i1+a))+1)).tdiv 2))-1)) else V (i1,a)
def qji(n:Nat)(a:Int)(mode:Int):Option Int:=(qer a n 0 2000000000).bind fun(i1,_)=>bif (mode==1) then bif decide ((W64 (i1*i1))<a) then V (W64 (i1+1)) else V i1 else V i1
theorem qrE{a_n mode}  {r:Int}(F:qji n a_n mode=V r):RetV prog 199 [vi a_n,vi mode] w r:=by
 refine zV 36 func199 Z fun h=>X0 10 Z ?_;obtain⟨d,F,a⟩:=qc F;refine qm (rL (fun m e w'=>∃i1 b,qer a_n m i1 b=V d/\e=[(0,vi a_n),(1,vi mode),(5,vi i1),(6,vi b)]/\SH w w' []) n ⟨_,_,F,rfl,h⟩ Z ?_);rintro c _ _ ⟨i1,b,F,rfl,h⟩;rcases c with _|c
 ·cases F
 refine X0 7 Z (qi Z F ?_ ?_)<;>intro F
 ·refine X0 19 Z (qi Z F ?_ ?_)<;>intro F
  ·exact X0 5 Z (rK ⟨_,_,F,rfl,h⟩ Z)
  exact X0 6 Z (rK ⟨_,_,F,rfl,h⟩ Z)
 refine qt Z ?_;obtain rfl:=qb F;replace F:=a;refine X0 6 Z (qn (t:=26) F Z ?_ ?_)<;>intro F
 ·refine X0 12 Z (qi Z F ?_ ?_)<;>intro F
  ·exact X0 10 Z (ri h F Z)
  exact X0 6 Z (ri h F Z)
 exact X0 7 Z (qcg Z Z (X0 6 Z (ri h F Z)))
def qnD(n:Nat)(b:qh)(net:Int)(k:Int)(i:Int)(mode:Int):Option Int:=(idx b.Ai net).bind fun g=>(idx g.Bn k).bind fun h=>(qhJ n b net).bind fun c=>(idx c h).bind fun a=>(qji n (W64 ((W64 ((W64 (1000000*i))*i))+(W64 ((W64 (4*a))*a)))) mode).bind fun d=>(qcO n d 1000 mode).bind fun f=>V f
theorem qrS{b:qh}{net sink slew mode}(a:Ro w b cs1){r:Int}(F:qnD n b net sink slew mode=V r):RetV prog 148 [oV qh cs1,vi net,vi sink,vi slew,vi mode] w r:=by
 obtain⟨_,_,_,_,_,_,_,_,_,_,rfl,_,_,_,_,v⟩:=qaf a;refine zV 39 func148 Z fun h=>zSR (qw h Z Z fun _ _ h=>X0 3 Z (rA [] [0] h Z fun _ h=>M2 59 [0,1,3,4,5] 0 0 (h.p [0] Z) Z ?_));obtain⟨_,_,F,i,_,_,_,_,l,p,u,d⟩:=v.ix F;obtain⟨_,_,_,_,_,_,_,_,rfl,_,_,_,x⟩:=qaR u;refine Ae 6 123 l p i (h.p [0] Z) Z (M0 251 [7] (h.p [0] Z) Z (Al 8 507 3 d (h.p [0] Z) Z (M0 1019 [9] (h.p [0] Z) Z ?_)));obtain⟨_,_,F,k,_,_,_,_,m,s,rfl,f⟩:=x.ix F;refine Ae 10 2043 m s k (h.p [0] Z) Z (Al 11 4091 0 f (h.p [0] Z) Z (Ao 2 4095 Z (zcL h F (qmA (h.old a)) Z fun _ _ _ _ _ h F=>Ag (h.p [1] Z) ?_)));obtain⟨_,_,F,c,_,_,_,_,o,t,rfl,g⟩:=(h.sl 0 Z).1.ix F;exact Ax 12 8191 o t ⟨c.1,qC c.2.1 (h.sl 0 Z).2⟩ (h.p [1] Z) Z (Ao 13 16383 Z (zc 0 g Z (G0 32767 [14] (h.p [1] Z) Z (Ad (X0 12 Z (zcI h F qrE Z fun _ _ h F=>zp1 Z (zcI h F qhF Z fun _ _ h F=>X0 2 Z (ri h F Z))))))))
def qcB(n:Nat)(b:qh)(x:qx)(h:Int)(mode:Int):Option Int:=bif (x.Bi==1) then(qkK n b x).bind fun(c,d)=>(idx c.Be (x.To.tmod 2)).bind fun g=>(qgG n g h d mode).bind fun r4=>V r4 else(qkU n b x).bind fun f=>(qnD n b f x.Cb h mode).bind fun a=>V (if a<1000000 then a else 1000000)
theorem qdt{b:qh}{x:qx}{slew mode}(f:Ro w b cs1)(c:Ro w x cs2){r:Int}(F:qcB n b x slew mode=V r):RetV prog 100 [oV qh cs1,oV qx cs2,vi slew,vi mode] w r:=by
 obtain⟨_,_,_,_,_,_,_,_,_,_,rfl,_,_,_,_,_⟩:=qaf f;obtain rfl:=qaw c;refine zV 41 func100 Z fun h=>zSR (qw h Z Z fun _ _ h=>qw h Z Z fun _ _ h=>X1 9 0 h Z (qi Z F ?_ ?_))<;>intro F
 ·refine X2 4 1 0 h Z ?_;have a:Rg (old w) w (old w) w:=.start (fun _ h=>h);obtain⟨⟨L,M⟩,s,F⟩:=qc F;refine qlb (L,M) a h (cB 142 Z) (qoA (a.regOld h) (a.inR h f) (a.inR h c) s) Z Z Z Z fun _ _ _ g d B z=>?_;have H:=h.ext d.below;have k:=Up.box 0 h d Z;have S:=Up.R a h d c;have I:=Up.boxP (x:=x) a 0 h d Z (a.inR h c);have K:=h.below.trans (d.below.mono h.below.size);replace h:=B;obtain⟨_,_,rfl,i,A⟩:=qlx z;have J:=i;obtain⟨_,_,_,_,rfl,_,P⟩:=qaj i;obtain⟨_,rfl,t⟩:=qj1 A;obtain rfl:=t;refine zp3 Z (qq qa h Z Z Z fun _ _ h=>zs 0 h Z fun _ h=>X1 7 0 h Z (zc 1 (k.below h.below) Z (zp1 Z ?_)));obtain⟨R,_,F,m,_,_,_,_,o,p,u,l⟩:=P.ix F;obtain⟨_,_,_,_,_,_,rfl,Q,C,D⟩:=qaK u;refine zxe o p m Z (zc 0 (l.below h.below) Z (zp3 Z (zcI h F (qn8 (qfV R (h.oldS (Q.mono g.old)) (h.oldS (C.mono g.old)) (h.oldS (D.mono g.old)))) Z fun _ _ h F=>X0 2 Z ?_)));replace h:=h.unbase g.below ⟨fun _ h=>h,G⟩;exact ri h F Z
 refine zKS (rD (Y1 1 1 h Z ?_));refine Y1 1 1 h Z ?_;refine Y1 1 0 h Z ?_;obtain⟨N,v,F⟩:=qc F;refine qa5 N (vsI _) (cB 145 Z) (fun _ T=>qo1 ((h.ext T).old f) ((h.ext T).old c) v) Z Z Z Z (Y1 2 0 h Z ?_);refine zd2 Z ?_;obtain⟨O,y,F⟩:=qc F;exact qa5 O (vsI _) (cB 148 Z) (fun _ T=>qrS ((h.ext T).old f) y) Z Z Z Z (zd2 Z (dN h fun _ h=>ri h F Z))
def qiz(n:Nat)(a:qh)(d:qu)(b:qx)(c:qe):Option (qe×qe):=(qca n a d b c.Ba 0).bind fun f=>(qca n a d b c.Ba 1).bind fun g=>(qcB n a b c.Ba 0).bind fun h=>(qcB n a b c.Ba 1).bind fun r4=>(qca n a d b c.Bg 0).bind fun i=>(qca n a d b c.Bg 1).bind fun k=>(qcB n a b c.Bg 0).bind fun l=>(qcB n a b c.Bg 1).bind fun m=>V ((⟨(if i<f then i else f),(if k > g then k else g)⟩:qe),(⟨(if l<h then l else h),(if m > r4 then m else r4)⟩:qe))
theorem qgn{g:qh}{i:qu}{k:qx}{l:qe}(a:Ro w g cs1)(d:Ro w i cs2)(b:Ro w k cs3)(K:Ro w l cs4){r:(qe×qe)}(F:qiz n g i k l=V r):RetV prog 181 [oV qh cs1,oV qu cs2,oV qx cs3,oV qe cs4] w r:=by
 obtain⟨P,L,Q,M,R,k3,T,N,W,O,rfl,_,_,_,_,_⟩:=qaf a;obtain rfl:=qaL d;obtain rfl:=qaw b;obtain rfl:=qB K;refine zV 76 func181 Z fun h=>zSR (qw h Z Z fun _ m h=>qw h Z Z fun _ o h=>qw h Z Z fun _ p h=>qw h Z Z fun _ s h=>qq qa h Z Z Z fun _ t h=>qq qa h Z Z Z fun _ u h=>zNS ?_);obtain⟨x,B,F⟩:=qc F;obtain⟨v,y,F⟩:=qc F;refine qa0 (fun e w'=>∃c,e=[(4,vp m),(5,vp o),(6,vp p),(7,vp s),(8,vp t),(9,vp u),(10,vp c)]/\SH w w' [oX c [vi x,vi v] 102,oX u [vi 0,vi 0] 102,oX t [vi 0,vi 0] 102,oX s (qiL l) 102,oX p (qlu k) 154,oX o (qce i) 54,oX m (qa8 g P Q R T W L M k3 N O) 53]) ?_ ?_
 ·refine rA [14] [2,3,4,5] h Z fun _ h=>M4 31 [0,1,2,3,4] 3 2 1 0 (h.p [2,3,4,5] Z) Z (M4 2015 [6,7,8,9,10] 3 2 1 0 (h.p [2,3,4,5] Z) Z (At 5 13 2047 10207 Z ?_ ?_))
  ·refine qcC x h (cB 99 Z) (qcL (h.old a) (h.old d) (h.old b) B) Z Z Z Z fun _ h=>Ag (h.p [2,3,4,5] Z) (At 11 13 4095 10239 Z ?_ ?_)
   ·refine qcC v h (cB 99 Z) (qcL (h.old a) (h.old d) (h.old b) y) Z Z Z Z fun _ h=>Ag (h.p [2,3,4,5] Z) (Aw 12 8191 (fun w' Y=>qH qa [0,1] [.tmp 17,.tmp 23] Z Z Z Z Z Z Z Z) (h.p [2,3,4,5] Z) Z ?_);exact Ao 13 16383 Z (qq qa h Z Z Z fun _ _ h=>Ag (h.p [3,4,5,6] Z) (Ao 14 32767 Z (zs 0 h Z fun _ h=>qa6 (fun X=>absurd (X 14 (by decide)) (by decide)) (Ad (rG ⟨_,rfl,h⟩ Z)))))
   refine qq qa h Z Z Z fun _ _ h=>Ag (h.p [3,4,5,6] Z) (Ao 11 12287 Z (qcC v h (cB 99 Z) (qcL (h.old a) (h.old d) (h.old b) y) Z Z Z Z fun _ h=>Ag (h.p [3,4,5,6] Z) (Aw 12 16383 (fun w' Y=>qH qa [0,1] [.tmp 17,.tmp 23] Z Z Z Z Z Z Z Z) (h.p [3,4,5,6] Z) Z ?_)));exact Ao 14 32767 Z (zs 0 h Z fun _ h=>qa6 (fun X=>absurd (X 14 (by decide)) (by decide)) (Ad (rG ⟨_,rfl,h⟩ Z)))
  refine qq qa h Z Z Z fun _ _ h=>Ag (h.p [3,4,5,6] Z) (Ao 5 10239 Z (qcC x h (cB 99 Z) (qcL (h.old a) (h.old d) (h.old b) B) Z Z Z Z fun _ h=>Ag (h.p [3,4,5,6] Z) (Ao 11 12287 Z (qcC v h (cB 99 Z) (qcL (h.old a) (h.old d) (h.old b) y) Z Z Z Z fun _ h=>Ag (h.p [3,4,5,6] Z) (Aw 12 16383 (fun w' Y=>qH qa [0,1] [.tmp 17,.tmp 23] Z Z Z Z Z Z Z Z) (h.p [3,4,5,6] Z) Z ?_)))));exact Ao 14 32767 Z (zs 0 h Z fun _ h=>qa6 (fun X=>absurd (X 14 (by decide)) (by decide)) (Ad (rG ⟨_,rfl,h⟩ Z)))
 rintro _ _ ⟨c,rfl,h⟩;refine qZ ?_;obtain⟨A,C,F⟩:=qc F;obtain⟨r4,z,F⟩:=qc F;refine qa0 (fun e w'=>∃f,e=[(4,vp m),(5,vp o),(6,vp p),(7,vp s),(8,vp t),(9,vp u),(10,vp c),(11,vp f)]/\SH w w' [oX f [vi A,vi r4] 102,oX c [vi x,vi v] 102,oX u [vi 0,vi 0] 102,oX t [vi 0,vi 0] 102,oX s (qiL l) 102,oX p (qlu k) 154,oX o (qce i) 54,oX m (qa8 g P Q R T W L M k3 N O) 53]) ?_ ?_
 ·refine rA [12] [3,4,6] h Z fun _ h=>M4 47 [0,1,2,3,5] 2 1 0 2 (h.p [3,4,6] Z) Z (M2 495 [6,7,8] 1 0 (h.p [3,4,6] Z) Z (At 4 11 511 2543 Z ?_ ?_))
  ·refine qcC A h (cB 100 Z) (qdt (h.old a) (h.old b) C) Z Z Z Z fun _ h=>Ag (h.p [3,4,6] Z) (At 9 11 1023 2559 Z ?_ ?_)
   ·refine qcC r4 h (cB 100 Z) (qdt (h.old a) (h.old b) z) Z Z Z Z fun _ h=>Ag (h.p [3,4,6] Z) (Aw 10 2047 (fun w' Y=>qH qa [0,1] [.tmp 29,.tmp 34] Z Z Z Z Z Z Z Z) (h.p [3,4,6] Z) Z ?_);exact Ao 11 4095 Z (qq qa h Z Z Z fun _ _ h=>Ag (h.p [4,5,7] Z) (Ao 12 8191 Z (zs 0 h Z fun _ h=>qa6 (fun X=>absurd (X 12 (by decide)) (by decide)) (Ad (rG ⟨_,rfl,h⟩ Z)))))
   refine qq qa h Z Z Z fun _ _ h=>Ag (h.p [4,5,7] Z) (Ao 9 3071 Z (qcC r4 h (cB 100 Z) (qdt (h.old a) (h.old b) z) Z Z Z Z fun _ h=>Ag (h.p [4,5,7] Z) (Aw 10 4095 (fun w' Y=>qH qa [0,1] [.tmp 29,.tmp 34] Z Z Z Z Z Z Z Z) (h.p [4,5,7] Z) Z ?_)));exact Ao 12 8191 Z (zs 0 h Z fun _ h=>qa6 (fun X=>absurd (X 12 (by decide)) (by decide)) (Ad (rG ⟨_,rfl,h⟩ Z)))
  refine qq qa h Z Z Z fun _ _ h=>Ag (h.p [4,5,7] Z) (Ao 4 2559 Z (qcC A h (cB 100 Z) (qdt (h.old a) (h.old b) C) Z Z Z Z fun _ h=>Ag (h.p [4,5,7] Z) (Ao 9 3071 Z (qcC r4 h (cB 100 Z) (qdt (h.old a) (h.old b) z) Z Z Z Z fun _ h=>Ag (h.p [4,5,7] Z) (Aw 10 4095 (fun w' Y=>qH qa [0,1] [.tmp 29,.tmp 34] Z Z Z Z Z Z Z Z) (h.p [4,5,7] Z) Z ?_)))));exact Ao 12 8191 Z (zs 0 h Z fun _ h=>qa6 (fun X=>absurd (X 12 (by decide)) (by decide)) (Ad (rG ⟨_,rfl,h⟩ Z)))
 rintro _ _ ⟨f,rfl,h⟩;refine qZ (rA [10] [1,4,5,6,7] h Z fun _ h=>M4 63 [0,1,2,3,4,5] 0 4 3 2 (h.p [1,4,5,6,7] Z) Z (M1 127 [6] 1 (h.p [1,4,5,6,7] Z) Z (Ao 7 255 Z (zcI h F (qcL (h.old a) (h.old d) (h.old b)) Z fun D _ h F=>G0 1023 [8,9] (h.p [1,4,5,6,7] Z) Z (Ao 10 2047 Z (zs 1 h Z fun _ h=>qa6 (fun X=>absurd (X 10 (by decide)) (by decide)) (Ad (qZ (rA [10] [1,4,5,6,7] h Z fun _ h=>M4 63 [0,1,2,3,4,5] 0 4 3 2 (h.p [1,4,5,6,7] Z) Z (M1 127 [6] 1 (h.p [1,4,5,6,7] Z) Z (Ao 7 255 Z (zcI h F (qcL (h.old a) (h.old d) (h.old b)) Z fun H _ h F=>G0 1023 [8,9] (h.p [1,4,5,6,7] Z) Z (Ao 10 2047 Z (zs 1 h Z fun _ h=>qa6 (fun X=>absurd (X 10 (by decide)) (by decide)) (Ad (qZ (rA [9] [0,4,5,7] h Z fun _ h=>M4 63 [0,1,2,3,4,5] 0 3 2 1 (h.p [0,4,5,7] Z) Z (Ao 6 127 Z (zcI h F (qdt (h.old a) (h.old b)) Z fun I _ h F=>G0 511 [7,8] (h.p [0,4,5,7] Z) Z (Ao 9 1023 Z (zs 0 h Z fun _ h=>qa6 (fun X=>absurd (X 9 (by decide)) (by decide)) (Ad (qZ (rA [9] [0,4,5,7] h Z fun _ h=>M4 63 [0,1,2,3,4,5] 0 3 2 1 (h.p [0,4,5,7] Z) Z (Ao 6 127 Z (zcI h F (qdt (h.old a) (h.old b)) Z fun J _ h F=>G0 511 [7,8] (h.p [0,4,5,7] Z) Z (Ao 9 1023 Z (zs 0 h Z fun _ h=>qa6 (fun X=>absurd (X 9 (by decide)) (by decide)) (Ad (qZ (rA [] [0,1] h Z fun _ h=>M2 3 [0,1] 1 0 (h.p [0,1] Z) Z (Ao 2 7 Z (zs 3 h Z fun _ h=>Ag (h.p [0,1] Z) (Ao 3 15 Z (zs 2 h Z fun _ h=>Ag (h.p [0,1] Z) (Ad ?_))))))))))))))))))))))))))))))))))));obtain rfl:=qb F;exact qac qa (ρ:=(qe×qe)) [oV qe [vi (if D<x then D else x),vi (if H > v then H else v)],oV qe [vi (if I<A then I else A),vi (if J > r4 then J else r4)]] h ⟨⟨_,_,_,rfl,rfl,h.box 3 Z,rfl⟩,⟨_,_,_,rfl,rfl,h.box 2 Z,rfl⟩,G⟩ (PV.done h (qao h (qv (S:=fun _=>False) (qD (⟨(if D<x then D else x),(if H > v then H else v)⟩:qe))) (qae (qv (S:=fun _=>False) (qD (⟨(if I<A then I else A),(if J > r4 then J else r4)⟩:qe)))) (by rfl)))
def qlp(_:Nat)(a:qe)(b:qe):Option qe:=V (⟨(if b.Ba<a.Ba then b.Ba else a.Ba),(if b.Bg > a.Bg then b.Bg else a.Bg)⟩:qe)
theorem qn9{a:qe}{b:qe}(c:Ro w a cs1)(d:Ro w b cs2){r:qe}(F:qlp n a b=V r):RetV prog 275 [oV qe cs1,oV qe cs2] w r:=by
 obtain rfl:=qB c;obtain rfl:=qB d;refine zV 16 func275 Z fun h=>zSR (qw h Z Z fun _ _ h=>qw h Z Z fun _ _ h=>qq qa h Z Z Z fun _ _ h=>X4 13 2 1 2 1 h Z (r_v (qH qa [0,1] [.tmp 9,.tmp 14] Z Z Z Z Z Z Z Z) Z (zs 0 h Z fun _ h=>qan ?_)));obtain rfl:=qb F;exact qac qa (ρ:=qe) [oV qe [vi (if b.Ba<a.Ba then b.Ba else a.Ba),vi (if b.Bg > a.Bg then b.Bg else a.Bg)]] h ⟨⟨_,_,_,rfl,rfl,h.box 0 Z,rfl⟩,G⟩ (PV.done h (qae (qv (S:=fun _=>False) (qD (⟨(if b.Ba<a.Ba then b.Ba else a.Ba),(if b.Bg > a.Bg then b.Bg else a.Bg)⟩:qe)))))
end Go.Fw
